import Derived.Test.YtffodheoamlhjaaGen2
namespace Go.Proofs.Ytffodheoamlhjaa
open Go.RowKit
theorem src_new2 {w : World} {o : Obj} {cs : Array Value} {t : TypeId} {news : List Value} (h : news = cs.toList) : ∀ j u, news[j]? = some u → ((w.alloc o).alloc (.cells cs t)).cell? ((⟨w.heap.size + 1, 0, none⟩ : Addr).add j) = some u := by
  have := src_new (w := w.alloc o) (cs := cs) (t := t) h
  rwa [World.size_alloc] at this
end Go.Proofs.Ytffodheoamlhjaa
