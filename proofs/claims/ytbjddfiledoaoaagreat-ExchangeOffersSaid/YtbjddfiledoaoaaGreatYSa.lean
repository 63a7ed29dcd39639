import Derived.Test.YtbjddfiledoaoaaGreatYO
namespace Go.Proofs.YtbjddfiledoaoaaGreat
open Go.RowKit
theorem results_cell2_tmp {P:Program} {fn:Func} {p q r:Tmp} {ty ty2:TypeId} (h:fn.results=#[.cell p ty,.cell q ty2,.tmp r]) (tmps:Array Value) (w:World) (g g2:Nat) (t t2:TypeId) (cs cs2:Array Value) (fr fr2:Nat × Nat) (d d2:TypeDesc) (v:Value)
 (hp:tmps.getD p undef=.pointer (some ⟨g,0,none⟩)) (hq:tmps.getD q undef=.pointer (some ⟨g2,0,none⟩)) (hr:tmps.getD r undef=v) (hg:w.heap[g]? = some (.cells cs t fr)) (hg2:w.heap[g2]? = some (.cells cs2 t2 fr2))
 (hu:P.underlying ty=some d) (hd:(match d with | .struct _ | .array _ _=>true | _=>false)=true) (hi:(P.info? ty).map (·.size)=some cs.size)
 (hu2:P.underlying ty2=some d2) (hd2:(match d2 with | .struct _ | .array _ _=>true | _=>false)=true) (hi2:(P.info? ty2).map (·.size)=some cs2.size) :
 (results fn tmps).run P w=.ok (.tuple #[.agg cs,.agg cs2,v]) w:=by
 have hp':tmps[p]?.getD undef=.pointer (some ⟨g,0,none⟩):=by simpa using hp
 have hq':tmps[q]?.getD undef=.pointer (some ⟨g2,0,none⟩):=by simpa using hq
 have hr':tmps[r]?.getD undef=v:=by simpa using hr
 simp [results,h,hp',hq',hr',asAddr,run_loadVar_row w g t ty cs fr d hg hu hd hi,run_loadVar_row w g2 t2 ty2 cs2 fr2 d2 hg2 hu2 hd2 hi2]
def bodyA (a:AT):List UInt8:=if 0<a.sp.length then a.sp else encM a.note
def okL (a:AT) (place:Int):Bool:=decide (errM (bodyA a)=0∧a.tt=place∧a.fr=(rawM (bodyA a)).c∧0≤a.fr∧a.fr<place)
def LtP (w:World) (Av:Nat→Prop) (a:AT) (place:Int) (e:Ending) (w':World):Prop:=∃ (C:Option Addr) (cc:Nat) (nv:Array Value),e=.returned (.tuple #[.agg #[.int .i64 a.fr,.int .i64 a.tt,.slice C (bodyA a).length cc],.agg nv,.bool (okL a place)])∧Sl w' Av 1 C (bodyA a).length (bcells (bodyA a))∧nv.size=7∧nv.all (·.oneCell')=true ∧
 (okL a place=true→∃ (B:Option Addr) (bc:Nat),nv=((rawM (bodyA a)).cells B bc).toArray∧Sl w' Av 1 B (rawM (bodyA a)).body.length (bcells (rawM (bodyA a)).body))∧Same w w'
theorem encM_le (m:Nt) (_h:m.body.length≤200):(encM m).length≤10000:=by
 cases hv:vM m with
 | false=>rw [encM,if_neg (by rw [hv];simp)];simp
 | true =>
   have h1:=encM_len hv
   rw [encM,if_pos hv]
   simp only [List.length_append]
   omega
end Go.Proofs.YtbjddfiledoaoaaGreat
