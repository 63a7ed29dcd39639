namespace Go.Proofs.Ytmllpapkgfclkaa

/-! ## Plain: distances by correcting labels -/
def INF : Int := 4611686018427387904
/-- A weighted graph: N nodes, m edges; edge i goes from fr i to to_ i and weighs wt i (INF: closed). -/
structure WG where
  N : Nat
  m : Nat
  fr : Nat → Nat
  to_ : Nat → Nat
  wt : Nat → Int
structure WG.Ok (G : WG) (W : Int) : Prop where
  f : ∀ i, i < G.m → G.fr i < G.N
  t : ∀ i, i < G.m → G.to_ i < G.N
  w1 : ∀ i, i < G.m → G.wt i ≠ INF → 1 ≤ G.wt i ∧ G.wt i ≤ W
  W1 : 1 ≤ W
  WN : W * G.N < 1125899906842624
def upd (D : Nat → Int) (t : Nat) (x : Int) : Nat → Int := fun v => if v = t then x else D v
theorem upd_at (D : Nat → Int) (t : Nat) (x : Int) : upd D t x t = x := by simp [upd]
theorem upd_ne {D : Nat → Int} {t v : Nat} {x : Int} (h : v ≠ t) : upd D t x v = D v := by simp [upd, h]
theorem upd_le {D : Nat → Int} {t : Nat} {x : Int} (h : x ≤ D t) (v : Nat) : upd D t x v ≤ D v := by
  by_cases e : v = t
  · subst e; rw [upd_at]; exact h
  · rw [upd_ne e]; exact Int.le_refl _
/-- How many of the nodes below K are nearer than x. -/
def near (D : Nat → Int) (x : Int) : Nat → Nat
  | 0 => 0
  | k + 1 => near D x k + if D k < x then 1 else 0
theorem near_le (D : Nat → Int) (x : Int) : ∀ K, near D x K ≤ K
  | 0 => Nat.le_refl _
  | k + 1 => by have := near_le D x k; unfold near; split <;> omega
theorem near_mono {D E : Nat → Int} {x y : Int} : ∀ K, (∀ v, v < K → D v < x → E v < y) → near D x K ≤ near E y K
  | 0, _ => Nat.le_refl _
  | k + 1, h => by
    have := near_mono (D := D) (E := E) (x := x) (y := y) k (fun v hv => h v (by omega))
    have h2 := h k (by omega)
    unfold near
    by_cases a : D k < x
    · rw [if_pos a, if_pos (h2 a)]; omega
    · rw [if_neg a]; split <;> omega
theorem near_strict {D E : Nat → Int} {x y : Int} {u : Nat} : ∀ K, u < K → (∀ v, v < K → D v < x → E v < y) → ¬ D u < x → E u < y → near D x K + 1 ≤ near E y K
  | 0, h, _, _, _ => absurd h (Nat.not_lt_zero _)
  | k + 1, hu, h, h1, h2 => by
    unfold near
    by_cases e : u = k
    · subst e
      have := near_mono (D := D) (E := E) (x := x) (y := y) u (fun v hv => h v (by omega))
      rw [if_neg h1, if_pos h2]; omega
    · have := near_strict (D := D) (E := E) (x := x) (y := y) k (show u < k by omega) (fun v hv => h v (by omega)) h1 h2
      have h3 := h k (by omega)
      by_cases a : D k < x
      · rw [if_pos a, if_pos (h3 a)]; omega
      · rw [if_neg a]; split <;> omega
/-- The sum of the distances, each cut at B. -/
def sumB (D : Nat → Int) (B : Int) : Nat → Nat
  | 0 => 0
  | k + 1 => sumB D B k + (min (D k) B).toNat
theorem sumB_upd {D : Nat → Int} {B x : Int} {t : Nat} (hx : 0 ≤ x) (hxB : x < B) (hd : x < D t) : ∀ K, t < K → sumB (upd D t x) B K + 1 ≤ sumB D B K
  | 0, h => absurd h (Nat.not_lt_zero _)
  | k + 1, h => by
    unfold sumB
    have same : ∀ K, K ≤ t → sumB (upd D t x) B K = sumB D B K := by
      intro K
      induction K with
      | zero => intro _; rfl
      | succ K ih => intro hK; unfold sumB; rw [ih (by omega), upd_ne (by omega)]
    by_cases e : t = k
    · subst e
      rw [same t (Nat.le_refl _), upd_at]
      have : (min x B).toNat + 1 ≤ (min (D t) B).toNat := by omega
      omega
    · have := sumB_upd hx hxB hd k (show t < k by omega)
      rw [upd_ne (by omega)]
      omega
def code (x : Int) (u : Nat) : Int := x * 4096 + (u : Int)
theorem code_div {x : Int} {u : Nat} (hu : u < 4096) : code x u / 4096 = x := by unfold code; omega
theorem code_mod {x : Int} {u : Nat} (hu : u < 4096) : code x u % 4096 = (u : Int) := by unfold code; omega
theorem code_inj {x y : Int} {u v : Nat} (hu : u < 4096) (hv : v < 4096) (h : code x u = code y v) : x = y ∧ u = v := by unfold code at h; omega

/-- What holds of the distances whatever is in the queue. -/
structure Lab (G : WG) (W : Int) (s : Nat) (D : Nat → Int) : Prop where
  ok : G.Ok W
  n4 : G.N ≤ 4096
  sN : s < G.N
  d0 : D s = 0
  lo : ∀ v, v < G.N → 0 ≤ D v
  hi : ∀ v, v < G.N → D v ≠ INF → D v ≤ W * (near D (D v) G.N : Nat)
  top : ∀ v, v < G.N → D v ≤ INF
  att : ∀ v, v < G.N → v ≠ s → D v ≠ INF → ∃ i, i < G.m ∧ G.to_ i = v ∧ G.wt i ≠ INF ∧ D (G.fr i) ≠ INF ∧ D (G.fr i) + G.wt i ≤ D v
def bndB (G : WG) (W : Int) : Int := W * G.N + 1
theorem mul_succ_int (W : Int) (n : Nat) : W * ((n + 1 : Nat) : Int) = W * (n : Int) + W := by rw [Int.natCast_add, Int.mul_add]; simp
theorem Lab.small {G : WG} {W : Int} {s : Nat} {D : Nat → Int} (h : Lab G W s D) {v : Nat} (hv : v < G.N) (hd : D v ≠ INF) : D v + W ≤ W * G.N := by
  have h1 := h.hi v hv hd
  have h2 : near D (D v) G.N + 1 ≤ G.N := by
    have := near_strict (D := D) (E := fun _ => 0) (x := D v) (y := 1) (u := v) G.N hv (fun _ _ _ => by decide) (by omega) (by decide)
    have := near_le (fun _ => 0) 1 G.N
    omega
  have h3 := h.ok.W1
  have : W * ((near D (D v) G.N + 1 : Nat) : Int) ≤ W * G.N := Int.mul_le_mul_of_nonneg_left (by omega) (by omega)
  rw [mul_succ_int] at this
  omega
/-- The queue q beside the labels. -/
structure Que (G : WG) (W : Int) (s : Nat) (D : Nat → Int) (q : List Int) : Prop where
  lab : Lab G W s D
  el : ∀ e ∈ q, ∃ (x : Int) (u : Nat), e = code x u ∧ u < G.N ∧ D u ≤ x ∧ 0 ≤ x ∧ x < bndB G W
  len : q.length + sumB D (bndB G W) G.N ≤ G.N * (bndB G W).toNat
def relaxed (G : WG) (D : Nat → Int) (u : Nat) : Prop := ∀ i, i < G.m → G.fr i = u → G.wt i ≠ INF → D (G.to_ i) ≤ D u + G.wt i
/-- Between two rounds. -/
structure Rnd (G : WG) (W : Int) (s : Nat) (D : Nat → Int) (q : List Int) : Prop where
  que : Que G W s D q
  rel : ∀ u, u < G.N → D u ≠ INF → code (D u) u ∈ q ∨ relaxed G D u
/-- Within a round: node u, at distance x, is being relaxed; the edges of P have been. -/
structure Mid (G : WG) (W : Int) (s : Nat) (D : Nat → Int) (q : List Int) (u : Nat) (x : Int) (P : Nat → Prop) : Prop where
  que : Que G W s D q
  uN : u < G.N
  du : D u = x
  fin : x ≠ INF
  rel : ∀ v, v < G.N → D v ≠ INF → v ≠ u → code (D v) v ∈ q ∨ relaxed G D v
  par : ∀ i, P i → i < G.m → G.fr i = u → G.wt i ≠ INF → D (G.to_ i) ≤ x + G.wt i
def meas (G : WG) (W : Int) (D : Nat → Int) (q : List Int) : Nat := 2 * sumB D (bndB G W) G.N + q.length

section
variable {G : WG} {W : Int} {s : Nat} {D : Nat → Int} {q q2 : List Int} {u : Nat} {x : Int} {P : Nat → Prop} {i : Nat}
/-- The labels when node (to_ i) has been set to x + w. -/
theorem Lab.upd (h : Lab G W s D) (hi : i < G.m) (hw : G.wt i ≠ INF) (hx : D (G.fr i) = x) (hf : x ≠ INF) (hlt : x + G.wt i < D (G.to_ i)) : Lab G W s (upd D (G.to_ i) (x + G.wt i)) ∧ 0 ≤ x + G.wt i ∧ x + G.wt i < bndB G W ∧ G.to_ i ≠ G.fr i := by
  have hfN := h.ok.f i hi
  have htN := h.ok.t i hi
  obtain ⟨w1, w2⟩ := h.ok.w1 i hi hw
  have hx0 := h.lo _ hfN
  have hsm := h.small hfN (by rw [hx]; exact hf)
  have hne : G.to_ i ≠ G.fr i := fun e => by rw [e] at hlt; omega
  have hns : G.to_ i ≠ s := fun e => by rw [e, h.d0] at hlt; omega
  refine ⟨⟨h.ok, h.n4, h.sN, by rw [upd_ne (fun e => hns e.symm)]; exact h.d0, ?_, ?_, ?_, ?_⟩, by omega, by unfold bndB; omega, hne⟩
  · intro v hv
    by_cases e : v = G.to_ i
    · subst e; rw [upd_at]; omega
    · rw [upd_ne e]; exact h.lo v hv
  · intro v hv hd
    have hW := h.ok.W1
    by_cases e : v = G.to_ i
    · subst e
      rw [upd_at] at hd ⊢
      have h1 := h.hi _ hfN (by rw [hx]; exact hf)
      have h2 : near D (D (G.fr i)) G.N + 1 ≤ near (Go.Proofs.Ytmllpapkgfclkaa.upd D (G.to_ i) (x + G.wt i)) (x + G.wt i) G.N := by
        refine near_strict (u := G.fr i) G.N hfN (fun v hv hlt2 => ?_) (by omega) (by rw [upd_ne (fun e => hne e.symm)]; omega)
        have : v ≠ G.to_ i := fun e => by subst e; omega
        rw [upd_ne this]; omega
      have h3 : W * ((near D (D (G.fr i)) G.N + 1 : Nat) : Int) ≤ W * (near (Go.Proofs.Ytmllpapkgfclkaa.upd D (G.to_ i) (x + G.wt i)) (x + G.wt i) G.N : Nat) := Int.mul_le_mul_of_nonneg_left (by omega) (by omega)
      rw [mul_succ_int] at h3
      omega
    · rw [upd_ne e] at hd ⊢
      have h1 := h.hi v hv hd
      have h2 : near D (D v) G.N ≤ near (Go.Proofs.Ytmllpapkgfclkaa.upd D (G.to_ i) (x + G.wt i)) (D v) G.N := near_mono G.N (fun z hz hlt2 => by
        have := upd_le (D := D) (t := G.to_ i) (x := x + G.wt i) (by omega) z
        omega)
      have h3 : W * ((near D (D v) G.N : Nat) : Int) ≤ W * (near (Go.Proofs.Ytmllpapkgfclkaa.upd D (G.to_ i) (x + G.wt i)) (D v) G.N : Nat) := Int.mul_le_mul_of_nonneg_left (by omega) (by omega)
      omega
  · intro v hv
    have h1 := upd_le (D := D) (t := G.to_ i) (x := x + G.wt i) (by omega) v
    have := h.top v hv
    omega
  · intro v hv hvs hd
    by_cases e : v = G.to_ i
    · subst e
      refine ⟨i, hi, rfl, hw, by rw [upd_ne (fun e => hne e.symm), hx]; exact hf, by rw [upd_at, upd_ne (fun e => hne e.symm), hx]; exact Int.le_refl _⟩
    · rw [upd_ne e] at hd ⊢
      obtain ⟨j, h1, h2, h3, h4, h5⟩ := h.att v hv hvs hd
      have h6 := upd_le (D := D) (t := G.to_ i) (x := x + G.wt i) (by omega) (G.fr j)
      have h7 := h.top _ (h.ok.f j h1)
      refine ⟨j, h1, h2, h3, fun e2 => ?_, by omega⟩
      omega
/-- An edge that shortens: the target's label falls, and the target comes into the queue. -/
theorem Mid.relax (h : Mid G W s D q u x P) (hi : i < G.m) (hu : G.fr i = u) (hw : G.wt i ≠ INF) (hlt : x + G.wt i < D (G.to_ i)) (hq : q2.Perm (code (x + G.wt i) (G.to_ i) :: q)) :
    Mid G W s (upd D (G.to_ i) (x + G.wt i)) q2 u x (fun j => P j ∨ j = i) ∧ meas G W (upd D (G.to_ i) (x + G.wt i)) q2 < meas G W D q := by
  have hL := h.que.lab
  have hxf : D (G.fr i) = x := by rw [hu]; exact h.du
  obtain ⟨h1, h2, h3, h4⟩ := hL.upd hi hw hxf h.fin hlt
  have htN := hL.ok.t i hi
  have hs := sumB_upd h2 h3 hlt G.N htN
  have hml : q2.length = q.length + 1 := by rw [hq.length_eq]; rfl
  have hut : u ≠ G.to_ i := fun e => h4 (by rw [hu, e])
  refine ⟨⟨⟨h1, ?_, ?_⟩, h.uN, by rw [upd_ne hut]; exact h.du, h.fin, ?_, ?_⟩, ?_⟩
  · intro e he
    rcases List.mem_cons.1 (hq.mem_iff.1 he) with rfl | he
    · exact ⟨_, _, rfl, htN, by rw [upd_at]; exact Int.le_refl _, h2, h3⟩
    · obtain ⟨y, v, e1, e2, e3, e4, e5⟩ := h.que.el e he
      have := upd_le (D := D) (t := G.to_ i) (x := x + G.wt i) (by omega) v
      exact ⟨y, v, e1, e2, by omega, e4, e5⟩
  · have := h.que.len; omega
  · intro v hv hd hvu
    by_cases e : v = G.to_ i
    · subst e
      rw [upd_at]
      exact Or.inl (hq.mem_iff.2 (List.mem_cons_self ..))
    · rw [upd_ne e] at hd ⊢
      rcases h.rel v hv hd hvu with g | g
      · exact Or.inl (hq.mem_iff.2 (List.mem_cons_of_mem _ g))
      · refine Or.inr fun j hj hjv hjw => ?_
        have := upd_le (D := D) (t := G.to_ i) (x := x + G.wt i) (by omega) (G.to_ j)
        have := g j hj hjv hjw
        rw [upd_ne e]; omega
  · intro j hj hjm hju hjw
    have hle := upd_le (D := D) (t := G.to_ i) (x := x + G.wt i) (by omega) (G.to_ j)
    rcases hj with hj | rfl
    · have := h.par j hj hjm hju hjw; omega
    · rw [upd_at]; exact Int.le_refl _
  · unfold meas; omega
/-- An edge that doesn't. -/
theorem Mid.skip (h : Mid G W s D q u x P) (hc : G.wt i = INF ∨ ¬ x + G.wt i < D (G.to_ i)) : Mid G W s D q u x (fun j => P j ∨ j = i) :=
  ⟨h.que, h.uN, h.du, h.fin, h.rel, fun j hj hjm hju hjw => by
    rcases hj with hj | rfl
    · exact h.par j hj hjm hju hjw
    · rcases hc with hc | hc
      · exact absurd hc hjw
      · omega⟩
theorem Mid.done (h : Mid G W s D q u x P) (hP : ∀ i, i < G.m → G.fr i = u → P i) : Rnd G W s D q :=
  ⟨h.que, fun v hv hd => by
    by_cases e : v = u
    · subst e
      exact Or.inr fun i hi hiu hw => by rw [h.du]; exact h.par i (hP i hi hiu) hi hiu hw
    · exact h.rel v hv hd e⟩
/-- An entry leaves the queue. -/
theorem Rnd.pop (h : Rnd G W s D q) {e : Int} (hq : q.Perm (e :: q2)) : ∃ (y : Int) (v : Nat), e = code y v ∧ v < G.N ∧ y < bndB G W ∧ 0 ≤ y ∧ meas G W D q2 < meas G W D q ∧ D v ≤ y ∧
    ((D v < y ∧ Rnd G W s D q2) ∨ (D v = y ∧ Mid G W s D q2 v y (fun _ => False))) := by
  obtain ⟨y, v, e1, e2, e3, e4, e5⟩ := h.que.el e (hq.mem_iff.2 (List.mem_cons_self ..))
  have hl : q.length = q2.length + 1 := by rw [hq.length_eq]; rfl
  have hQ : Que G W s D q2 := ⟨h.que.lab, fun z hz => h.que.el z (hq.mem_iff.2 (List.mem_cons_of_mem _ hz)), by have := h.que.len; omega⟩
  have hn := h.que.lab.n4
  refine ⟨y, v, e1, e2, e5, e4, by unfold meas; omega, e3, ?_⟩
  by_cases hlt : D v < y
  · refine Or.inl ⟨hlt, hQ, fun z hz hd => ?_⟩
    rcases h.rel z hz hd with g | g
    · rcases List.mem_cons.1 (hq.mem_iff.1 g) with g | g
      · rw [e1] at g
        obtain ⟨g1, g2⟩ := code_inj (by omega) (by omega) g
        subst g2; omega
      · exact Or.inl g
    · exact Or.inr g
  · have hy : D v = y := by omega
    have hfin : y ≠ INF := fun e6 => by
      have h1 := h.que.lab.ok.WN
      unfold bndB at e5; unfold INF at e6; omega
    refine Or.inr ⟨hy, hQ, e2, hy, hfin, fun z hz hd hzv => ?_, fun _ hf => hf.elim⟩
    rcases h.rel z hz hd with g | g
    · rcases List.mem_cons.1 (hq.mem_iff.1 g) with g | g
      · rw [e1] at g
        exact absurd (code_inj (by omega) (by omega) g).2 hzv
      · exact Or.inl g
    · exact Or.inr g
end
/-- The distances from s. -/
structure IsDist (G : WG) (s : Nat) (D : Nat → Int) : Prop where
  d0 : D s = 0
  lo : ∀ v, v < G.N → 0 ≤ D v ∧ D v ≤ INF
  rel : ∀ i, i < G.m → G.wt i ≠ INF → D (G.fr i) ≠ INF → D (G.to_ i) ≤ D (G.fr i) + G.wt i
  att : ∀ v, v < G.N → v ≠ s → D v ≠ INF → ∃ i, i < G.m ∧ G.to_ i = v ∧ G.wt i ≠ INF ∧ D (G.fr i) ≠ INF ∧ D (G.fr i) + G.wt i = D v
theorem Rnd.dist {G : WG} {W : Int} {s : Nat} {D : Nat → Int} (h : Rnd G W s D []) : IsDist G s D :=
  ⟨h.que.lab.d0, fun v hv => ⟨h.que.lab.lo v hv, h.que.lab.top v hv⟩, fun i hi hw hd => by
    rcases h.rel _ (h.que.lab.ok.f i hi) hd with g | g
    · cases g
    · exact g i hi rfl hw, fun v hv hvs hd => by
    obtain ⟨i, h1, h2, h3, h4, h5⟩ := h.que.lab.att v hv hvs hd
    refine ⟨i, h1, h2, h3, h4, ?_⟩
    rcases h.rel _ (h.que.lab.ok.f i h1) h4 with g | g
    · cases g
    · have := g i h1 rfl h3; rw [h2] at this; omega⟩
theorem IsDist.le {G : WG} {W : Int} {s : Nat} {D E : Nat → Int} (hG : G.Ok W) (h : IsDist G s D) (g : IsDist G s E) : ∀ (n : Nat) (v : Nat), v < G.N → E v ≠ INF → E v ≤ n → D v ≤ E v := by
  intro n
  induction n with
  | zero =>
    intro v hv hf hn
    by_cases e : v = s
    · subst e; rw [h.d0, g.d0]; exact Int.le_refl _
    · obtain ⟨i, h1, h2, h3, h4, h5⟩ := g.att v hv e hf
      have := (g.lo _ (hG.f i h1)).1
      have := (hG.w1 i h1 h3).1
      omega
  | succ n ih =>
    intro v hv hf hn
    by_cases e : v = s
    · subst e; rw [h.d0, g.d0]; exact Int.le_refl _
    · obtain ⟨i, h1, h2, h3, h4, h5⟩ := g.att v hv e hf
      have hw := (hG.w1 i h1 h3).1
      have hi := ih _ (hG.f i h1) h4 (by omega)
      have ht := (g.lo _ (hG.f i h1)).2
      have hne : D (G.fr i) ≠ INF := fun e2 => by omega
      have := h.rel i h1 h3 hne
      rw [h2] at this
      omega
/-- There is one such function only. -/
theorem IsDist.uniq {G : WG} {W : Int} {s : Nat} {D E : Nat → Int} (hG : G.Ok W) (h : IsDist G s D) (g : IsDist G s E) {v : Nat} (hv : v < G.N) : D v = E v := by
  have a : E v ≠ INF → D v ≤ E v := fun hf => h.le hG g (E v).toNat v hv hf (by have := (g.lo v hv).1; omega)
  have b : D v ≠ INF → E v ≤ D v := fun hf => g.le hG h (D v).toNat v hv hf (by have := (h.lo v hv).1; omega)
  have := (g.lo v hv).2
  have := (h.lo v hv).2
  by_cases e1 : E v = INF
  · by_cases e2 : D v = INF
    · omega
    · have := b e2; omega
  · have := a e1
    by_cases e2 : D v = INF
    · omega
    · have := b e2; omega
/-- The start: s at 0, all others without bound, s in the queue. -/
def start (s : Nat) : Nat → Int := upd (fun _ => INF) s 0
theorem start_rnd {G : WG} {W : Int} {s : Nat} (hG : G.Ok W) (hn : G.N ≤ 4096) (hs : s < G.N) : Rnd G W s (start s) [code 0 s] := by
  have hW := hG.W1
  have hz : ∀ v, start s v = if v = s then 0 else INF := fun v => rfl
  have hB : 1 ≤ bndB G W := by
    unfold bndB
    have : 0 ≤ W * (G.N : Int) := Int.mul_nonneg (by omega) (by omega)
    omega
  have hBI : bndB G W ≤ INF := by have := hG.WN; unfold bndB INF; omega
  refine ⟨⟨⟨hG, hn, hs, by rw [hz, if_pos rfl], ?_, ?_, ?_, ?_⟩, ?_, ?_⟩, ?_⟩
  · intro v _; rw [hz]; split <;> first | omega | (unfold INF; omega)
  · intro v _ hd
    rw [hz] at hd ⊢
    split at hd
    · rename_i e; rw [if_pos e]
      exact Int.mul_nonneg (by omega) (by omega)
    · exact absurd rfl hd
  · intro v _; rw [hz]; split <;> first | omega | (unfold INF; omega)
  · intro v _ hvs hd
    rw [hz, if_neg hvs] at hd
    exact absurd rfl hd
  · intro e he
    rw [List.mem_singleton] at he
    subst he
    exact ⟨0, s, rfl, hs, by rw [hz, if_pos rfl]; exact Int.le_refl _, Int.le_refl _, by omega⟩
  · have go : ∀ K, sumB (start s) (bndB G W) K + (if s < K then (bndB G W).toNat else 0) = K * (bndB G W).toNat := by
      intro K
      induction K with
      | zero => simp [sumB]
      | succ K ih =>
        unfold sumB
        rw [hz, Nat.succ_mul]
        by_cases e : K = s
        · subst e
          rw [if_neg (Nat.lt_irrefl _)] at ih
          rw [if_pos rfl, if_pos (Nat.lt_succ_self _)]
          have : (min 0 (bndB G W)).toNat = 0 := by omega
          omega
        · rw [if_neg e]
          have h1 : (min INF (bndB G W)).toNat = (bndB G W).toNat := by omega
          by_cases h2 : s < K
          · rw [if_pos h2] at ih
            rw [if_pos (by omega)]; omega
          · rw [if_neg h2] at ih
            rw [if_neg (by omega)]; omega
    have := go G.N
    rw [if_pos hs] at this
    have : 1 ≤ (bndB G W).toNat := by omega
    simp only [List.length_singleton]
    omega
  · intro u hu hd
    rw [hz] at hd
    split at hd
    · rename_i e
      subst e
      exact Or.inl (by rw [hz, if_pos rfl]; exact List.mem_singleton.2 rfl)
    · exact absurd rfl hd
end Go.Proofs.Ytmllpapkgfclkaa
