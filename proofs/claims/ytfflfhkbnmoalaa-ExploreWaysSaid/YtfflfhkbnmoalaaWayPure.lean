/- The plain law of explore.left: what its loops answer are the distances to the state. -/
import Derived.Test.YtfflfhkbnmoalaaWayLeft
import Derived.Test.YtfflfhkbnmoalaaPExploreWaysx3
import Derived.Test.YtfflfhkbnmoalaaPExploreWaysx4
import Derived.Test.YtfflfhkbnmoalaaPExploreWaysx5
namespace Go.Proofs.Ytfflfhkbnmoalaa.PExploreWays
open Go.RowKit Go.Proofs.YtfflfhkbnmoalaaW.PrintWords Go.Proofs.YtfflfhkbnmoalaaW.PrintLast Go.Proofs.YtfflfhkbnmoalaaW.PrintMore

/-- A step of the document as a step of the program. -/
def conv (x : S55) : S56 := ⟨x.f0, x.f1, x.f2, x.f3⟩
theorem rd_conv (m : List S55) (i : Nat) (h : i < m.length) : rd_T56 (m.map conv) i = conv m[i] := by
  simp [rd_T56, h]
theorem rd_conv3 (m : List S55) (i : Nat) (h : i < m.length) : (rd_T56 (m.map conv) i).f3 = m[i].f3 := by rw [rd_conv m i h]; rfl
theorem rd_conv0 (m : List S55) (i : Nat) (h : i < m.length) : (rd_T56 (m.map conv) i).f0 = m[i].f0 := by rw [rd_conv m i h]; rfl
theorem rd_at (m : List S55) (i : Nat) (h : i < m.length) : rd_T55 m i = m[i] := by
  simp [rd_T55, h]

theorem w64 (n : Int) (h : -9223372036854775808 ≤ n ∧ n ≤ 9223372036854775807) : wrap64 n = n := by unfold wrap64; omega
theorem wrap_nat (i : Nat) (h : i < 4611686018427387904) : wrap64 ((i : Int) + 1) = ((i + 1 : Nat) : Int) := by
  rw [w64 _ (by omega)]
  omega
theorem rd_set (xs : List Int) (i j v : Int) (hi : 0 ≤ i) (hj : 0 ≤ j) (hl : i < xs.length) : rd (xs.set i.toNat v) j = if j = i then v else rd xs j := by
  unfold rd
  by_cases h : j = i
  · subst h
    rw [if_pos rfl, List.getD_eq_getElem?_getD, List.getElem?_set_self (by omega)]
    rfl
  · rw [if_neg h, List.getD_eq_getElem?_getD, List.getElem?_set_ne (by omega), List.getD_eq_getElem?_getD]
theorem rdL_set (xs : List (List Int)) (i j : Int) (v : List Int) (hi : 0 ≤ i) (hj : 0 ≤ j) (hl : i < xs.length) : rd_L2 (xs.set i.toNat v) j = if j = i then v else rd_L2 xs j := by
  unfold rd_L2
  by_cases h : j = i
  · subst h
    rw [if_pos rfl, List.getD_eq_getElem?_getD, List.getElem?_set_self (by omega)]
    rfl
  · rw [if_neg h, List.getD_eq_getElem?_getD, List.getElem?_set_ne (by omega), List.getD_eq_getElem?_getD]

/-- All steps lead from and to states. -/
def Val (n : Nat) (m : List S55) : Prop := ∀ x ∈ m, (0 ≤ x.f0 ∧ x.f0 < n) ∧ (0 ≤ x.f3 ∧ x.f3 < n)

/-- far has of each state how many steps there are at least. -/
structure Dist (n : Nat) (m : List S55) (s : Int) (far : List Int) : Prop where
  len : far.length = n
  s0 : rd far s = 0
  zero : ∀ v : Int, 0 ≤ v → v < n → rd far v = 0 → v = s
  bnd : ∀ v : Int, 0 ≤ v → v < n → rd far v + 1 ≤ n
  down : ∀ v : Int, 0 ≤ v → v < n → 0 < rd far v → ∃ x ∈ m, x.f0 = v ∧ rd far x.f3 = rd far v - 1
  edge : ∀ x ∈ m, 0 ≤ rd far x.f3 → 0 ≤ rd far x.f0 ∧ rd far x.f0 ≤ rd far x.f3 + 1

def neg (far : List Int) : Nat := far.countP (fun d => decide (d < 0))
theorem neg_set : ∀ (far : List Int) (i : Nat) (v : Int), i < far.length → far.getD i 0 < 0 → 0 ≤ v → neg (far.set i v) + 1 = neg far
  | [], i, v, h, _, _ => by simp at h
  | d :: ds, 0, v, _, hd, hv => by
    simp only [List.getD_cons_zero] at hd
    simp [neg, hd, Int.not_lt.2 hv]
  | d :: ds, i + 1, v, h, hd, hv => by
    simp only [List.getD_cons_succ] at hd
    have := neg_set ds i v (by simpa using h) hd hv
    simp only [neg, List.set_cons_succ, List.countP_cons] at this ⊢
    omega
theorem neg_le (far : List Int) : neg far ≤ far.length := List.countP_le_length

/-- The state of the walk from the state backwards. -/
structure BI (n : Nat) (m : List S55) (s : Int) (far todo : List Int) : Prop where
  len : far.length = n
  s0 : rd far s = 0
  zero : ∀ v : Int, 0 ≤ v → v < n → rd far v = 0 → v = s
  bnd : ∀ v : Int, 0 ≤ v → v < n → rd far v + 1 + neg far ≤ n
  down : ∀ v : Int, 0 ≤ v → v < n → 0 < rd far v → ∃ x ∈ m, x.f0 = v ∧ rd far x.f3 = rd far v - 1
  inq : ∀ u ∈ todo, (0 ≤ u ∧ u < n) ∧ 0 ≤ rd far u
  sorted : todo.Pairwise (fun a b => rd far a ≤ rd far b)
  top : ∀ h t, todo = h :: t → ∀ v : Int, 0 ≤ v → v < n → rd far v ≤ rd far h + 1
  done : ∀ x ∈ m, 0 ≤ rd far x.f3 → x.f3 ∉ todo → 0 ≤ rd far x.f0 ∧ rd far x.f0 ≤ rd far x.f3 + 1
  few : todo.length + neg far ≤ n

/-- One more is found. -/
theorem BI.push {n : Nat} {m : List S55} {s h v : Int} {far t : List Int} (hV : Val n m) (hs : 0 ≤ s ∧ s < n) (I : BI n m s far (h :: t)) (hv : 0 ≤ v ∧ v < n) (hn : rd far v < 0) (hx : ∃ x ∈ m, x.f3 = h ∧ x.f0 = v) :
    BI n m s (far.set v.toNat (rd far h + 1)) (h :: t ++ [v]) ∧ neg (far.set v.toNat (rd far h + 1)) + 1 = neg far ∧ ∀ u : Int, 0 ≤ u → u ≠ v → rd (far.set v.toNat (rd far h + 1)) u = rd far u := by
  have hh := I.inq h (by simp)
  have hlen := I.len
  have R : ∀ u : Int, 0 ≤ u → rd (far.set v.toNat (rd far h + 1)) u = if u = v then rd far h + 1 else rd far u := fun u hu => rd_set far v u _ hv.1 hu (by omega)
  have Rn : ∀ u : Int, 0 ≤ u → u ≠ v → rd (far.set v.toNat (rd far h + 1)) u = rd far u := fun u hu hne => by rw [R u hu, if_neg hne]
  have Rv : rd (far.set v.toNat (rd far h + 1)) v = rd far h + 1 := by rw [R v hv.1, if_pos rfl]
  have N : neg (far.set v.toNat (rd far h + 1)) + 1 = neg far := neg_set far v.toNat _ (by omega) hn (by omega)
  have hq : ∀ u ∈ h :: t, u ≠ v := by
    rintro u hu rfl
    have := (I.inq u hu).2
    omega
  refine ⟨⟨by simpa using hlen, ?_, ?_, ?_, ?_, ?_, ?_, ?_, ?_, ?_⟩, N, Rn⟩
  · rw [Rn s hs.1 (by rintro rfl; have := I.s0; omega)]
    exact I.s0
  · intro u h0 h1 hu
    by_cases e : u = v
    · subst e
      rw [Rv] at hu
      omega
    · rw [Rn u h0 e] at hu
      exact I.zero u h0 h1 hu
  · intro u h0 h1
    by_cases e : u = v
    · subst e
      rw [Rv]
      have := I.bnd h hh.1.1 hh.1.2
      omega
    · rw [Rn u h0 e]
      have := I.bnd u h0 h1
      omega
  · intro u h0 h1 hu
    by_cases e : u = v
    · subst e
      obtain ⟨x, hxm, rfl, rfl⟩ := hx
      refine ⟨x, hxm, rfl, ?_⟩
      rw [Rv, Rn x.f3 hh.1.1 (hq _ (by simp))]
      omega
    · rw [Rn u h0 e] at hu
      obtain ⟨x, hxm, hx0, hx3⟩ := I.down u h0 h1 hu
      refine ⟨x, hxm, hx0, ?_⟩
      rw [Rn u h0 e, Rn x.f3 (hV x hxm).2.1 (by intro e2; rw [e2] at hx3; omega)]
      exact hx3
  · intro u hu
    rw [List.mem_append] at hu
    rcases hu with hu | hu
    · obtain ⟨a, b⟩ := I.inq u hu
      exact ⟨a, by rw [Rn u a.1 (hq u hu)]; exact b⟩
    · simp only [List.mem_singleton] at hu
      subst hu
      exact ⟨hv, by rw [Rv]; omega⟩
  · rw [List.pairwise_append]
    refine ⟨I.sorted.imp_of_mem (fun {a b} ha hb hab => ?_), by simp, ?_⟩
    · rw [Rn a (I.inq a ha).1.1 (hq a ha), Rn b (I.inq b hb).1.1 (hq b hb)]
      exact hab
    · intro a ha b hb
      simp only [List.mem_singleton] at hb
      subst hb
      rw [Rv, Rn a (I.inq a ha).1.1 (hq a ha)]
      exact I.top h t rfl a (I.inq a ha).1.1 (I.inq a ha).1.2
  · intro h' t' e u h0 h1
    obtain ⟨rfl, _⟩ : h = h' ∧ _ := by simpa using e
    rw [Rn h hh.1.1 (hq h (by simp))]
    by_cases e : u = v
    · subst e
      rw [Rv]
      exact Int.le_refl _
    · rw [Rn u h0 e]
      exact I.top h t rfl u h0 h1
  · intro x hxm hx hnot
    have hne : x.f3 ≠ v := by
      intro e
      exact hnot (by simp [e])
    rw [Rn x.f3 (hV x hxm).2.1 hne] at hx ⊢
    obtain ⟨a, b⟩ := I.done x hxm hx (fun hm => hnot (List.mem_append_left _ hm))
    have hne0 : x.f0 ≠ v := by
      intro e
      rw [e] at a
      omega
    rw [Rn x.f0 (hV x hxm).1.1 hne0]
    exact ⟨a, b⟩
  · have := I.few
    simp only [List.length_append, List.length_cons, List.length_nil] at this ⊢
    omega

/-- The first of the list is done. -/
theorem BI.pop {n : Nat} {m : List S55} {s h : Int} {far t : List Int} (I : BI n m s far (h :: t)) (hd : ∀ x ∈ m, x.f3 = h → 0 ≤ rd far x.f0 ∧ rd far x.f0 ≤ rd far h + 1) : BI n m s far t := by
  refine ⟨I.len, I.s0, I.zero, I.bnd, I.down, fun u hu => I.inq u (by simp [hu]), (List.pairwise_cons.1 I.sorted).2, ?_, ?_, ?_⟩
  · rintro h2 t2 rfl v h0 h1
    have := I.top h _ rfl v h0 h1
    have := (List.pairwise_cons.1 I.sorted).1 h2 (by simp)
    omega
  · intro x hx h0 hn
    by_cases e : x.f3 = h
    · have := hd x hx e
      rw [e]
      exact this
    · exact I.done x hx h0 (by simp [e, hn])
  · have := I.few
    simp only [List.length_cons] at this
    omega

/-- Nothing is left to do. -/
theorem BI.dist {n : Nat} {m : List S55} {s : Int} {far : List Int} (I : BI n m s far []) : Dist n m s far :=
  ⟨I.len, I.s0, I.zero, fun v h0 h1 => by have := I.bnd v h0 h1; omega, I.down, fun x hx h => I.done x hx h (by simp)⟩

/-- The rows: from where a state is come to. -/
def Into (n : Nat) (m : List S55) (x5 : List (List Int)) : Prop := x5.length = n ∧ ∀ u : Int, 0 ≤ u → u < n → ((rd_L2 x5 u).length ≤ m.length) ∧ ∀ v, v ∈ rd_L2 x5 u ↔ ∃ x ∈ m, x.f3 = u ∧ x.f0 = v

theorem rd_mem (xs : List Int) (i : Nat) (h : i < xs.length) : rd xs i ∈ xs := by
  simp [rd, h]

set_option maxHeartbeats 40000 in
/-- The inner loop. -/
theorem l3_ok {n : Nat} {m : List S55} {s : Int} {x5 : List (List Int)} (hn : n ≤ 4096) (hm : m.length ≤ 65536) (hV : Val n m) (hs : 0 ≤ s ∧ s < n) (h5 : Into n m x5) (M : Nat)
    (next : ∀ far todo, BI n m s far todo → 2 * neg far + todo.length < M → ∃ k r, explore_left.l2 k x5 far todo = some r ∧ Dist n m s r) :
    ∀ (d j : Nat) (far t : List Int) (h : Int), j + d = (rd_L2 x5 h).length → BI n m s far (h :: t) → 2 * neg far + (h :: t).length ≤ M →
      (∀ i, i < j → 0 ≤ rd far (rd (rd_L2 x5 h) (i : Nat)) ∧ rd far (rd (rd_L2 x5 h) (i : Nat)) ≤ rd far h + 1) →
      ∃ k r, explore_left.l3 k x5 far (h :: t) (rd_L2 x5 h) ((rd_L2 x5 h).length : Int) (j : Nat) = some r ∧ Dist n m s r := by
  intro d
  induction d with
  | zero =>
    intro j far t h hj I hM hdone
    obtain ⟨k, r, hk, hr⟩ := next far t (I.pop (fun x hx e => by
      have hh := I.inq h (by simp)
      have hmem := ((h5.2 h hh.1.1 hh.1.2).2 x.f0).2 ⟨x, hx, e, rfl⟩
      obtain ⟨i, hi, hg⟩ := List.getElem_of_mem hmem
      have := hdone i (by omega)
      have e2 : rd (rd_L2 x5 h) (i : Nat) = x.f0 := by simp [rd, hi, hg]
      rw [e2] at this
      exact this)) (by simp only [List.length_cons] at hM; omega)
    refine ⟨k + 1, r, ?_, hr⟩
    simp only [explore_left.l3]
    rw [if_neg (by omega), if_pos (by simp only [List.length_cons]; omega)]
    exact hk
  | succ d ih =>
    intro j far t h hj I hM hdone
    have hh := I.inq h (by simp)
    have hlt : j < (rd_L2 x5 h).length := by omega
    have hvm := ((h5.2 h hh.1.1 hh.1.2).2 _).1 (rd_mem _ j hlt)
    have hrl := (h5.2 h hh.1.1 hh.1.2).1
    have hlen := I.len
    have hfew := I.few
    obtain ⟨x, hx, hx3, hx0⟩ := hvm
    have hxv := hV x hx
    generalize hv : rd (rd_L2 x5 h) (j : Nat) = v at hx0
    subst hx0
    by_cases hneg : rd far x.f0 < 0
    · obtain ⟨I2, hN, hR⟩ := I.push hV hs hxv.1 hneg ⟨x, hx, hx3, rfl⟩
      have hhv : rd (far.set x.f0.toNat (rd far h + 1)) h = rd far h := hR h hh.1.1 (by intro e; rw [e] at hh; omega)
      obtain ⟨k, r, hk, hr⟩ := ih (j + 1) _ (t ++ [x.f0]) h (by omega) I2 (by
        simp only [List.length_cons, List.length_append, List.length_nil] at hM ⊢
        omega) (by
        intro i hi
        rw [hhv]
        by_cases e : i = j
        · subst e
          rw [hv, rd_set _ _ _ _ hxv.1.1 hxv.1.1 (by omega), if_pos rfl]
          omega
        · have hd := hdone i (by omega)
          have hne : rd (rd_L2 x5 h) (i : Nat) ≠ x.f0 := by intro e; rw [e] at hd; omega
          have hmem := ((h5.2 h hh.1.1 hh.1.2).2 _).1 (rd_mem _ i (by omega))
          obtain ⟨y, hy, _, hy0⟩ := hmem
          rw [hR _ (by rw [← hy0]; exact (hV y hy).1.1) hne]
          exact hd)
      refine ⟨k + 1, r, ?_, hr⟩
      have hb := I.bnd h hh.1.1 hh.1.2
      have hz : rd (h :: t) 0 = h := rfl
      simp only [List.length_cons] at hfew
      simp only [explore_left.l3]
      rw [if_pos (by omega), if_pos (by omega), if_pos (by omega), hv, if_pos hxv.1.1, if_pos (by omega), if_pos hneg, if_pos (by simp), hz, if_pos hh.1.1, if_pos (by omega), if_pos (by simp only [List.length_cons]; omega), wrap_nat j (by omega), w64 (rd far h + 1) (by omega), List.cons_append]
      exact hk
    · obtain ⟨k, r, hk, hr⟩ := ih (j + 1) far t h (by omega) I hM (by
        intro i hi
        by_cases e : i = j
        · subst e
          rw [hv]
          exact ⟨by omega, I.top h t rfl _ hxv.1.1 hxv.1.2⟩
        · exact hdone i (by omega))
      refine ⟨k + 1, r, ?_, hr⟩
      simp only [explore_left.l3]
      rw [if_pos (by omega), if_pos (by omega), if_pos (by omega), hv, if_pos hxv.1.1, if_pos (by omega), if_neg hneg, wrap_nat j (by omega)]
      exact hk

theorem l2_ok {n : Nat} {m : List S55} {s : Int} {x5 : List (List Int)} (hn : n ≤ 4096) (hm : m.length ≤ 65536) (hV : Val n m) (hs : 0 ≤ s ∧ s < n) (h5 : Into n m x5) :
    ∀ (M : Nat) (far todo : List Int), BI n m s far todo → 2 * neg far + todo.length < M → ∃ k r, explore_left.l2 k x5 far todo = some r ∧ Dist n m s r := by
  intro M
  induction M with
  | zero => intro far todo _ h; omega
  | succ M ih =>
    intro far todo I hM
    cases todo with
    | nil =>
      refine ⟨1, far, ?_, I.dist⟩
      simp only [explore_left.l2]
      rw [if_neg (by simp)]
    | cons h t =>
      have hh := I.inq h (by simp)
      have hl := h5.1
      obtain ⟨k, r, hk, hr⟩ := l3_ok hn hm hV hs h5 M ih (rd_L2 x5 h).length 0 far t h (by omega) I (by omega) (fun i hi => by omega)
      refine ⟨k + 1, r, ?_, hr⟩
      have hz : rd (h :: t) 0 = h := rfl
      simp only [explore_left.l2]
      rw [if_pos (by simp only [List.length_cons]; omega), if_pos (by simp only [List.length_cons]; omega), hz, if_pos hh.1.1, if_pos (by omega)]
      exact hk

theorem neg_repl : ∀ n : Nat, neg (List.replicate n (-1)) = n := by
  intro n
  simp [neg, List.countP_replicate]
theorem rd_repl (n : Nat) (v : Int) (h0 : 0 ≤ v) (h1 : v < n) : rd (List.replicate n (-1)) v = -1 := by
  simp only [rd, List.getD_eq_getElem?_getD, List.getElem?_replicate]
  rw [if_pos (by omega)]
  rfl

/-- At the start. -/
theorem BI.start {n : Nat} {m : List S55} {s : Int} (hV : Val n m) (hs : 0 ≤ s ∧ s < n) : BI n m s ((List.replicate n (-1)).set s.toNat 0) [s] := by
  have R : ∀ u : Int, 0 ≤ u → u < n → rd ((List.replicate n (-1)).set s.toNat 0) u = if u = s then 0 else -1 := fun u h0 h1 => by
    rw [rd_set _ _ _ _ hs.1 h0 (by simpa using hs.2), rd_repl n u h0 h1]
  have N : neg ((List.replicate n (-1)).set s.toNat 0) + 1 = n := by
    rw [neg_set _ _ _ (by simp; omega) (by have := rd_repl n s hs.1 hs.2; unfold rd at this; rw [this]; omega) (by omega), neg_repl]
  refine ⟨by simp, by rw [R s hs.1 hs.2, if_pos rfl], ?_, ?_, ?_, ?_, by simp, ?_, ?_, by simp only [List.length_cons, List.length_nil]; omega⟩
  · intro v h0 h1 h
    rw [R v h0 h1] at h
    split at h
    · assumption
    · omega
  · intro v h0 h1
    rw [R v h0 h1]
    split <;> omega
  · intro v h0 h1 h
    rw [R v h0 h1] at h
    split at h <;> omega
  · intro u hu
    simp only [List.mem_singleton] at hu
    subst hu
    exact ⟨hs, by rw [R u hs.1 hs.2, if_pos rfl]; exact Int.le_refl _⟩
  · intro h t e v h0 h1
    obtain ⟨rfl, _⟩ : s = h ∧ _ := by simpa using e
    rw [R v h0 h1, R s hs.1 hs.2, if_pos rfl]
    split <;> omega
  · intro x hx h hn
    rw [R x.f3 (hV x hx).2.1 (hV x hx).2.2] at h
    split at h
    · rename_i e
      exact absurd (by simp [e]) hn
    · omega

theorem l1_ok {n : Nat} {m : List S55} {s : Int} {far : List Int} (hn : n ≤ 4096) (hm : m.length ≤ 65536) (hV : Val n m) (hs : 0 ≤ s ∧ s < n) (hf : far = List.replicate n (-1)) :
    ∀ (d i : Nat) (x5 : List (List Int)), i + d = m.length → Into n (m.take i) x5 → ∃ k r, explore_left.l1 k s x5 far (m.map conv) ((m.map conv).length : Int) (i : Nat) = some r ∧ Dist n m s r := by
  intro d
  induction d with
  | zero =>
    intro i x5 hi h5
    rw [List.take_of_length_le (by omega)] at h5
    obtain ⟨k, r, hk, hr⟩ := l2_ok hn hm hV hs h5 _ _ _ (BI.start hV hs) (Nat.lt_succ_self _)
    refine ⟨k + 1, r, ?_, hr⟩
    subst hf
    simp only [explore_left.l1]
    rw [if_neg (by simp only [List.length_map]; omega), if_pos hs.1, if_pos (by simpa using hs.2)]
    exact hk
  | succ d ih =>
    intro i x5 hi h5
    have hil : i < m.length := by omega
    have hx := hV m[i] (List.getElem_mem hil)
    have hl5 := h5.1
    obtain ⟨hrl, hrm⟩ := h5.2 m[i].f3 hx.2.1 hx.2.2
    obtain ⟨k, r, hk, hr⟩ := ih (i + 1) (x5.set m[i].f3.toNat (rd_L2 x5 m[i].f3 ++ [m[i].f0])) (by omega) (by
      refine ⟨by simpa using h5.1, fun u h0 h1 => ?_⟩
      rw [rdL_set _ _ _ _ hx.2.1 h0 (by omega), List.take_succ_eq_append_getElem hil]
      obtain ⟨a, b⟩ := h5.2 u h0 h1
      by_cases e : u = m[i].f3
      · subst e
        rw [if_pos rfl]
        refine ⟨by simp only [List.length_append, List.length_cons, List.length_nil]; omega, fun v => ?_⟩
        rw [List.mem_append, b v]
        constructor
        · rintro (⟨x, hx, e3, e0⟩ | hv)
          · exact ⟨x, List.mem_append_left _ hx, e3, e0⟩
          · simp only [List.mem_singleton] at hv
            exact ⟨m[i], List.mem_append_right _ (by simp), rfl, hv.symm⟩
        · rintro ⟨x, hx, e3, e0⟩
          rw [List.mem_append] at hx
          rcases hx with hx | hx
          · exact .inl ⟨x, hx, e3, e0⟩
          · simp only [List.mem_singleton] at hx
            subst hx
            exact .inr (by simp [e0])
      · rw [if_neg e]
        refine ⟨by simp only [List.length_append, List.length_cons, List.length_nil]; omega, fun v => ?_⟩
        rw [b v]
        constructor
        · rintro ⟨x, hx, e3, e0⟩
          exact ⟨x, List.mem_append_left _ hx, e3, e0⟩
        · rintro ⟨x, hx, e3, e0⟩
          rw [List.mem_append] at hx
          rcases hx with hx | hx
          · exact ⟨x, hx, e3, e0⟩
          · simp only [List.mem_singleton] at hx
            subst hx
            exact absurd e3.symm e)
    refine ⟨k + 1, r, ?_, hr⟩
    simp only [List.length_take] at hrl
    simp only [explore_left.l1]
    rw [if_pos (by simp only [List.length_map]; omega), if_pos (by omega), if_pos (by simp only [List.length_map]; omega), rd_conv3 m i hil, rd_conv0 m i hil, if_pos hx.2.1, if_pos (by omega), if_pos (by omega), wrap_nat i (by omega)]
    exact hk

theorem l0_ok {n : Nat} {m : List S55} {s : Int} {l2 l3 : List Int} (hn : n ≤ 4096) (hm : m.length ≤ 65536) (hV : Val n m) (hs : 0 ≤ s ∧ s < n) :
    ∀ (d i : Nat), i + d = n → ∃ k r, explore_left.l0 k s (List.replicate n []) (List.replicate i (-1) ++ List.replicate d 0) (n : Int) (i : Nat) n (m.map conv) l2 l3 = some r ∧ Dist n m s r := by
  intro d
  induction d with
  | zero =>
    intro i hi
    obtain rfl : i = n := by omega
    obtain ⟨k, r, hk, hr⟩ := l1_ok (far := List.replicate i (-1)) hn hm hV hs rfl m.length 0 (List.replicate i []) (by omega) (by
      refine ⟨by simp, fun u h0 h1 => ?_⟩
      have e : rd_L2 (List.replicate i []) u = [] := by
        simp [rd_L2, List.getD_eq_getElem?_getD, List.getElem?_replicate]
        split <;> rfl
      rw [e]
      simp)
    refine ⟨k + 1, r, ?_, hr⟩
    simp only [explore_left.l0]
    rw [if_neg (by omega)]
    simpa using hk
  | succ d ih =>
    intro i hi
    obtain ⟨k, r, hk, hr⟩ := ih (i + 1) (by omega)
    refine ⟨k + 1, r, ?_, hr⟩
    have e : (List.replicate i (-1) ++ List.replicate (d + 1) 0 : List Int).set ((i : Nat) : Int).toNat (-1) = List.replicate (i + 1) (-1) ++ List.replicate d 0 := by
      rw [Int.toNat_natCast, List.set_append_right _ _ (by simp), List.length_replicate, Nat.sub_self, List.replicate_succ (a := (0 : Int)), List.set_cons_zero, List.replicate_succ' (a := (-1 : Int)), List.append_assoc]
      rfl
    simp only [explore_left.l0]
    rw [if_pos (by omega), if_pos (by omega), if_pos (by simp only [List.length_append, List.length_replicate]; omega), wrap_nat i (by omega), e]
    exact hk

theorem left_ok {n : Nat} {m : List S55} {s : Int} {l2 l3 : List Int} (hn : n ≤ 4096) (hm : m.length ≤ 65536) (hV : Val n m) (hs : 0 ≤ s ∧ s < n) :
    ∃ k r, explore_left.f k n (m.map conv) l2 l3 s = some r ∧ Dist n m s r := by
  obtain ⟨k, r, hk, hr⟩ := l0_ok (l2 := l2) (l3 := l3) hn hm hV hs n 0 (by omega)
  refine ⟨k, r, ?_, hr⟩
  unfold explore_left.f
  rw [if_pos (by omega), if_pos (by omega), if_pos (by omega), Option.bind_some]
  simpa using hk
end Go.Proofs.Ytfflfhkbnmoalaa.PExploreWays
