/- (*fate.Book).Offer, (*chordmailref24.Book).Offer. -/
import Derived.Test.YtlbfnnngemonoaaFatHas
namespace Go.Proofs.Ytlbfnnngemonoaa.Fat
open Go.RowKit Go.Proofs.Ytlbfnnngemonoaa.PFateBooks
open Go.Proofs.YtlbfnnngemonoaaW.PrintWords Go.Proofs.YtlbfnnngemonoaaW.PrintLast Go.Proofs.YtlbfnnngemonoaaW.PrintMore
set_option linter.unusedVariables false
set_option linter.unusedSimpArgs false
def T6 : Bool × List (List Nat × List Nat) := (true, [([], []), ([], []), ([1], [1]), ([2], [2]), ([3], [3]), ([], []), ([5], [5]), ([4, 6], [4, 6]), ([0, 0, 1, 2, 3, 4, 5, 6, 7], [0]), ([8, 0, 1, 2, 3, 4, 5, 6, 7], [8]), ([9, 7, 7, 0, 1, 2, 3, 4, 5, 6, 7], [7, 9])])
def B6 : List Nat := [0, 0, 2, 6, 14, 0, 32, 126, 255, 511, 1023]
theorem tab6 : rtab .any (opsOf Try.f15 6) = T6 := by kernel_rfl
theorem bits6 : waitsOk T6.2 B6 = true := by kernel_rfl

/-- What an Offer leaves. -/
def OPost (K : World → Nat → List Nat → List S134 → Int → Prop) (w : World) (p : Nat) (S : List Nat) (ts' : List S134) (n a : Int) (e : Ending) (w' : World) : Prop :=
  e = .returned (.tuple #[.int .i64 a, .int .i64 0]) ∧ ∃ S', K w' p S' ts' n ∧ Chg S w w' ∧ ∀ x ∈ S', x ∈ S ∨ w.heap.size ≤ x

set_option maxRecDepth 20000 in
theorem offer_nil (ac e : Int) (w : World) : Calls Try.prog 15 #[.pointer none, .int .i64 ac, .int .i64 e] w fun r w' => r = .returned (.tuple #[.int .i64 (-1), .int .i64 1]) ∧ Below w.heap.size w w' := by
  go_enter Try.func15, Try.ntmps15
  go_wp2_with fail
  go_ret2
  exact ⟨rfl, Below.refl _ _⟩
set_option maxRecDepth 20000 in
theorem roffer_nil (ac e : Int) (w : World) : Calls Try.prog 45 #[.pointer none, .int .i64 ac, .int .i64 e] w fun r w' => r = .returned (.tuple #[.int .i64 (-1), .int .i64 1]) ∧ Below w.heap.size w w' := by
  go_enter Try.func45, Try.ntmps45
  go_wp2_with fail
  go_ret2
  exact ⟨rfl, Below.refl _ _⟩

set_option maxRecDepth 20000 in
set_option maxHeartbeats 2000000 in
theorem offer_ok (p : Nat) (S : List Nat) (ts : List S134) (n ac e : Int) (w : World) (hK : Bk w p S ts n) (hm : (ts.length + 1) * 40 ≤ 140737488355328) :
    Calls Try.prog 15 #[.pointer (some ⟨p, 0, none⟩), .int .i64 ac, .int .i64 e] w (OPost Bk w p S (ts ++ [⟨ac, e, -1⟩]) n ts.length) := by
  obtain ⟨v, rfl, hB, hR⟩ := hK
  obtain ⟨A, c, rfl⟩ := Kd.R_slice hR
  rw [FF_len] at hB hR ⊢
  have hc0 := hB.cell 0
  simp at hc0
  have HB := Lib.hid hB
  have HR := Lib.hid hR
  have hlb := hB.lt
  clear hB hR
  go_enter Try.func15, Try.ntmps15
  go_upto_region 4 with fail
  have h1 := Blk.new w 43 #[.int .i64 (ts.length : Int), .int .i64 2, .int .i64 0, .int .i64 ac, .int .i64 (-1)]
  have hB1 := HB.out.alloc (.cells #[.int .i64 (ts.length : Int), .int .i64 2, .int .i64 0, .int .i64 ac, .int .i64 (-1)] 43)
  have hR1 := Kd.R_alloc HR.out (.cells #[.int .i64 (ts.length : Int), .int .i64 2, .int .i64 0, .int .i64 ac, .int .i64 (-1)] 43)
  have hC1 : Chg (p :: (Value.slice A ts.length c).ownBlock.toList) w (w.alloc (.cells #[.int .i64 (ts.length : Int), .int .i64 2, .int .i64 0, .int .i64 ac, .int .i64 (-1)] 43)) := (Chg.refl _ _).alloc _
  have hp8 : p ≠ w.heap.size := by omega
  have hne8 : some w.heap.size ≠ (Value.slice A ts.length c).ownBlock := fun e => by have := Kd.R_lt HR.out _ e.symm; omega
  have hw8 : w.heap.size ≤ w.heap.size := Nat.le_refl _
  generalize hg8 : w.heap.size = g8 at h1 hp8 hne8
  have HG8 := Lib.hid hg8
  generalize w.alloc (.cells #[.int .i64 (ts.length : Int), .int .i64 2, .int .i64 0, .int .i64 ac, .int .i64 (-1)] 43) = w2 at h1 hB1 hR1 hC1 ⊢
  clear hw8 hg8 hc0
  by_cases he : e = 0
  · have b0 : (e != 0) = false := by simpa using he
    obtain ⟨x, hx⟩ : ∃ x : S43, x = ⟨ts.length, 2, 0, ac, -1⟩ := ⟨_, rfl⟩
    have hxf : x = fateOf ⟨ac, e, -1⟩ ts.length := by rw [hx, he]; rfl
    obtain ⟨w3, hw3⟩ : ∃ w3 : World, w3 = w2 := ⟨_, rfl⟩
    have hB3 := hB1
    have hR3 := hR1
    have hC3 := hC1
    have h3 : Blk w2 g8 43 #[.int .i64 x.f0, .int .i64 x.f1, .int .i64 x.f2, .int .i64 x.f3, .int .i64 x.f4] := by rw [hx]; exact h1
    have HX0 := Lib.hid (show x.f0 = (ts.length : Int) by rw [hx])
    have HXF := Lib.hid hxf
    clear hx hxf he hB1 hR1 hC1 h1
    rw [← hw3] at hB3 hR3 hC3 h3 ⊢
    clear hw3
    go_upto_region 6 with fail
    refine start_ (n := 11) (S := fun w' => Blk w' p 93 #[.slice A ts.length c, .int .i64 n] ∧ Blk w' g8 43 #[.int .i64 x.f0, .int .i64 x.f1, .int .i64 x.f2, .int .i64 x.f3, .int .i64 x.f4] ∧ Chg (p :: (Value.slice A ts.length c).ownBlock.toList) w w') (ds := [10]) #[false, false, false, false, false, false, false, false, false, false, false] (by kernel_rfl) rfl rfl ⟨hB3.drew, h3.drew, hC3.drew⟩ (fun hHeld => ?_)
    refine with_tabW tab6 bits6 (fun HT_ HW_ => ?_)
    have HR4 := Lib.hid (Kd.R_drew hR3)
    generalize w3.drew = w4 at hHeld HR4 ⊢
    clear hB3 h3 hC3 hR3
    refine pure_ (i := 0) (N := some 24) (v := ?_) (a' := ?_) #[true, false, false, false, false, false, false, false, false, false, false] rfl rfl (any_of HT_.out (by kernel_rfl)) (fun _ _ _ h => h) (Or.inl ⟨by rfl, ?_⟩) ?_ ?_
    rotate_left
    · intro w'
      go_simp
      with_reducible rfl
    rotate_left
    · simp only [Act.put, List.setIfInBounds_toArray, List.set_cons_zero, List.set_cons_succ, i64_w, i32_w]
      rfl
    refine pure_ (i := 1) (N := some 25) (v := ?_) (a' := ?_) #[true, true, false, false, false, false, false, false, false, false, false] rfl rfl (any_of HT_.out (by kernel_rfl)) (fun _ _ _ h => h) (Or.inl ⟨by rfl, ?_⟩) ?_ ?_
    rotate_left
    · intro w'
      go_simp
      with_reducible rfl
    rotate_left
    · simp only [Act.put, List.setIfInBounds_toArray, List.set_cons_zero, List.set_cons_succ, i64_w, i32_w]
      rfl
    refine pure_ (i := 2) (N := some 26) (v := ?_) (a' := ?_) #[true, true, true, false, false, false, false, false, false, false, false] rfl rfl (any_of HT_.out (by kernel_rfl)) (fun _ _ _ h => h) (Or.inl ⟨by rfl, ?_⟩) ?_ ?_
    rotate_left
    · intro w'
      go_simp
      with_reducible rfl
    rotate_left
    · simp only [Act.put, List.setIfInBounds_toArray, List.set_cons_zero, List.set_cons_succ, i64_w, i32_w]
      rfl
    refine pure_ (i := 3) (N := some 27) (v := ?_) (a' := ?_) #[true, true, true, true, false, false, false, false, false, false, false] rfl rfl (any_of HT_.out (by kernel_rfl)) (fun _ _ _ h => h) (Or.inl ⟨by rfl, ?_⟩) ?_ ?_
    rotate_left
    · intro w'
      go_simp
      with_reducible rfl
    rotate_left
    · simp only [Act.put, List.setIfInBounds_toArray, List.set_cons_zero, List.set_cons_succ, i64_w, i32_w]
      rfl
    refine take_ (i := 4) (N := some 28) (v := ?_) (a' := ?_) #[true, true, true, true, true, false, false, false, false, false, false] rfl rfl (take_ofW HT_.out HW_.out (by kernel_rfl)) (fun _ _ _ h => h) (Or.inl ⟨by rfl, ?_⟩) hHeld ?_ ?_
    rotate_left
    · intro w' HS_
      have t_ := HS_.1.cell 0
      simp at t_
      go_simp
      with_reducible rfl
    rotate_left
    · simp only [Act.put, List.setIfInBounds_toArray, List.set_cons_zero, List.set_cons_succ, i64_w, i32_w]
      rfl
    refine take_ (i := 5) (N := some 29) (v := ?_) (a' := ?_) #[true, true, true, true, true, true, false, false, false, false, false] rfl rfl (take_ofW HT_.out HW_.out (by kernel_rfl)) (fun _ _ _ h => h) (Or.inl ⟨by rfl, ?_⟩) hHeld ?_ ?_
    rotate_left
    · intro w' HS_
      have t0 := HS_.2.1.cell 0
      have t1 := HS_.2.1.cell 1
      have t2 := HS_.2.1.cell 2
      have t3 := HS_.2.1.cell 3
      have t4 := HS_.2.1.cell 4
      simp at t0 t1 t2 t3 t4
      go_simp
      with_reducible rfl
    rotate_left
    · simp only [Act.put, List.setIfInBounds_toArray, List.set_cons_zero, List.set_cons_succ, i64_w, i32_w]
      rfl
    refine one_ (i := 6) (N := some 30) #[true, true, true, true, true, true, true, false, false, false, false] rfl rfl (one_of HT_.out (by kernel_rfl)) (by decide) (fun K hK => ?_)
    refine value_ (w1 := ?_) (v := ?_) (by rfl) rfl ?_ ?_
    rotate_left 2
    · go_simp
      constructor
      · rfl
      · rfl
    have hB5 := hHeld.1
    have h5 := hHeld.2.1
    have hC5 := hHeld.2.2
    refine hK.out _ _ ⟨hHeld.1.alloc _, hHeld.2.1.alloc _, hHeld.2.2.alloc _⟩ (fun hHeld => ?_)
    clear hK K
    refine norm_ (a' := ?_) ?_ ?_
    rotate_left
    · show Act.put _ (some 30) _ = _
      simp only [Act.put, List.setIfInBounds_toArray, List.set_cons_zero, List.set_cons_succ, i64_w, i32_w]
      rfl
    refine one_ (i := 7) (N := some 31) #[true, true, true, true, true, true, true, true, false, false, false] rfl rfl (one_of HT_.out (by kernel_rfl)) (by decide) (fun K hK => ?_)
    refine Kd.R_append_step k43 (w0 := w) 0 (by rfl) (.tmp 28) (.tmp 30) 40 43 (.agg #[(.int .i64 0), (.int .i64 0), (.int .i64 0), (.int .i64 0), (.int .i64 0)]) 40 rfl Try.underlying40 info43' rfl (by decide) (by omega) (.slice A ts.length c) (FF ts) x [.int .i64 x.f0, .int .i64 x.f1, .int .i64 x.f2, .int .i64 x.f3, .int .i64 x.f4] (fun _ => True) (fun _ => False) rfl rfl (k43_mkM _ _ _ x) (fun _ hk => hk.elim) (fun _ _ => trivial) HR4.out (hC5.below (Nat.zero_le _) (fun _ _ => Nat.zero_le _)) (Nat.zero_le _) (by rw [FF_len]; exact hm) ?_
    intro v1 w6 hR6 hb6 hg6 hat6
    have hB6 := blk_grown hB5 hg6 (Kd.R_ne HR4.out hB5 (by decide))
    have h6 := fun hne => blk_grown h5 hg6 hne
    have hC6 := hC5.trans ((chg_opt hg6).mono (fun x hx => List.mem_cons_of_mem _ hx))
    have HR6 := Lib.hid hR6
    have hS5 := hC5.size
    refine hK.out _ _ ⟨hB6, h6 ?hx8, hC6⟩ (fun hH6 => ?_)
    case hx8 => exact hne8
    clear hK K hR6 hb6 hg6 hHeld hC5 h6
    refine norm_ (a' := ?_) ?_ ?_
    rotate_left
    · show Act.put _ (some 31) _ = _
      simp only [Act.put, List.setIfInBounds_toArray, List.set_cons_zero, List.set_cons_succ, i64_w, i32_w]
      rfl
    refine pure_ (i := 8) (N := some 32) (v := ?_) (a' := ?_) #[true, true, true, true, true, true, true, true, true, false, false] rfl rfl (any_of HT_.out (by kernel_rfl)) (fun _ _ _ h => h) (Or.inl ⟨by rfl, ?_⟩) ?_ ?_
    rotate_left
    · intro w'
      go_simp
      with_reducible rfl
    rotate_left
    · simp only [Act.put, List.setIfInBounds_toArray, List.set_cons_zero, List.set_cons_succ, i64_w, i32_w]
      rfl
    refine pure_ (i := 9) (N := some 33) (v := ?_) (a' := ?_) #[true, true, true, true, true, true, true, true, true, true, false] rfl rfl (any_of HT_.out (by kernel_rfl)) (fun _ _ _ h => h) (Or.inl ⟨by rfl, ?_⟩) ?_ ?_
    rotate_left
    · intro w'
      go_simp
      with_reducible rfl
    rotate_left
    · simp only [Act.put, List.setIfInBounds_toArray, List.set_cons_zero, List.set_cons_succ, i64_w, i32_w]
      rfl
    have z0 : w6.cell? ⟨p, 0, none⟩ = some (.slice A ts.length c) := hB6.cell 0
    have f0 := hB6.frozen 0
    obtain ⟨A7, c7, hv7⟩ := Kd.R_slice HR6.out
    have hl7 : (FF ts ++ [x]).length = ts.length + 1 := by simp [FF_len]
    rw [hl7] at hv7
    subst hv7
    refine last_ (i := 10) (N := none) #[true, true, true, true, true, true, true, true, true, true, true] rfl rfl (one_of HT_.out (by kernel_rfl)) (by decide) (fun K hK => ?_)
    refine skip_ (w1 := ?_) (by rfl) rfl ?_ ?_
    rotate_left
    · go_simp
      rfl
    refine hK.out _ _ ?_
    clear hK K
    refine done_ (done_of HT_.out (by kernel_rfl)) ?_
    have z8 : (w6.setCell ⟨p, 0, none⟩ (.slice A7 (ts.length + 1) c7)).cell? ⟨g8, 0, none⟩ = some (.int .i64 x.f0) := (hH6.2.1.far (by exact fun e => hp8 e.symm) _).cell 0
    go_wp2_with fail
    go_ret2
    have hBl : Blk (w6.setCell ⟨p, 0, none⟩ (.slice A7 (ts.length + 1) c7)) p 93 #[.slice A7 (ts.length + 1) c7, .int .i64 n] := by
      have h := hB6.set_ 0 (.slice A7 (ts.length + 1) c7)
      simpa using h
    have hRl : Kd.R k43 43 (w6.setCell ⟨p, 0, none⟩ (.slice A7 (ts.length + 1) c7)) 0 (fun _ => True) (.slice A7 (ts.length + 1) c7) (FF (ts ++ [⟨ac, e, -1⟩])) := by
      rw [FF_snoc, ← HXF.out]
      refine Kd.R_set HR6.out hB6 (fun q hq => ?_) 0 _
      have hE : k43.E = [] := rfl
      rw [hE] at hq
      simp at hq
      omega
    refine ⟨congrArg (fun z => Ending.returned (.tuple #[.int .i64 z, .int .i64 0])) HX0.out, p :: (Value.slice A7 (ts.length + 1) c7).ownBlock.toList, ⟨_, rfl, hBl, hRl⟩, hC6.setCell (.inl (by simp)) _, ?_⟩
    intro y hy
    rcases List.mem_cons.1 hy with rfl | hy
    · exact .inl (by simp)
    · have hy2 : (Value.slice A7 (ts.length + 1) c7).ownBlock = some y := by simpa using hy
      rcases hat6 with h | ⟨b, h, hle⟩
      · exact .inl (by rw [hy2] at h; rw [← h]; simp)
      · have hbx : b = y := Option.some.inj (h.symm.trans hy2)
        exact .inr (by omega)
  · have b0 : (e != 0) = true := by simpa using he
    obtain ⟨x, hx⟩ : ∃ x : S43, x = ⟨ts.length, 1, e, -1, -1⟩ := ⟨_, rfl⟩
    have hxf : x = fateOf ⟨ac, e, -1⟩ ts.length := by rw [hx]; simp [fateOf, he]
    have HX0 := Lib.hid (show x.f0 = (ts.length : Int) by rw [hx])
    have HXF := Lib.hid hxf
    have d1 := h1.cell 1
    have d2 := h1.cell 2
    have d3 := h1.cell 3
    simp at d1 d2 d3
    have q1 := h1.frozen 1
    have q2 := h1.frozen 2
    have q3 := h1.frozen 3
    have hst : Blk (((w2.setCell ⟨g8, 1, none⟩ (.int .i64 1)).setCell ⟨g8, 2, none⟩ (.int .i64 e)).setCell ⟨g8, 3, none⟩ (.int .i64 (-1))) g8 43 #[.int .i64 x.f0, .int .i64 x.f1, .int .i64 x.f2, .int .i64 x.f3, .int .i64 x.f4] := by
      have h := ((h1.set_ 1 (.int .i64 1)).set_ 2 (.int .i64 e)).set_ 3 (.int .i64 (-1))
      rw [hx]
      simpa using h
    have hg8' : ∀ w0 : World, w0 = w → w.heap.size = g8 := fun _ _ => HG8.out
    have hC3' : Chg (p :: (Value.slice A ts.length c).ownBlock.toList) w (((w2.setCell ⟨g8, 1, none⟩ (.int .i64 1)).setCell ⟨g8, 2, none⟩ (.int .i64 e)).setCell ⟨g8, 3, none⟩ (.int .i64 (-1))) :=
      ((hC1.setCell (.inr (by simp [HG8.out])) _).setCell (.inr (by simp [HG8.out])) _).setCell (.inr (by simp [HG8.out])) _
    have hB3' := ((hB1.far (p := ⟨g8, 1, none⟩) hp8 (.int .i64 1)).far (p := ⟨g8, 2, none⟩) hp8 (.int .i64 e)).far (p := ⟨g8, 3, none⟩) hp8 (.int .i64 (-1))
    have hR3' : Kd.R k43 43 (((w2.setCell ⟨g8, 1, none⟩ (.int .i64 1)).setCell ⟨g8, 2, none⟩ (.int .i64 e)).setCell ⟨g8, 3, none⟩ (.int .i64 (-1))) 0 (fun _ => True) (.slice A ts.length c) (FF ts) := by
      have mv : ∀ (W : World) (j : Nat) (u : Value), Kd.R k43 43 W 0 (fun _ => True) (.slice A ts.length c) (FF ts) → Kd.R k43 43 (W.setCell ⟨g8, j, none⟩ u) 0 (fun _ => True) (.slice A ts.length c) (FF ts) := by
        intro W j u h
        obtain ⟨h0, inner, ho, hr⟩ := h
        refine ⟨h0, inner, own_move ho (fun k hk => Below.heap_setCell W ⟨g8, j, none⟩ u k (fun e => hne8 (by rw [hk, e]))), hr.imp_ (fun x cs hp => ?_)⟩
        exact hp
      exact mv _ _ _ (mv _ _ _ (mv _ _ _ hR1))
    clear hx hxf he hB1 hR1 hC1 h1 hg8'
    go_upto_region 6 with fail
    clear d1 d2 d3 q1 q2 q3
    obtain ⟨w3, hw3⟩ : ∃ w3 : World, w3 = ((w2.setCell ⟨g8, 1, none⟩ (.int .i64 1)).setCell ⟨g8, 2, none⟩ (.int .i64 e)).setCell ⟨g8, 3, none⟩ (.int .i64 (-1)) := ⟨_, rfl⟩
    rw [← hw3] at hB3' hR3' hC3' hst ⊢
    have hB3 := hB3'
    have hR3 := hR3'
    have hC3 := hC3'
    have h3 := hst
    clear hw3 hB3' hR3' hC3' hst
    refine start_ (n := 11) (S := fun w' => Blk w' p 93 #[.slice A ts.length c, .int .i64 n] ∧ Blk w' g8 43 #[.int .i64 x.f0, .int .i64 x.f1, .int .i64 x.f2, .int .i64 x.f3, .int .i64 x.f4] ∧ Chg (p :: (Value.slice A ts.length c).ownBlock.toList) w w') (ds := [10]) #[false, false, false, false, false, false, false, false, false, false, false] (by kernel_rfl) rfl rfl ⟨hB3.drew, h3.drew, hC3.drew⟩ (fun hHeld => ?_)
    refine with_tabW tab6 bits6 (fun HT_ HW_ => ?_)
    have HR4 := Lib.hid (Kd.R_drew hR3)
    generalize w3.drew = w4 at hHeld HR4 ⊢
    clear hB3 h3 hC3 hR3
    refine pure_ (i := 0) (N := some 24) (v := ?_) (a' := ?_) #[true, false, false, false, false, false, false, false, false, false, false] rfl rfl (any_of HT_.out (by kernel_rfl)) (fun _ _ _ h => h) (Or.inl ⟨by rfl, ?_⟩) ?_ ?_
    rotate_left
    · intro w'
      go_simp
      with_reducible rfl
    rotate_left
    · simp only [Act.put, List.setIfInBounds_toArray, List.set_cons_zero, List.set_cons_succ, i64_w, i32_w]
      rfl
    refine pure_ (i := 1) (N := some 25) (v := ?_) (a' := ?_) #[true, true, false, false, false, false, false, false, false, false, false] rfl rfl (any_of HT_.out (by kernel_rfl)) (fun _ _ _ h => h) (Or.inl ⟨by rfl, ?_⟩) ?_ ?_
    rotate_left
    · intro w'
      go_simp
      with_reducible rfl
    rotate_left
    · simp only [Act.put, List.setIfInBounds_toArray, List.set_cons_zero, List.set_cons_succ, i64_w, i32_w]
      rfl
    refine pure_ (i := 2) (N := some 26) (v := ?_) (a' := ?_) #[true, true, true, false, false, false, false, false, false, false, false] rfl rfl (any_of HT_.out (by kernel_rfl)) (fun _ _ _ h => h) (Or.inl ⟨by rfl, ?_⟩) ?_ ?_
    rotate_left
    · intro w'
      go_simp
      with_reducible rfl
    rotate_left
    · simp only [Act.put, List.setIfInBounds_toArray, List.set_cons_zero, List.set_cons_succ, i64_w, i32_w]
      rfl
    refine pure_ (i := 3) (N := some 27) (v := ?_) (a' := ?_) #[true, true, true, true, false, false, false, false, false, false, false] rfl rfl (any_of HT_.out (by kernel_rfl)) (fun _ _ _ h => h) (Or.inl ⟨by rfl, ?_⟩) ?_ ?_
    rotate_left
    · intro w'
      go_simp
      with_reducible rfl
    rotate_left
    · simp only [Act.put, List.setIfInBounds_toArray, List.set_cons_zero, List.set_cons_succ, i64_w, i32_w]
      rfl
    refine take_ (i := 4) (N := some 28) (v := ?_) (a' := ?_) #[true, true, true, true, true, false, false, false, false, false, false] rfl rfl (take_ofW HT_.out HW_.out (by kernel_rfl)) (fun _ _ _ h => h) (Or.inl ⟨by rfl, ?_⟩) hHeld ?_ ?_
    rotate_left
    · intro w' HS_
      have t_ := HS_.1.cell 0
      simp at t_
      go_simp
      with_reducible rfl
    rotate_left
    · simp only [Act.put, List.setIfInBounds_toArray, List.set_cons_zero, List.set_cons_succ, i64_w, i32_w]
      rfl
    refine take_ (i := 5) (N := some 29) (v := ?_) (a' := ?_) #[true, true, true, true, true, true, false, false, false, false, false] rfl rfl (take_ofW HT_.out HW_.out (by kernel_rfl)) (fun _ _ _ h => h) (Or.inl ⟨by rfl, ?_⟩) hHeld ?_ ?_
    rotate_left
    · intro w' HS_
      have t0 := HS_.2.1.cell 0
      have t1 := HS_.2.1.cell 1
      have t2 := HS_.2.1.cell 2
      have t3 := HS_.2.1.cell 3
      have t4 := HS_.2.1.cell 4
      simp at t0 t1 t2 t3 t4
      go_simp
      with_reducible rfl
    rotate_left
    · simp only [Act.put, List.setIfInBounds_toArray, List.set_cons_zero, List.set_cons_succ, i64_w, i32_w]
      rfl
    refine one_ (i := 6) (N := some 30) #[true, true, true, true, true, true, true, false, false, false, false] rfl rfl (one_of HT_.out (by kernel_rfl)) (by decide) (fun K hK => ?_)
    refine value_ (w1 := ?_) (v := ?_) (by rfl) rfl ?_ ?_
    rotate_left 2
    · go_simp
      constructor
      · rfl
      · rfl
    have hB5 := hHeld.1
    have h5 := hHeld.2.1
    have hC5 := hHeld.2.2
    refine hK.out _ _ ⟨hHeld.1.alloc _, hHeld.2.1.alloc _, hHeld.2.2.alloc _⟩ (fun hHeld => ?_)
    clear hK K
    refine norm_ (a' := ?_) ?_ ?_
    rotate_left
    · show Act.put _ (some 30) _ = _
      simp only [Act.put, List.setIfInBounds_toArray, List.set_cons_zero, List.set_cons_succ, i64_w, i32_w]
      rfl
    refine one_ (i := 7) (N := some 31) #[true, true, true, true, true, true, true, true, false, false, false] rfl rfl (one_of HT_.out (by kernel_rfl)) (by decide) (fun K hK => ?_)
    refine Kd.R_append_step k43 (w0 := w) 0 (by rfl) (.tmp 28) (.tmp 30) 40 43 (.agg #[(.int .i64 0), (.int .i64 0), (.int .i64 0), (.int .i64 0), (.int .i64 0)]) 40 rfl Try.underlying40 info43' rfl (by decide) (by omega) (.slice A ts.length c) (FF ts) x [.int .i64 x.f0, .int .i64 x.f1, .int .i64 x.f2, .int .i64 x.f3, .int .i64 x.f4] (fun _ => True) (fun _ => False) rfl rfl (k43_mkM _ _ _ x) (fun _ hk => hk.elim) (fun _ _ => trivial) HR4.out (hC5.below (Nat.zero_le _) (fun _ _ => Nat.zero_le _)) (Nat.zero_le _) (by rw [FF_len]; exact hm) ?_
    intro v1 w6 hR6 hb6 hg6 hat6
    have hB6 := blk_grown hB5 hg6 (Kd.R_ne HR4.out hB5 (by decide))
    have h6 := fun hne => blk_grown h5 hg6 hne
    have hC6 := hC5.trans ((chg_opt hg6).mono (fun x hx => List.mem_cons_of_mem _ hx))
    have HR6 := Lib.hid hR6
    have hS5 := hC5.size
    refine hK.out _ _ ⟨hB6, h6 ?hx8, hC6⟩ (fun hH6 => ?_)
    case hx8 => exact hne8
    clear hK K hR6 hb6 hg6 hHeld hC5 h6
    refine norm_ (a' := ?_) ?_ ?_
    rotate_left
    · show Act.put _ (some 31) _ = _
      simp only [Act.put, List.setIfInBounds_toArray, List.set_cons_zero, List.set_cons_succ, i64_w, i32_w]
      rfl
    refine pure_ (i := 8) (N := some 32) (v := ?_) (a' := ?_) #[true, true, true, true, true, true, true, true, true, false, false] rfl rfl (any_of HT_.out (by kernel_rfl)) (fun _ _ _ h => h) (Or.inl ⟨by rfl, ?_⟩) ?_ ?_
    rotate_left
    · intro w'
      go_simp
      with_reducible rfl
    rotate_left
    · simp only [Act.put, List.setIfInBounds_toArray, List.set_cons_zero, List.set_cons_succ, i64_w, i32_w]
      rfl
    refine pure_ (i := 9) (N := some 33) (v := ?_) (a' := ?_) #[true, true, true, true, true, true, true, true, true, true, false] rfl rfl (any_of HT_.out (by kernel_rfl)) (fun _ _ _ h => h) (Or.inl ⟨by rfl, ?_⟩) ?_ ?_
    rotate_left
    · intro w'
      go_simp
      with_reducible rfl
    rotate_left
    · simp only [Act.put, List.setIfInBounds_toArray, List.set_cons_zero, List.set_cons_succ, i64_w, i32_w]
      rfl
    have z0 : w6.cell? ⟨p, 0, none⟩ = some (.slice A ts.length c) := hB6.cell 0
    have f0 := hB6.frozen 0
    obtain ⟨A7, c7, hv7⟩ := Kd.R_slice HR6.out
    have hl7 : (FF ts ++ [x]).length = ts.length + 1 := by simp [FF_len]
    rw [hl7] at hv7
    subst hv7
    refine last_ (i := 10) (N := none) #[true, true, true, true, true, true, true, true, true, true, true] rfl rfl (one_of HT_.out (by kernel_rfl)) (by decide) (fun K hK => ?_)
    refine skip_ (w1 := ?_) (by rfl) rfl ?_ ?_
    rotate_left
    · go_simp
      rfl
    refine hK.out _ _ ?_
    clear hK K
    refine done_ (done_of HT_.out (by kernel_rfl)) ?_
    have z8 : (w6.setCell ⟨p, 0, none⟩ (.slice A7 (ts.length + 1) c7)).cell? ⟨g8, 0, none⟩ = some (.int .i64 x.f0) := (hH6.2.1.far (by exact fun e => hp8 e.symm) _).cell 0
    go_wp2_with fail
    go_ret2
    have hBl : Blk (w6.setCell ⟨p, 0, none⟩ (.slice A7 (ts.length + 1) c7)) p 93 #[.slice A7 (ts.length + 1) c7, .int .i64 n] := by
      have h := hB6.set_ 0 (.slice A7 (ts.length + 1) c7)
      simpa using h
    have hRl : Kd.R k43 43 (w6.setCell ⟨p, 0, none⟩ (.slice A7 (ts.length + 1) c7)) 0 (fun _ => True) (.slice A7 (ts.length + 1) c7) (FF (ts ++ [⟨ac, e, -1⟩])) := by
      rw [FF_snoc, ← HXF.out]
      refine Kd.R_set HR6.out hB6 (fun q hq => ?_) 0 _
      have hE : k43.E = [] := rfl
      rw [hE] at hq
      simp at hq
      omega
    refine ⟨congrArg (fun z => Ending.returned (.tuple #[.int .i64 z, .int .i64 0])) HX0.out, p :: (Value.slice A7 (ts.length + 1) c7).ownBlock.toList, ⟨_, rfl, hBl, hRl⟩, hC6.setCell (.inl (by simp)) _, ?_⟩
    intro y hy
    rcases List.mem_cons.1 hy with rfl | hy
    · exact .inl (by simp)
    · have hy2 : (Value.slice A7 (ts.length + 1) c7).ownBlock = some y := by simpa using hy
      rcases hat6 with h | ⟨b, h, hle⟩
      · exact .inl (by rw [hy2] at h; rw [← h]; simp)
      · have hbx : b = y := Option.some.inj (h.symm.trans hy2)
        exact .inr (by omega)

set_option maxRecDepth 20000 in
set_option maxHeartbeats 2000000 in
theorem roffer_ok (p : Nat) (S : List Nat) (ts : List S134) (n ac e : Int) (w : World) (hK : Rk w p S ts n) (hm : (ts.length + 1) * 40 ≤ 140737488355328) :
    Calls Try.prog 45 #[.pointer (some ⟨p, 0, none⟩), .int .i64 ac, .int .i64 e] w (OPost Rk w p S (ts ++ [⟨ac, e, -1⟩]) n ts.length) := by
  obtain ⟨v, rfl, hB, hR⟩ := hK
  obtain ⟨A, c, rfl⟩ := Kd.R_slice hR
  have hc0 := hB.cell 0
  simp at hc0
  have HB := Lib.hid hB
  have HR := Lib.hid hR
  have HL : Hid ((ts.length + 1) * 24 ≤ 140737488355328) := Lib.hid (by omega)
  clear hB hR
  go_enter Try.func45, Try.ntmps45
  go_upto_region 4 with (first | ((with_reducible refine gate_builtin (b := .append) (xs := #[.tmp 14, .tmp 18]) rfl ?_); at_builtin; refine Kd.R_append k134 (w0 := w) 0 rfl (.tmp 14) (.tmp 18) 26 134 (.agg #[(.int .i64 0), (.int .i64 0), (.int .i64 0)]) 24 rfl Try.underlying26 info134 rfl (by decide) (by omega) (.slice A ts.length c) ts (⟨ac, e, -1⟩ : S134) [.int .i64 ac, .int .i64 e, .int .i64 (-1)] (fun _ => True) (fun _ => False) rfl rfl (k134_mkM _ _ _ (⟨ac, e, -1⟩ : S134)) (fun _ hk => hk.elim) (fun _ _ => trivial) HR.out ((Chg.refl [] w).below (Nat.zero_le _) (fun _ _ => Nat.zero_le _)) (Nat.zero_le _) HL.out ?_; intro v1 w6 hR6 hb6 hg6 hat6; obtain ⟨A7, c7, rfl⟩ := Kd.R_slice hR6; have HB6 := Lib.hid (blk_grown HB.out hg6 (Kd.R_ne HR.out HB.out (by decide))); have z0 := HB6.out.cell 0; have f0 := HB6.out.frozen 0; simp at z0))
  have hl7 : (ts ++ [(⟨ac, e, -1⟩ : S134)]).length = ts.length + 1 := by simp
  have hC6 := chg_opt hg6
  have hz1 : (w6.setCell ⟨p, 0, none⟩ (.slice A7 (ts.length + 1) c7)).cell? ⟨p, 0, none⟩ = some (.slice A7 (ts.length + 1) c7) := by
    have h := (HB6.out.set_ 0 (.slice A7 (ts.length + 1) c7)).cell 0
    simpa using h
  have hwl : wrap64 (((ts.length : Int) + 1) - 1) = (ts.length : Int) := by unfold wrap64; omega
  have HWL := Lib.hid hwl
  have HR6 := Lib.hid hR6
  rw [hl7] at hat6 HR6
  clear hwl z0 f0 hR6 hc0 hb6 hg6
  go_wp2_with fail
  go_ret2
  have hBl : Blk (w6.setCell ⟨p, 0, none⟩ (.slice A7 (ts.length + 1) c7)) p 28 #[.slice A7 (ts.length + 1) c7, .int .i64 n] := by
    have h := HB6.out.set_ 0 (.slice A7 (ts.length + 1) c7)
    simpa using h
  have hRl : Kd.R k134 134 (w6.setCell ⟨p, 0, none⟩ (.slice A7 (ts.length + 1) c7)) 0 (fun _ => True) (.slice A7 (ts.length + 1) c7) (ts ++ [⟨ac, e, -1⟩]) := by
    refine Kd.R_set HR6.out HB6.out (fun q hq => ?_) 0 _
    have hE : k134.E = [] := rfl
    rw [hE] at hq
    simp at hq
    omega
  refine ⟨rfl, p :: (Value.slice A7 (ts.length + 1) c7).ownBlock.toList, ⟨_, rfl, hBl, hRl⟩, (hC6.mono (fun x hx => List.mem_cons_of_mem _ hx)).setCell (.inl (by simp)) _, ?_⟩
  intro y hy
  rcases List.mem_cons.1 hy with rfl | hy
  · exact .inl (by simp)
  · have hy2 : (Value.slice A7 (ts.length + 1) c7).ownBlock = some y := by simpa using hy
    rcases hat6 with h | ⟨b, h, hle⟩
    · exact .inl (by rw [hy2] at h; rw [← h]; simp)
    · have hbx : b = y := Option.some.inj (h.symm.trans hy2)
      exact .inr (by omega)
end Go.Proofs.Ytlbfnnngemonoaa.Fat
