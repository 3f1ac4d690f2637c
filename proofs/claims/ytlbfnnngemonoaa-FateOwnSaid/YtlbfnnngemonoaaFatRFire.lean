/- (*chordmailref24.Book).Fire. -/
import Derived.Test.YtlbfnnngemonoaaFatFire
namespace Go.Proofs.Ytlbfnnngemonoaa.Fat
open Go.RowKit Go.Proofs.Ytlbfnnngemonoaa.PFateBooks
open Go.Proofs.YtlbfnnngemonoaaW.PrintWords Go.Proofs.YtlbfnnngemonoaaW.PrintLast Go.Proofs.YtlbfnnngemonoaaW.PrintMore
set_option linter.unusedVariables false
set_option linter.unusedSimpArgs false
def T8 : Bool × List (List Nat × List Nat) := (true, [([], []), ([0], [0]), ([1], [1]), ([2], [2]), ([], []), ([], []), ([4, 5], [4, 5]), ([6], [6]), ([3, 7], [3, 7]), ([8], [8]), ([], []), ([10, 9, 0, 1, 2, 3, 4, 5, 6, 7, 8, 9, 10], [9, 10])])
def B8 : List Nat := [0, 1, 3, 7, 0, 0, 48, 112, 255, 511, 0, 2047]
theorem tab8 : rtab .any (opsOf Try.f43 8) = T8 := by kernel_rfl
theorem bits8 : waitsOk T8.2 B8 = true := by kernel_rfl
def T23 : Bool × List (List Nat × List Nat) := (true, [([], []), ([0], [0]), ([1], [1]), ([2], [2]), ([], []), ([], []), ([4, 5], [4, 5]), ([6], [6]), ([], []), ([8], [8]), ([9], [9]), ([10], [10]), ([3, 7, 0, 1, 2, 3, 4, 5, 6, 7, 8, 9, 10, 11], [3, 7]), ([12, 0, 1, 2, 3, 4, 5, 6, 7, 8, 9, 10, 11], [12]), ([13, 11, 0, 1, 2, 3, 4, 5, 6, 7, 8, 9, 10, 11], [11, 13])])
def B23 : List Nat := [0, 1, 3, 7, 0, 0, 48, 112, 0, 256, 768, 1792, 4095, 8191, 16383]
theorem tab23 : rtab .any (opsOf Try.f43 23) = T23 := by kernel_rfl
theorem bits23 : waitsOk T23.2 B23 = true := by kernel_rfl

theorem put134 {W : World} {g c N : Nat} {xs : List S134} (h : Kd.R k134 134 W 0 (fun _ => True) (.slice (some ⟨g, 0, none⟩) N c) xs) (m : Nat) (hm : m < N) (n : Int) :
    Kd.R k134 134 (W.setCell ⟨g, m * 3 + 2, none⟩ (.int .i64 n)) 0 (fun _ => True) (.slice (some ⟨g, 0, none⟩) N c) (xs.set m { xs.getD m z134 with f2 := n }) := by
  have hN := (Kd.R_reads' h).1
  obtain ⟨ad, e, x0, x1, x2⟩ := at_134 (Kd.R_reads' h).2.2 m (by omega)
  obtain rfl : (⟨g, 0, none⟩ : Addr) = ad := by injection e
  have ea : (⟨g, 0, none⟩ : Addr).add (m * 3) = ⟨g, m * 3, none⟩ := by unfold Addr.add; split <;> simp_all
  rw [ea] at x0 x1 x2
  generalize xs.getD m z134 = f at x0 x1 x2 ⊢
  have cells : ∀ j u, [(.int .i64 f.f0 : Value), .int .i64 f.f1, .int .i64 f.f2][j]? = some u → W.cell? ⟨g, (m : Int).toNat * k134.sz + j, none⟩ = some u := by
    intro j u hu
    rcases j with _ | _ | _ | j
    · simp at hu; subst hu; exact x0
    · simp at hu; subst hu; exact x1
    · simp at hu; subst hu; exact x2
    · simp at hu
  have h1 := (Kd.R_seg (okp := fun _ => False) h (m : Int) (by omega) (by omega) (c := [(.int .i64 f.f0 : Value), .int .i64 f.f1, .int .i64 f.f2]) (seg := [.int .i64 n]) (j := 2) rfl cells (by show 2 + 1 ≤ 3; omega) (x' := ⟨f.f0, f.f1, n⟩) (k134_mkM _ _ _ (⟨f.f0, f.f1, n⟩ : S134)) (fun _ h => h.elim)).1
  rw [Int.toNat_natCast] at h1
  exact h1

set_option maxRecDepth 20000 in
set_option maxHeartbeats 4000000 in
theorem rfire_ok (p : Nat) (S : List Nat) (ts : List S134) (n ac : Int) (A2 : Option Addr) (c2 : Nat) (ids : List Int) (w : World) (hK : Rk w p S ts n) (hI : Kd.C (Kd.int .i64) w A2 ids.length ids) (hc2 : ids.length ≤ c2) (hl : ids.length ≤ 4611686018427387000) (ho : ids.length ≠ 0 → Off S A2) (hn : 0 ≤ n ∧ n ≤ 4611686018427387000) :
    Calls Try.prog 43 #[.pointer (some ⟨p, 0, none⟩), .int .i64 ac, .slice A2 ids.length c2] w (FPost Rk w p S ts n ac ids) := by
  obtain ⟨v, rfl, hB, hR⟩ := hK
  obtain ⟨A, c, rfl⟩ := Kd.R_slice hR
  have HB := Lib.hid hB
  have HR := Lib.hid hR
  have HI := Lib.hid hI
  have HO := Lib.hid ho
  have HC := Lib.hid (Kd.R_reads' hR).2.2
  have HN := Lib.hid hn
  clear hB hR hI ho hn
  go_enter Try.func43, Try.ntmps43
  go_wp2_with fail
  go_loopw [8] (fun i wr => ∃ k : Nat, k ≤ ids.length ∧ i = .int .i64 k ∧ Below w.heap.size w wr ∧ Hid (okTo ts ac ids k)) (fun i _ => ids.length - (intOf i).toNat)
  case atStart => exact ⟨0, Nat.zero_le _, rfl, Below.refl _ _, Lib.hid (fun j hj => by omega)⟩
  case round =>
    obtain ⟨k, hk, rfl, hb, HOK⟩ := hrel
    by_cases hlt : k < ids.length
    · have b0 : decide ((k : Int) < (ids.length : Int)) = true := by simp; omega
      obtain ⟨ad2, hA2, x0w⟩ := int_at HI.out k hlt
      subst hA2
      have x0 := (World.cell?_of_block (hb.block _ (World.block_lt_of_cell? w _ x0w))).trans x0w
      have hki : (k : Int) < (ids.length : Int) := by omega
      obtain ⟨err, hE⟩ : ∃ err, errAt ts ac ids k = err := ⟨_, rfl⟩
      have HE0 := Lib.hid hE
      unfold errAt at hE
      obtain ⟨id, hid⟩ : ∃ id, ids.getD k 0 = id := ⟨_, rfl⟩
      rw [hid] at hE x0 x0w
      have HID := Lib.hid hid
      have hc0 := (HB.out.below hb HB.out.lt).cell 0
      simp at hc0
      have HXW := Lib.hid x0w
      clear x0w hid
      by_cases h1 : id < 0
      · have b1 : decide (id < 0) = true := by simpa using h1
        rw [if_pos (.inl h1)] at hE
        subst hE
        clear h1
        go_upto_region 6 with fail
        go_quiet (fail)
        go_wp2_with fail
        go_ret2
        exact .inl ⟨k, hlt, HOK.out, by rw [HE0.out]; decide, by rw [HE0.out]; rfl, pw_below_drewN hb nq⟩
      · have b1 : decide (id < 0) = false := by simpa using h1
        by_cases h2 : (ts.length : Int) ≤ id
        · have b2 : decide (id ≥ (ts.length : Int)) = true := by simpa using h2
          rw [if_pos (.inr h2)] at hE
          subst hE
          clear h1 h2
          go_upto_region 6 with fail
          go_quiet (fail)
          go_wp2_with fail
          go_ret2
          exact .inl ⟨k, hlt, HOK.out, by rw [HE0.out]; decide, by rw [HE0.out]; rfl, pw_below_drewN hb nq⟩
        · have b2 : decide (id ≥ (ts.length : Int)) = false := by simpa using h2
          obtain ⟨m, rfl⟩ : ∃ m : Nat, id = m := ⟨id.toNat, by omega⟩
          have hm : m < ts.length := by omega
          have hmi : (m : Int) < (ts.length : Int) := by omega
          rw [if_neg (by omega), Int.toNat_natCast] at hE
          obtain ⟨ad, hA, y0, y1, y2⟩ := at_134 HC.out m hm
          subst hA
          generalize ts.getD m z134 = t at hE y0 y1 y2
          have HE := Lib.hid hE
          have hS : ∀ w', Below w.heap.size w w' → w'.cell? ⟨p, 0, none⟩ = some (.slice (some ad) ts.length c) ∧ w'.cell? (ad2.add k) = some (.int .i64 m) ∧ w'.cell? (ad.add (m * 3)) = some (.int .i64 t.f0) ∧ w'.cell? ⟨(ad.add (m * 3)).block, (ad.add (m * 3)).off + 1, none⟩ = some (.int .i64 t.f1) ∧ w'.cell? ⟨(ad.add (m * 3)).block, (ad.add (m * 3)).off + 2, none⟩ = some (.int .i64 t.f2) := fun w' h =>
            ⟨by have h0 := (HB.out.below h HB.out.lt).cell 0; simpa using h0, (World.cell?_of_block (h.block _ (World.block_lt_of_cell? w _ HXW.out))).trans HXW.out, (World.cell?_of_block (h.block _ (World.block_lt_of_cell? w _ y0))).trans y0, (World.cell?_of_block (h.block _ (World.block_lt_of_cell? w _ y1))).trans y1, (World.cell?_of_block (h.block _ (World.block_lt_of_cell? w _ y2))).trans y2⟩
          have HSS := Lib.hid hS
          clear hS y0 y1 y2 h1 h2 hE
          go_upto_region 6 with fail
          go_quiet (fail)
          have hb6 := pw_below_drewN hb nq
          generalize wr.drewN nq = w6 at hb6 ⊢
          clear x0 hc0 b1 b2 hb
          go_upto_region 8 with fail
          refine start_ (n := 12) (S := fun w' => Below w.heap.size w w') (ds := [11]) #[false, false, false, false, false, false, false, false, false, false, false, false] (by kernel_rfl) rfl rfl hb6.drew (fun hHeld => ?_)
          refine with_tabW tab8 bits8 (fun HT_ HW_ => ?_)
          generalize w6.drew = w7 at hHeld ⊢
          refine pure_ (i := 0) (N := some 38) (v := ?_) (a' := ?_) #[true, false, false, false, false, false, false, false, false, false, false, false] rfl rfl (any_of HT_.out (by kernel_rfl)) (fun _ _ _ h => h) (Or.inl ⟨by rfl, ?_⟩) ?_ ?_
          rotate_left
          · intro w'
            go_simp
            with_reducible rfl
          rotate_left
          · simp only [Act.put, List.setIfInBounds_toArray, List.set_cons_zero, List.set_cons_succ, i64_w, i32_w]
            rfl
          refine pure_ (i := 1) (N := some 39) (v := ?_) (a' := ?_) #[true, true, false, false, false, false, false, false, false, false, false, false] rfl rfl (any_of HT_.out (by kernel_rfl)) (fun _ _ _ h => h) (Or.inl ⟨by rfl, ?_⟩) ?_ ?_
          rotate_left
          · intro w'
            go_simp
            with_reducible rfl
          rotate_left
          · simp only [Act.put, List.setIfInBounds_toArray, List.set_cons_zero, List.set_cons_succ, i64_w, i32_w]
            rfl
          refine pure_ (i := 2) (N := some 40) (v := ?_) (a' := ?_) #[true, true, true, false, false, false, false, false, false, false, false, false] rfl rfl (any_of HT_.out (by kernel_rfl)) (fun _ _ _ h => h) (Or.inl ⟨by rfl, ?_⟩) ?_ ?_
          rotate_left
          · intro w'
            go_simp
            with_reducible rfl
          rotate_left
          · simp only [Act.put, List.setIfInBounds_toArray, List.set_cons_zero, List.set_cons_succ, i64_w, i32_w]
            rfl
          refine take_ (i := 3) (N := some 41) (v := ?_) (a' := ?_) #[true, true, true, true, false, false, false, false, false, false, false, false] rfl rfl (take_ofW HT_.out HW_.out (by kernel_rfl)) (fun _ _ _ h => h) (Or.inl ⟨by rfl, ?_⟩) hHeld ?_ ?_
          rotate_left
          · intro w' HS_
            obtain ⟨s0, s1, s2, s3, s4⟩ := HSS.out _ HS_
            go_simp
            with_reducible rfl
          rotate_left
          · simp only [Act.put, List.setIfInBounds_toArray, List.set_cons_zero, List.set_cons_succ, i64_w, i32_w]
            rfl
          refine pure_ (i := 4) (N := some 42) (v := ?_) (a' := ?_) #[true, true, true, true, true, false, false, false, false, false, false, false] rfl rfl (any_of HT_.out (by kernel_rfl)) (fun _ _ _ h => h) (Or.inl ⟨by rfl, ?_⟩) ?_ ?_
          rotate_left
          · intro w'
            go_simp
            with_reducible rfl
          rotate_left
          · simp only [Act.put, List.setIfInBounds_toArray, List.set_cons_zero, List.set_cons_succ, i64_w, i32_w]
            rfl
          refine pure_ (i := 5) (N := some 43) (v := ?_) (a' := ?_) #[true, true, true, true, true, true, false, false, false, false, false, false] rfl rfl (any_of HT_.out (by kernel_rfl)) (fun _ _ _ h => h) (Or.inl ⟨by rfl, ?_⟩) ?_ ?_
          rotate_left
          · intro w'
            go_simp
            with_reducible rfl
          rotate_left
          · simp only [Act.put, List.setIfInBounds_toArray, List.set_cons_zero, List.set_cons_succ, i64_w, i32_w]
            rfl
          refine pure_ (i := 6) (N := some 44) (v := ?_) (a' := ?_) #[true, true, true, true, true, true, true, false, false, false, false, false] rfl rfl (any_of HT_.out (by kernel_rfl)) (fun _ _ _ h => h) (Or.inl ⟨by rfl, ?_⟩) ?_ ?_
          rotate_left
          · intro w'
            go_simp
            with_reducible rfl
          rotate_left
          · simp only [Act.put, List.setIfInBounds_toArray, List.set_cons_zero, List.set_cons_succ, i64_w, i32_w]
            rfl
          refine take_ (i := 7) (N := some 45) (v := ?_) (a' := ?_) #[true, true, true, true, true, true, true, true, false, false, false, false] rfl rfl (take_ofW HT_.out HW_.out (by kernel_rfl)) (fun _ _ _ h => h) (Or.inl ⟨by rfl, ?_⟩) hHeld ?_ ?_
          rotate_left
          · intro w' HS_
            obtain ⟨s0, s1, s2, s3, s4⟩ := HSS.out _ HS_
            go_simp
            with_reducible rfl
          rotate_left
          · simp only [Act.put, List.setIfInBounds_toArray, List.set_cons_zero, List.set_cons_succ, i64_w, i32_w]
            rfl
          refine pure_ (i := 8) (N := some 46) (v := ?_) (a' := ?_) #[true, true, true, true, true, true, true, true, true, false, false, false] rfl rfl (any_of HT_.out (by kernel_rfl)) (fun _ _ _ h => h) (Or.inl ⟨by rfl, ?_⟩) ?_ ?_
          rotate_left
          · intro w'
            go_simp
            with_reducible rfl
          rotate_left
          · simp only [Act.put, List.setIfInBounds_toArray, List.set_cons_zero, List.set_cons_succ, i64_w, i32_w]
            rfl
          refine take_ (i := 9) (N := some 47) (v := ?_) (a' := ?_) #[true, true, true, true, true, true, true, true, true, true, false, false] rfl rfl (take_ofW HT_.out HW_.out (by kernel_rfl)) (fun _ _ _ h => h) (Or.inl ⟨by rfl, ?_⟩) hHeld ?_ ?_
          rotate_left
          · intro w' HS_
            obtain ⟨s0, s1, s2, s3, s4⟩ := HSS.out _ HS_
            go_simp
            with_reducible rfl
          rotate_left
          · simp only [Act.put, List.setIfInBounds_toArray, List.set_cons_zero, List.set_cons_succ, i64_w, i32_w]
            rfl
          refine one_ (i := 10) (N := some 9) #[true, true, true, true, true, true, true, true, true, true, true, false] rfl rfl (one_of HT_.out (by kernel_rfl)) (by decide) (fun K hK => ?_)
          have hszz := hHeld.size
          refine value_ (w1 := ?_) (v := ?_) (by rfl) rfl ?_ ?_
          rotate_left 2
          · go_simp
            constructor
            · rfl
            · rfl
          have hbA := hHeld.alloc hHeld.size (.cells #[.int .i64 0, .int .i64 0, .int .i64 0] 134)
          refine hK.out _ _ hbA (fun hHeld => ?_)
          clear hK K
          refine norm_ (a' := ?_) ?_ ?_
          rotate_left
          · show Act.put _ (some 9) _ = _
            simp only [Act.put, List.setIfInBounds_toArray, List.set_cons_zero, List.set_cons_succ, i64_w, i32_w]
            rfl
          have h9 := Blk.new w7 134 #[.int .i64 0, .int .i64 0, .int .i64 0]
          generalize hg9 : w7.heap.size = g9 at h9 hszz ⊢
          generalize w7.alloc (.cells #[.int .i64 0, .int .i64 0, .int .i64 0] 134) = w8 at hHeld h9 ⊢
          have z0 := h9.cell 0
          have z1 := h9.cell 1
          have z2 := h9.cell 2
          simp at z0 z1 z2
          have f0 := h9.frozen 0
          have f1 := h9.frozen 1
          have f2 := h9.frozen 2
          refine last_ (i := 11) (N := none) #[true, true, true, true, true, true, true, true, true, true, true, true] rfl rfl (one_of HT_.out (by kernel_rfl)) (by decide) (fun K hK => ?_)
          refine skip_ (w1 := ?_) (by rfl) rfl ?_ ?_
          rotate_left
          · go_simp
            rfl
          refine hK.out _ _ ?_
          clear hK K
          refine done_ (done_of HT_.out (by kernel_rfl)) ?_
          have h9T : Blk (((w8.setCell ⟨g9, 0, none⟩ (.int .i64 t.f0)).setCell ⟨g9, 1, none⟩ (.int .i64 t.f1)).setCell ⟨g9, 2, none⟩ (.int .i64 t.f2)) g9 134 #[.int .i64 t.f0, .int .i64 t.f1, .int .i64 t.f2] := by
            have h := ((h9.set_ 0 (.int .i64 t.f0)).set_ 1 (.int .i64 t.f1)).set_ 2 (.int .i64 t.f2)
            simpa using h
          have hbT : Below w.heap.size w (((w8.setCell ⟨g9, 0, none⟩ (.int .i64 t.f0)).setCell ⟨g9, 1, none⟩ (.int .i64 t.f1)).setCell ⟨g9, 2, none⟩ (.int .i64 t.f2)) := by
            have hC : Chg [g9] w8 (((w8.setCell ⟨g9, 0, none⟩ (.int .i64 t.f0)).setCell ⟨g9, 1, none⟩ (.int .i64 t.f1)).setCell ⟨g9, 2, none⟩ (.int .i64 t.f2)) := (((Chg.refl _ _).setCell (.inl (by simp)) _).setCell (.inl (by simp)) _).setCell (.inl (by simp)) _
            exact hHeld.trans (hC.below hHeld.size (by simpa using hszz))
          generalize ((w8.setCell ⟨g9, 0, none⟩ (.int .i64 t.f0)).setCell ⟨g9, 1, none⟩ (.int .i64 t.f1)).setCell ⟨g9, 2, none⟩ (.int .i64 t.f2) = wT at h9T hbT ⊢
          clear hHeld h9 z0 z1 z2 f0 f1 f2 hb6 hbA hg9
          have z0 := h9T.cell 0
          have z1 := h9T.cell 1
          have z2 := h9T.cell 2
          simp at z0 z1 z2
          by_cases hr : t.f1 = 0
          · have b3 : (t.f1 != 0) = false := by simpa using hr
            have he := HE.out
            rw [if_neg (by simpa using hr)] at he
            have HE2 := Lib.hid he
            clear he hr
            go_wp2_with fail
            go_loopw [10, 11] (fun v10 i W => ∃ (j : Nat) (b : Bool), j ≤ k ∧ i = .int .i64 j ∧ v10 = .bool b ∧ Below wT.heap.size wT W ∧ Hid (b = decide (0 ≤ t.f2 ∨ (m : Int) ∈ ids.take j))) (fun _ i _ => k - (intOf i).toNat)
            case atStart => exact ⟨0, _, Nat.zero_le _, rfl, rfl, Below.refl _ _, Lib.hid (by simp)⟩
            case round =>
              clear z0 z1 z2 b3
              obtain ⟨j, b, hj, rfl, rfl, hbW, HBL⟩ := hrel
              have hbW2 := hbT.trans (hbW.mono hbT.size)
              have h9W := h9T.below hbW h9T.lt
              by_cases hjk : j < k
              · have c0 : decide ((j : Int) < (k : Int)) = true := by simp; omega
                have hji : (j : Int) < (ids.length : Int) := by omega
                obtain ⟨ad3, hA3, q0⟩ := int_at (Kd.C_below HI.out hbW2) j (by omega)
                obtain rfl : ad2 = ad3 := by injection hA3
                have q1 := (World.cell?_of_block (hbW2.block _ (World.block_lt_of_cell? w _ HXW.out))).trans HXW.out
                have htk : ids.take (j + 1) = ids.take j ++ [ids.getD j 0] := by
                  rw [List.take_add_one]
                  have : j < ids.length := by omega
                  simp [this]
                have HTK := Lib.hid htk
                generalize ids.getD j 0 = z at q0 HTK
                clear htk hA3
                have hwn : wrap64 ((j : Int) + 1) = ((j + 1 : Nat) : Int) := w64n j (by omega)
                have HWN := Lib.hid hwn
                clear hwn
                cases b with
                | true =>
                  have HB2 : Hid (true = decide (0 ≤ t.f2 ∨ (m : Int) ∈ ids.take (j + 1))) := Lib.hid (by
                    have h := of_decide_eq_true HBL.out.symm
                    rw [HTK.out]
                    symm
                    apply decide_eq_true
                    rcases h with h | h
                    · exact .inl h
                    · exact .inr (List.mem_append_left _ h))
                  go_upto_region 15 with fail
                  go_quiet (fail)
                  go_wp2_with fail
                  go_roundw
                  case rel => exact ⟨j + 1, true, by omega, by first | rfl | (rw [HWN.out]), rfl, pw_below_drewN hbW nq, HB2⟩
                  case measure =>
                    first | rw [HWN.out] | skip
                    simp [intOf]
                    omega
                | false =>
                  have hno := of_decide_eq_false HBL.out.symm
                  by_cases hz : z = m
                  · have c1 : (z == (m : Int)) = true := by simpa using hz
                    have HB2 : Hid (true = decide (0 ≤ t.f2 ∨ (m : Int) ∈ ids.take (j + 1))) := Lib.hid (by
                      rw [HTK.out]
                      symm
                      apply decide_eq_true
                      exact .inr (List.mem_append_right _ (by rw [hz]; simp)))
                    clear hz hno
                    go_upto_region 15 with fail
                    go_quiet (fail)
                    go_wp2_with fail
                    go_roundw
                    case rel => exact ⟨j + 1, true, by omega, by first | rfl | (rw [HWN.out]), rfl, pw_below_drewN hbW nq, HB2⟩
                    case measure =>
                      first | rw [HWN.out] | skip
                      simp [intOf]
                      omega
                  · have c1 : (z == (m : Int)) = false := by simpa using hz
                    have HB2 : Hid (false = decide (0 ≤ t.f2 ∨ (m : Int) ∈ ids.take (j + 1))) := Lib.hid (by
                      rw [HTK.out]
                      symm
                      apply decide_eq_false
                      rintro (h | h)
                      · exact hno (.inl h)
                      · rcases List.mem_append.1 h with h | h
                        · exact hno (.inr h)
                        · exact hz (List.mem_singleton.1 h).symm)
                    clear hz hno
                    go_upto_region 15 with fail
                    go_quiet (fail)
                    go_wp2_with fail
                    go_roundw
                    case rel => exact ⟨j + 1, false, by omega, by first | rfl | (rw [HWN.out]), rfl, pw_below_drewN hbW nq, HB2⟩
                    case measure =>
                      first | rw [HWN.out] | skip
                      simp [intOf]
                      omega
              · have c0 : decide ((j : Int) < (k : Int)) = false := by simp; omega
                obtain rfl : j = k := by omega
                have he := HE2.out
                have z0 := h9W.cell 0
                simp at z0
                cases b with
                | true =>
                  rw [if_pos (of_decide_eq_true HBL.out.symm)] at he
                  subst he
                  go_wp2_with fail
                  go_ret2
                  exact .inl ⟨j, hlt, HOK.out, by rw [HE0.out]; decide, by rw [HE0.out]; rfl, hbW2⟩
                | false =>
                  rw [if_neg (of_decide_eq_false HBL.out.symm)] at he
                  by_cases ha : t.f0 = ac
                  · have ba : (t.f0 != ac) = false := by simpa using ha
                    rw [if_neg (by simpa using ha)] at he
                    subst he
                    have HOK2 : Hid (okTo ts ac ids (j + 1)) := Lib.hid (fun i hi => by
                      by_cases e : i = j
                      · rw [e]; exact HE0.out
                      · exact HOK.out i (by omega))
                    have HWN : Hid (wrap64 ((j : Int) + 1) = ((j + 1 : Nat) : Int)) := Lib.hid (w64n j (by omega))
                    clear ha
                    go_wp2_with fail
                    go_roundw
                    case rel => exact ⟨j + 1, by omega, by first | rfl | (rw [HWN.out]), hbW2, HOK2⟩
                    case measure =>
                      first | rw [HWN.out] | skip
                      simp [intOf]
                      omega
                  · have ba : (t.f0 != ac) = true := by simpa using ha
                    rw [if_pos ha] at he
                    subst he
                    clear ha
                    go_wp2_with fail
                    go_ret2
                    exact .inl ⟨j, hlt, HOK.out, by rw [HE0.out]; decide, by rw [HE0.out]; rfl, hbW2⟩
          · have b3 : (t.f1 != 0) = true := by simpa using hr
            have he := HE.out
            rw [if_pos hr] at he
            subst he
            clear hr
            go_wp2_with fail
            go_ret2
            exact .inl ⟨k, hlt, HOK.out, by rw [HE0.out]; decide, by rw [HE0.out]; rfl, hbT⟩
    · have b0 : decide ((k : Int) < (ids.length : Int)) = false := by simp; omega
      obtain rfl : k = ids.length := by omega
      go_wp2_with fail
      clear b0 hlt hk
      go_loopw [12] (fun i W => ∃ k : Nat, k ≤ ids.length ∧ i = .int .i64 k ∧ Chg (p :: (Value.slice A ts.length c).ownBlock.toList) w W ∧ Hid (Blk W p 28 #[.slice A ts.length c, .int .i64 n]) ∧ Hid (Kd.R k134 134 W 0 (fun _ => True) (.slice A ts.length c) (setAll n ts (ids.take k)))) (fun i _ => ids.length - (intOf i).toNat)
      case atStart => exact ⟨0, Nat.zero_le _, rfl, Chg.of_below hb _, Lib.hid (HB.out.below hb HB.out.lt), Lib.hid (Kd.R_below HR.out hb)⟩
      case round =>
        clear hb
        obtain ⟨k, hk, rfl, hCw, HBw, HRw⟩ := hrel
        by_cases hlt : k < ids.length
        · have b0 : decide ((k : Int) < (ids.length : Int)) = true := by simp; omega
          obtain ⟨hi0, hi1, hi2⟩ := okTo.in_ (HOK.out k hlt)
          obtain ⟨ad2, hA2, x0w⟩ := int_at HI.out k hlt
          subst hA2
          have hadb : (ad2.add k).block = ad2.block := by unfold Addr.add; split <;> rfl
          have x0 := (World.cell?_of_block (hCw.block _ (World.block_lt_of_cell? w _ x0w) (by rw [hadb]; exact HO.out (by omega) ad2 rfl))).trans x0w
          have htk : ids.take (k + 1) = ids.take k ++ [ids.getD k 0] := by
            rw [List.take_add_one]
            simp [hlt]
          have hki : (k : Int) < (ids.length : Int) := by omega
          obtain ⟨m, hid⟩ : ∃ m : Nat, ids.getD k 0 = m := ⟨(ids.getD k 0).toNat, by omega⟩
          rw [hid] at hi0 hi1 hi2 x0 htk
          have hm : m < ts.length := by omega
          obtain ⟨ts', hts⟩ : ∃ ts', setAll n ts (ids.take k) = ts' := ⟨_, rfl⟩
          have hlen' : ts'.length = ts.length := by rw [← hts]; exact setAll_len n _ ts
          have hnext : setAll n ts (ids.take (k + 1)) = setOne n ts' m := by rw [htk, setAll_snoc, hts]
          rw [hts] at HRw
          obtain ⟨g, c', hA, _, hgl, hgb⟩ := Kd.R_form HRw.out (by omega)
          injection hA with hA1 hA2 hA3
          clear hA2
          subst hA1
          have hC := (Kd.R_reads' HRw.out).2.2
          obtain ⟨ad, e, y0, y1, y2⟩ := at_134 hC m (by omega)
          obtain rfl : (⟨g, 0, none⟩ : Addr) = ad := by injection e
          have ea : (⟨g, 0, none⟩ : Addr).add (m * 3) = ⟨g, m * 3, none⟩ := by unfold Addr.add; split <;> simp_all
          rw [ea] at y2
          obtain ⟨f, hf⟩ : ∃ f, ts'.getD m z134 = f := ⟨_, rfl⟩
          rw [hf] at y2
          have HNX := Lib.hid hnext
          have hpg : p ≠ g := fun e => by
            obtain ⟨cs, hcs⟩ := hgb
            have h := HBw.out
            unfold Blk at h
            rw [e, hcs] at h
            injection h with h
            injection h with _ h
            exact absurd h (by decide)
          have HGB : Hid (∃ cs, Blk wr g 134 cs) := Lib.hid hgb
          have hmi : (m : Int) < (ts.length : Int) := by omega
          have hgS : g ∈ (p :: (Value.slice (some ⟨g, 0, none⟩) ts.length c).ownBlock.toList) := by simp [Value.ownBlock]
          have y2' : wr.cell? ⟨g, m * 3 + 2, none⟩ = some (.int .i64 f.f2) := y2
          have hBl := HBw.out
          clear e ea y0 y1 y2 hf hC hi0 hi1 hi2 hid htk hts hnext hgb hA3 hadb x0w
          go_upto_region 23 with fail
          obtain ⟨wS, hwS⟩ : ∃ wS : World, wS = wr := ⟨_, rfl⟩
          rw [← hwS] at hBl HRw HGB y2' hCw x0 ⊢
          clear hwS HBw
          have hBS := hBl
          have HRS := HRw
          have t2 := y2'
          clear hBl HRw y2' hgl
          refine start_ (n := 15) (S := fun w' => Blk w' p 28 #[.slice (some ⟨g, 0, none⟩) ts.length c, .int .i64 n] ∧ w'.cell? (ad2.add k) = some (.int .i64 m)) (ds := [14]) #[false, false, false, false, false, false, false, false, false, false, false, false, false, false, false] (by kernel_rfl) rfl rfl ⟨hBS.drew, x0⟩ (fun hHeld => ?_)
          refine with_tabW tab23 bits23 (fun HT_ HW_ => ?_)
          have HR4 := Lib.hid (Kd.R_drew HRS.out)
          have u2 : wS.drew.cell? ⟨g, m * 3 + 2, none⟩ = some (.int .i64 f.f2) := t2
          have v2 : wS.drew.frozen? ⟨g, m * 3 + 2, none⟩ = false := by obtain ⟨cs, h⟩ := HGB.out; exact h.drew.frozen _
          have hCS : Chg [g] wS wS.drew := (Chg.refl _ _).drew
          generalize wS.drew = w4 at hHeld HR4 u2 v2 hCS ⊢
          clear t2
          refine pure_ (i := 0) (N := some 82) (v := ?_) (a' := ?_) #[true, false, false, false, false, false, false, false, false, false, false, false, false, false, false] rfl rfl (any_of HT_.out (by kernel_rfl)) (fun _ _ _ h => h) (Or.inl ⟨by rfl, ?_⟩) ?_ ?_
          rotate_left
          · intro w'
            go_simp
            with_reducible rfl
          rotate_left
          · simp only [Act.put, List.setIfInBounds_toArray, List.set_cons_zero, List.set_cons_succ, i64_w, i32_w]
            rfl
          refine pure_ (i := 1) (N := some 83) (v := ?_) (a' := ?_) #[true, true, false, false, false, false, false, false, false, false, false, false, false, false, false] rfl rfl (any_of HT_.out (by kernel_rfl)) (fun _ _ _ h => h) (Or.inl ⟨by rfl, ?_⟩) ?_ ?_
          rotate_left
          · intro w'
            go_simp
            with_reducible rfl
          rotate_left
          · simp only [Act.put, List.setIfInBounds_toArray, List.set_cons_zero, List.set_cons_succ, i64_w, i32_w]
            rfl
          refine pure_ (i := 2) (N := some 84) (v := ?_) (a' := ?_) #[true, true, true, false, false, false, false, false, false, false, false, false, false, false, false] rfl rfl (any_of HT_.out (by kernel_rfl)) (fun _ _ _ h => h) (Or.inl ⟨by rfl, ?_⟩) ?_ ?_
          rotate_left
          · intro w'
            go_simp
            with_reducible rfl
          rotate_left
          · simp only [Act.put, List.setIfInBounds_toArray, List.set_cons_zero, List.set_cons_succ, i64_w, i32_w]
            rfl
          refine take_ (i := 3) (N := some 85) (v := ?_) (a' := ?_) #[true, true, true, true, false, false, false, false, false, false, false, false, false, false, false] rfl rfl (take_ofW HT_.out HW_.out (by kernel_rfl)) (fun _ _ _ h => h) (Or.inl ⟨by rfl, ?_⟩) hHeld ?_ ?_
          rotate_left
          · intro w' HS_
            have t_ := HS_.1.cell 0
            simp at t_
            go_simp
            with_reducible rfl
          rotate_left
          · simp only [Act.put, List.setIfInBounds_toArray, List.set_cons_zero, List.set_cons_succ, i64_w, i32_w]
            rfl
          refine pure_ (i := 4) (N := some 86) (v := ?_) (a' := ?_) #[true, true, true, true, true, false, false, false, false, false, false, false, false, false, false] rfl rfl (any_of HT_.out (by kernel_rfl)) (fun _ _ _ h => h) (Or.inl ⟨by rfl, ?_⟩) ?_ ?_
          rotate_left
          · intro w'
            go_simp
            with_reducible rfl
          rotate_left
          · simp only [Act.put, List.setIfInBounds_toArray, List.set_cons_zero, List.set_cons_succ, i64_w, i32_w]
            rfl
          refine pure_ (i := 5) (N := some 87) (v := ?_) (a' := ?_) #[true, true, true, true, true, true, false, false, false, false, false, false, false, false, false] rfl rfl (any_of HT_.out (by kernel_rfl)) (fun _ _ _ h => h) (Or.inl ⟨by rfl, ?_⟩) ?_ ?_
          rotate_left
          · intro w'
            go_simp
            with_reducible rfl
          rotate_left
          · simp only [Act.put, List.setIfInBounds_toArray, List.set_cons_zero, List.set_cons_succ, i64_w, i32_w]
            rfl
          refine pure_ (i := 6) (N := some 88) (v := ?_) (a' := ?_) #[true, true, true, true, true, true, true, false, false, false, false, false, false, false, false] rfl rfl (any_of HT_.out (by kernel_rfl)) (fun _ _ _ h => h) (Or.inl ⟨by rfl, ?_⟩) ?_ ?_
          rotate_left
          · intro w'
            go_simp
            with_reducible rfl
          rotate_left
          · simp only [Act.put, List.setIfInBounds_toArray, List.set_cons_zero, List.set_cons_succ, i64_w, i32_w]
            rfl
          refine take_ (i := 7) (N := some 89) (v := ?_) (a' := ?_) #[true, true, true, true, true, true, true, true, false, false, false, false, false, false, false] rfl rfl (take_ofW HT_.out HW_.out (by kernel_rfl)) (fun _ _ _ h => h) (Or.inl ⟨by rfl, ?_⟩) hHeld ?_ ?_
          rotate_left
          · intro w' HS_
            have t_ := HS_.2
            go_simp
            with_reducible rfl
          rotate_left
          · simp only [Act.put, List.setIfInBounds_toArray, List.set_cons_zero, List.set_cons_succ, i64_w, i32_w]
            rfl
          refine pure_ (i := 8) (N := some 90) (v := ?_) (a' := ?_) #[true, true, true, true, true, true, true, true, true, false, false, false, false, false, false] rfl rfl (any_of HT_.out (by kernel_rfl)) (fun _ _ _ h => h) (Or.inl ⟨by rfl, ?_⟩) ?_ ?_
          rotate_left
          · intro w'
            go_simp
            with_reducible rfl
          rotate_left
          · simp only [Act.put, List.setIfInBounds_toArray, List.set_cons_zero, List.set_cons_succ, i64_w, i32_w]
            rfl
          refine pure_ (i := 9) (N := some 91) (v := ?_) (a' := ?_) #[true, true, true, true, true, true, true, true, true, true, false, false, false, false, false] rfl rfl (any_of HT_.out (by kernel_rfl)) (fun _ _ _ h => h) (Or.inl ⟨by rfl, ?_⟩) ?_ ?_
          rotate_left
          · intro w'
            go_simp
            with_reducible rfl
          rotate_left
          · simp only [Act.put, List.setIfInBounds_toArray, List.set_cons_zero, List.set_cons_succ, i64_w, i32_w]
            rfl
          refine pure_ (i := 10) (N := some 92) (v := ?_) (a' := ?_) #[true, true, true, true, true, true, true, true, true, true, true, false, false, false, false] rfl rfl (any_of HT_.out (by kernel_rfl)) (fun _ _ _ h => h) (Or.inl ⟨by rfl, ?_⟩) ?_ ?_
          rotate_left
          · intro w'
            go_simp
            with_reducible rfl
          rotate_left
          · simp only [Act.put, List.setIfInBounds_toArray, List.set_cons_zero, List.set_cons_succ, i64_w, i32_w]
            rfl
          refine take_ (i := 11) (N := some 93) (v := ?_) (a' := ?_) #[true, true, true, true, true, true, true, true, true, true, true, true, false, false, false] rfl rfl (take_ofW HT_.out HW_.out (by kernel_rfl)) (fun _ _ _ h => h) (Or.inl ⟨by rfl, ?_⟩) hHeld ?_ ?_
          rotate_left
          · intro w' HS_
            have t_ := HS_.1.cell 1
            simp at t_
            go_simp
            with_reducible rfl
          rotate_left
          · simp only [Act.put, List.setIfInBounds_toArray, List.set_cons_zero, List.set_cons_succ, i64_w, i32_w]
            rfl
          refine pure_ (i := 12) (N := some 94) (v := ?_) (a' := ?_) #[true, true, true, true, true, true, true, true, true, true, true, true, true, false, false] rfl rfl (any_of HT_.out (by kernel_rfl)) (fun _ _ _ h => h) (Or.inl ⟨by rfl, ?_⟩) ?_ ?_
          rotate_left
          · intro w'
            go_simp
            with_reducible rfl
          rotate_left
          · simp only [Act.put, List.setIfInBounds_toArray, List.set_cons_zero, List.set_cons_succ, i64_w, i32_w]
            rfl
          refine pure_ (i := 13) (N := some 95) (v := ?_) (a' := ?_) #[true, true, true, true, true, true, true, true, true, true, true, true, true, true, false] rfl rfl (any_of HT_.out (by kernel_rfl)) (fun _ _ _ h => h) (Or.inl ⟨by rfl, ?_⟩) ?_ ?_
          rotate_left
          · intro w'
            go_simp
            with_reducible rfl
          rotate_left
          · simp only [Act.put, List.setIfInBounds_toArray, List.set_cons_zero, List.set_cons_succ, i64_w, i32_w]
            rfl
          refine last_ (i := 14) (N := none) #[true, true, true, true, true, true, true, true, true, true, true, true, true, true, true] rfl rfl (one_of HT_.out (by kernel_rfl)) (by decide) (fun K hK => ?_)
          refine skip_ (w1 := ?_) (by rfl) rfl ?_ ?_
          rotate_left
          · go_simp
            rfl
          have hB6 := hHeld.1.far (p := ⟨g, m * 3 + 2, none⟩) hpg (.int .i64 n)
          have hC6 := hCS.setCell (p := ⟨g, m * 3 + 2, none⟩) (.inl (by simp)) (.int .i64 n)
          refine hK.out _ _ ?_
          clear hK K
          refine done_ (done_of HT_.out (by kernel_rfl)) ?_
          have hput := put134 HR4.out m hm n
          have hlen7 : ∀ W, Kd.R k134 134 W 0 (fun _ => True) (.slice (some ⟨g, 0, none⟩) ts.length c) (ts'.set m { ts'.getD m z134 with f2 := n }) → Kd.R k134 134 W 0 (fun _ => True) (.slice (some ⟨g, 0, none⟩) ts.length c) (setAll n ts (ids.take (k + 1))) := fun W h => by
            rw [HNX.out]
            unfold setOne
            rw [Int.toNat_natCast]
            exact h
          have HR7 := Lib.hid (hlen7 _ hput)
          have HB7 := Lib.hid hB6
          have hC7 := hCw.trans (hC6.mono (fun x hx => by rw [List.mem_singleton] at hx; rw [hx]; exact hgS))
          have HWN : Hid (wrap64 ((k : Int) + 1) = ((k + 1 : Nat) : Int)) := Lib.hid (w64n k (by omega))
          clear hput hlen7 hB6 hC6 u2 v2
          go_wp2_with fail
          go_roundw
          case rel => exact ⟨k + 1, by omega, by first | rfl | (rw [HWN.out]), hC7, HB7, HR7⟩
          case measure =>
            first | rw [HWN.out] | skip
            simp [intOf]
            omega
        · have b0 : decide ((k : Int) < (ids.length : Int)) = false := by simp; omega
          obtain rfl : k = ids.length := by omega
          rw [List.take_length] at HRw
          have hc1 := HBw.out.cell 1
          have hf1 := HBw.out.frozen 1
          simp at hc1
          have hwn : wrap64 (n + 1) = n + 1 := by have := HN.out; unfold wrap64; omega
          have hwn2 : wrap64 (n + 1 - 1) = n := by have := HN.out; unfold wrap64; omega
          have HWN2 := Lib.hid hwn2
          have hz1 : (wr.setCell ⟨p, 1, none⟩ (.int .i64 (n + 1))).cell? ⟨p, 1, none⟩ = some (.int .i64 (n + 1)) := by
            have h := (HBw.out.set_ 1 (.int .i64 (n + 1))).cell 1
            simpa using h
          clear hwn2
          go_upto_region 25 with fail
          clear hwn hc1 hf1
          have hwn2 := HWN2.out
          go_wp2_with fail
          go_ret2
          have hwn3 : wrap64 n = n := by have := HN.out; clear hwn2 hz1; unfold wrap64; omega
          have hBl : Blk (wr.setCell ⟨p, 1, none⟩ (.int .i64 (n + 1))) p 28 #[.slice A ts.length c, .int .i64 (n + 1)] := by
            have h := HBw.out.set_ 1 (.int .i64 (n + 1))
            simpa using h
          have hRl : Kd.R k134 134 (wr.setCell ⟨p, 1, none⟩ (.int .i64 (n + 1))) 0 (fun _ => True) (.slice A ts.length c) (setAll n ts ids) := by
            refine Kd.R_set HRw.out HBw.out (fun q hq => ?_) 1 _
            have hE : k134.E = [] := rfl
            rw [hE] at hq
            simp at hq
            omega
          exact .inr ⟨HOK.out, congrArg (fun z => Ending.returned (.tuple #[.int .i64 z, .int .i64 0])) hwn3, _, ⟨_, rfl, hBl, hRl⟩, hCw.setCell (.inl (by simp)) _, fun x hx => .inl hx⟩
end Go.Proofs.Ytlbfnnngemonoaa.Fat
