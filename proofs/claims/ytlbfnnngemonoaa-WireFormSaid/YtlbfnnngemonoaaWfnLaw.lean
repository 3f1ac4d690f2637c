/- The law WireForm: the walk. -/
import Derived.Test.YtlbfnnngemonoaaWfnAwake
namespace Go.Proofs.Ytlbfnnngemonoaa.Wir
open Go.RowKit Go.Proofs.Ytlbfnnngemonoaa.PWireReads
open Go.Proofs.Ytlbfnnngemonoaa.Fat (Blk Chg Off chg_opt)
open Go.Proofs.YtlbfnnngemonoaaW.PrintWords Go.Proofs.YtlbfnnngemonoaaW.PrintLast Go.Proofs.YtlbfnnngemonoaaW.PrintMore
set_option linter.unusedVariables false
set_option linter.unusedSimpArgs false
attribute [local go_sem] run_store_float run_store_complex

def T7a : Bool × List (List Nat × List Nat) := (true, [([], []), ([0], [0]), ([1], [1]), ([2], [2]), ([2], [2]), ([4, 2], [2, 4]), ([3, 5, 2], [2, 3, 5]), ([2, 6], [2, 6]), ([7, 2], [7]), ([8], [8]), ([9, 8], [8, 9]), ([8], [8]), ([8], [8]), ([11, 12, 8], [8, 11, 12]), ([13, 8], [8, 13]), ([10, 14, 8], [8, 10, 14]), ([8, 15], [8, 15]), ([16, 8], [16]), ([17], [17]), ([17], [17]), ([19, 17, 17], [17, 19]), ([18, 20, 20, 17], [17, 18, 20]), ([21, 17], [17, 21]), ([17, 22], [17, 22])])
def B7a : List Nat := [0, 1, 3, 7, 7, 23, 63, 127, 255, 511, 1023, 511, 511, 6655, 14847, 32767, 65535, 131071, 262143, 262143, 786431, 2097151, 4194303, 8388607]
theorem tab7a : rtab .any (opsOf Try.f7 6) = T7a := by kernel_rfl
theorem tab7b : rtab .any (opsOf Try.f7 13) = T7a := by kernel_rfl
theorem bits7a : waitsOk T7a.2 B7a = true := by kernel_rfl
theorem rvec_of {e : Nat} {w : World} {base : Nat} {v : Value} {vs : List V} (h : Kd.R kV e w base (fun _ => True) v vs) : ∃ A c, v = .slice A vs.length c := Kd.R_slice h
theorem take_string {w W : World} {A : Option Addr} {c : Nat} {l : List Int} (hC : Kd.C (Kd.int .u8) w A l.length l) (hb : Below w.heap.size w W) (n : Nat) (hn : n ≤ l.length) : (convert 45 9 (.slice A n c)).run Try.prog W = .ok (.string (strOfNums (l.take n))) W := by
  have h := Kd.C_take (Kd.C_below hC hb) hn
  have e : (l.take n).length = n := by rw [List.length_take]; omega
  rw [e] at h
  exact Kd.C_string Try.underlying45 Try.underlying5 Try.underlying9 h
theorem cutN (A : Option Addr) (n c m : Nat) (hm : m ≤ n) (hc : n ≤ c) : ∀ W : World, (Instr.slice 45 (.slice A n c) none (some (.int .i64 (m : Int))) none).run Try.prog W = .ok (.slice A m c) W := fun W => by
  have h := cutTo A n c (m : Int) (by omega) (by omega) hc W
  rwa [Int.toNat_natCast] at h
set_option maxRecDepth 20000 in
set_option maxHeartbeats 8000000 in
theorem form_any (A : Option Addr) (c : Nat) (l : List Int) (w : World) (hC : Kd.C (Kd.int .u8) w A l.length l) (hc : l.length ≤ c) (hl : l.length + 2 ≤ 140737488355328) (hBy : By l) :
    Calls Try.prog 7 #[.slice A l.length c] w fun e w' => e = .returned (.bool true) ∧ Below w.heap.size w w' := by
  have HC := Lib.hid hC
  have HBy := Lib.hid hBy
  have HLT : Hid (∀ W : World, Below w.heap.size w W → Calls Try.prog 17 #[.slice A l.length c] W fun e w' => ∃ g cap, e = .returned (.slice (some ⟨g, 0, none⟩) l.length cap) ∧ Lent w' W.heap.size g cap l ∧ l.length + 2 ≤ cap ∧ Below W.heap.size W w') := Lib.hid (fun W hb => lent_any A c l W (Kd.C_below hC hb) hl)
  have HAW := Lib.hid (awakeW_any w)
  clear hC hBy
  go_enter Try.func7, Try.ntmps7
  go_wp2_with fail
  refine HAW.out.mono ?_
  rintro e w0 ⟨rfl, hb0⟩
  have HB0 := Lib.hid hb0
  clear hb0 HAW
  go_wp2_with fail
  refine (HLT.out w0 HB0.out).mono ?_
  rintro e a1 ⟨g1, cap1, rfl, hL, hcap, hb⟩
  have HA1 := Lib.hid (HB0.out.trans (hb.mono HB0.out.size))
  have HV := Lib.hid (readV_any (some ⟨g1, 0, none⟩) cap1 l a1 hL.C.1 (by omega) HBy.out)
  clear hL hcap hb
  go_wp2_with fail
  refine HV.out.mono ?_
  rintro e r1 ⟨he, hb⟩
  have HR1 := Lib.hid (HA1.out.trans (hb.mono HA1.out.size))
  clear hb HV
  rcases hr : rdV l with _ | ⟨v, n⟩
  · rw [hr] at he
    have he : e = .returned (.tuple #[.agg #[.int .i64 0, .int .i64 0, .float .f64 0, .complex .f64 0 0, .string { data := #[] }], .int .i64 0, .int .i64 110]) := he
    subst he
    clear hr
    go_upto_region 4 with fail
    have hB := Blk.new r1 50 #[.int .i64 0, .int .i64 0, .float .f64 0, .complex .f64 0 0, .string { data := #[] }]
    have hb := HR1.out.alloc HR1.out.size (.cells #[.int .i64 0, .int .i64 0, .float .f64 0, .complex .f64 0 0, .string { data := #[] }] 50)
    have hbn := (Below.refl r1.heap.size r1).alloc (Nat.le_refl _) (.cells #[.int .i64 0, .int .i64 0, .float .f64 0, .complex .f64 0 0, .string { data := #[] }] 50)
    generalize hWq : r1.alloc (.cells #[.int .i64 0, .int .i64 0, .float .f64 0, .complex .f64 0 0, .string { data := #[] }] 50) = W1 at hB hb hbn ⊢
    clear hWq
    have HX1 := Lib.hid hB
    have HW1 := Lib.hid hb
    have x0 := hB.cell 0
    simp at x0
    clear hB hb hbn
    go_upto_region 10 with fail
    have HP1 := HW1
    clear x0 HX1 HW1 HR1 HA1
    go_wp2_with fail
    refine (HLT.out W1 HP1.out).mono ?_
    rintro e a2 ⟨g2, cap2, rfl, hL, hcap, hb⟩
    have HA2 := Lib.hid (HP1.out.trans (hb.mono HP1.out.size))
    have HV := Lib.hid (readP_any (some ⟨g2, 0, none⟩) cap2 l a2 hL.C.1 (by omega) HBy.out (by omega))
    clear hL hcap hb
    go_wp2_with fail
    refine HV.out.mono ?_
    rintro e r1 ⟨hb, he⟩
    have HR1 := Lib.hid (HA2.out.trans (hb.mono HA2.out.size))
    clear hb HV
    rcases hr : rdP l with _ | ⟨vs, n⟩
    · rw [hr] at he
      have he : e = .returned (.tuple #[.slice none 0 0, .int .i64 0, .int .i64 110]) := he
      subst he
      clear hr
      go_upto_region 17 with fail
      have HP2 := HR1
      clear HR1 HA2
      go_wp2_with fail
      refine (HLT.out r1 HP2.out).mono ?_
      rintro e a3 ⟨g3, cap3, rfl, hL, hcap, hb⟩
      have HA3 := Lib.hid (HP2.out.trans (hb.mono HP2.out.size))
      have HV := Lib.hid (readM_any (some ⟨g3, 0, none⟩) cap3 l a3 hL.C.1 (by omega) HBy.out (by omega))
      clear hL hcap hb
      go_wp2_with fail
      refine HV.out.mono ?_
      rintro e r1 ⟨hb, he⟩
      have HR1 := Lib.hid (HA3.out.trans (hb.mono HA3.out.size))
      clear hb HV
      rcases hr : rdM l with _ | ⟨m, n⟩
      · rw [hr] at he
        have he : e = .returned (.tuple #[.agg #[.int .i64 0, .string { data := #[] }, .slice none 0 0], .int .i64 0, .int .i64 110]) := he
        subst he
        clear hr
        go_upto_region 18 with fail
        have hB := Blk.new r1 57 #[.int .i64 0, .string { data := #[] }, .slice none 0 0]
        have hb := HR1.out.alloc HR1.out.size (.cells #[.int .i64 0, .string { data := #[] }, .slice none 0 0] 57)
        have hbn := (Below.refl r1.heap.size r1).alloc (Nat.le_refl _) (.cells #[.int .i64 0, .string { data := #[] }, .slice none 0 0] 57)
        generalize hWq : r1.alloc (.cells #[.int .i64 0, .string { data := #[] }, .slice none 0 0] 57) = W3 at hB hb hbn ⊢
        clear hWq
        have HX3 := Lib.hid hB
        have HW3 := Lib.hid hb
        have x0 := hB.cell 0
        have x1 := hB.cell 1
        have x2 := hB.cell 2
        simp at x0 x1 x2
        clear hB hb hbn HR1 HA3
        go_wp2_with fail
        go_ret
        exact ⟨rfl, HW3.out⟩
      · rw [hr] at he
        obtain ⟨u0, he, hRv⟩ := he
        obtain ⟨Av, cv, rfl⟩ := rvec_of hRv
        subst he
        obtain ⟨hG, h6, _, _, hn⟩ := rdM_good l m n hr
        obtain ⟨hfv, hFv, hz, hi, ht⟩ := form_rdM l HBy.out m n hr
        clear hr
        have HVA := Lib.hid (fun (W : World) (h : Below r1.heap.size r1 W) => messageW_any m Av cv W (Kd.C_below (Kd.R_reads' hRv).2.2 h) (Kd.R_reads' hRv).2.1 hG hFv h6 hz hi ht)
        rw [hfv] at HVA
        clear hfv hFv hz hi ht
        go_upto_region 18 with fail
        have hB := Blk.new r1 57 #[.int .i64 m.id, .string m.tag, .slice Av m.pl.length cv]
        have hb := HR1.out.alloc HR1.out.size (.cells #[.int .i64 m.id, .string m.tag, .slice Av m.pl.length cv] 57)
        have hbn := (Below.refl r1.heap.size r1).alloc (Nat.le_refl _) (.cells #[.int .i64 m.id, .string m.tag, .slice Av m.pl.length cv] 57)
        generalize hWq : r1.alloc (.cells #[.int .i64 m.id, .string m.tag, .slice Av m.pl.length cv] 57) = W3 at hB hb hbn ⊢
        clear hWq
        have HX3 := Lib.hid hB
        have HW3 := Lib.hid hb
        have HVB := Lib.hid (HVA.out _ hbn)
        have x0 := hB.cell 0
        have x1 := hB.cell 1
        have x2 := hB.cell 2
        simp at x0 x1 x2
        clear hB hb hbn HVA hRv
        go_wp2_with fail
        refine HVB.out.mono ?_
        rintro e b1 ⟨u, rfl, hR, hb⟩
        obtain ⟨Au, cu, rfl⟩ := Kd.R_slice hR
        rw [show (l.take n).length = n from by rw [List.length_take]; omega] at hR ⊢
        have HRu := Lib.hid hR
        have HB1 := Lib.hid (HW3.out.trans (hb.mono HW3.out.size))
        clear hR hb HVB x0 x1 x2
        go_upto_region 20 with fail
        have s1 := fun k => R_string HRu.out (pw_below_drewN (Below.refl _ b1) k)
        have s2 := fun k => take_string (c := c) HC.out (pw_below_drewN HB1.out k) n hn
        have hcut := cutN A l.length c n hn hc
        have b0 : decide ((n : Int) ≤ (l.length : Int)) = true := by simp; omega
        have b00 : decide (n ≤ l.length) = true := by simp; omega
        generalize strOfNums (l.take n) = s at s1 s2
        clear HRu
        go_quiet (fail)
        go_wp2_with fail
        go_ret
        exact ⟨rfl, pw_below_drewN HB1.out _⟩
    · rw [hr] at he
      obtain ⟨u0, he, hRv⟩ := he
      obtain ⟨Av, cv, rfl⟩ := rvec_of hRv
      subst he
      obtain ⟨hG, h6, _, hn⟩ := rdP_good l vs n hr
      obtain ⟨hfv, hFv, hz⟩ := form_rdP l HBy.out vs n hr
      clear hr
      have HVA := Lib.hid (payload_any Av cv vs r1 (Kd.R_reads' hRv).2.2 (Kd.R_reads' hRv).2.1 hG hFv h6 hz)
      rw [hfv] at HVA
      clear hfv hFv hz
      go_wp2_with fail
      refine HVA.out.mono ?_
      rintro e b1 ⟨u, rfl, hR, hb⟩
      obtain ⟨Au, cu, rfl⟩ := Kd.R_slice hR
      rw [show (l.take n).length = n from by rw [List.length_take]; omega] at hR ⊢
      have HRu := Lib.hid hR
      have HB1 := Lib.hid (HR1.out.trans (hb.mono HR1.out.size))
      have HCv := Lib.hid (Kd.R_reads' (Kd.R_below hRv hb)).2.2
      have HPL := Lib.hid (fun (W : World) (h : Below b1.heap.size b1 W) => plains_any Av cv vs W (Kd.C_below HCv.out h) hG (by omega))
      clear hR hb HVA hRv
      go_upto_region 13 with fail
      have HS1 := Lib.hid (fun (w' : World) (h : Below b1.heap.size b1 w') => R_string HRu.out h)
      have HS2 := Lib.hid (fun (w' : World) (h : Below b1.heap.size b1 w') => take_string (c := c) HC.out (HB1.out.trans (h.mono HB1.out.size)) n hn)
      have hcut := cutN A l.length c n hn hc
      have b0 : decide (l.length < n) = false := by simp; omega
      generalize strOfNums (l.take n) = s at HS1 HS2
      clear HRu
      refine start_ (n := 24) (S := fun w' => Below b1.heap.size b1 w') (ds := []) #[false, false, false, false, false, false, false, false, false, false, false, false, false, false, false, false, false, false, false, false, false, false, false, false] (by kernel_rfl) rfl rfl (Below.refl _ b1).drew (fun hHeld => ?_)
      refine with_tabW tab7b bits7a (fun HT_ HW_ => ?_)
      have HD := Lib.hid ((Below.refl b1.heap.size b1).drew)
      generalize b1.drew = d1 at hHeld HD ⊢
      refine pure_ (i := 0) (N := some 83) (v := ?_) (a' := ?_) #[true, false, false, false, false, false, false, false, false, false, false, false, false, false, false, false, false, false, false, false, false, false, false, false] rfl rfl (any_of HT_.out (by kernel_rfl)) (fun _ _ _ h => h) (Or.inl ⟨by rfl, ?_⟩) ?_ ?_
      rotate_left
      · intro w'
        go_simp
        with_reducible rfl
      rotate_left
      · simp only [Act.put, List.setIfInBounds_toArray, List.set_cons_zero, List.set_cons_succ, i64_w, i32_w]
        rfl
      refine pure_ (i := 1) (N := some 84) (v := ?_) (a' := ?_) #[true, true, false, false, false, false, false, false, false, false, false, false, false, false, false, false, false, false, false, false, false, false, false, false] rfl rfl (any_of HT_.out (by kernel_rfl)) (fun _ _ _ h => h) (Or.inl ⟨by rfl, ?_⟩) ?_ ?_
      rotate_left
      · intro w'
        go_simp
        with_reducible rfl
      rotate_left
      · simp only [Act.put, List.setIfInBounds_toArray, List.set_cons_zero, List.set_cons_succ, i64_w, i32_w]
        rfl
      refine pure_ (i := 2) (N := some 85) (v := ?_) (a' := ?_) #[true, true, true, false, false, false, false, false, false, false, false, false, false, false, false, false, false, false, false, false, false, false, false, false] rfl rfl (any_of HT_.out (by kernel_rfl)) (fun _ _ _ h => h) (Or.inl ⟨by rfl, ?_⟩) ?_ ?_
      rotate_left
      · intro w'
        go_simp
        with_reducible rfl
      rotate_left
      · simp only [Act.put, List.setIfInBounds_toArray, List.set_cons_zero, List.set_cons_succ, i64_w, i32_w]
        rfl
      refine pure_ (i := 3) (N := some 86) (v := ?_) (a' := ?_) #[true, true, true, true, false, false, false, false, false, false, false, false, false, false, false, false, false, false, false, false, false, false, false, false] rfl rfl (any_of HT_.out (by kernel_rfl)) (fun _ _ _ h => h) (Or.inl ⟨by rfl, ?_⟩) ?_ ?_
      rotate_left
      · intro w'
        go_simp
        with_reducible rfl
      rotate_left
      · simp only [Act.put, List.setIfInBounds_toArray, List.set_cons_zero, List.set_cons_succ, i64_w, i32_w]
        rfl
      refine pure_ (i := 4) (N := some 87) (v := ?_) (a' := ?_) #[true, true, true, true, true, false, false, false, false, false, false, false, false, false, false, false, false, false, false, false, false, false, false, false] rfl rfl (any_of HT_.out (by kernel_rfl)) (fun _ _ _ h => h) (Or.inl ⟨by rfl, ?_⟩) ?_ ?_
      rotate_left
      · intro w'
        go_simp
        with_reducible rfl
      rotate_left
      · simp only [Act.put, List.setIfInBounds_toArray, List.set_cons_zero, List.set_cons_succ, i64_w, i32_w]
        rfl
      refine pure_ (i := 5) (N := some 88) (v := ?_) (a' := ?_) #[true, true, true, true, true, true, false, false, false, false, false, false, false, false, false, false, false, false, false, false, false, false, false, false] rfl rfl (any_of HT_.out (by kernel_rfl)) (fun _ _ _ h => h) (Or.inl ⟨by rfl, ?_⟩) ?_ ?_
      rotate_left
      · intro w'
        go_simp
        with_reducible rfl
      rotate_left
      · simp only [Act.put, List.setIfInBounds_toArray, List.set_cons_zero, List.set_cons_succ, i64_w, i32_w]
        rfl
      refine pure_ (i := 6) (N := some 89) (v := ?_) (a' := ?_) #[true, true, true, true, true, true, true, false, false, false, false, false, false, false, false, false, false, false, false, false, false, false, false, false] rfl rfl (any_of HT_.out (by kernel_rfl)) (fun _ _ _ h => h) (Or.inl ⟨by rfl, ?_⟩) ?_ ?_
      rotate_left
      · intro w'
        go_simp
        try simp only [b0]
        with_reducible rfl
      rotate_left
      · simp only [Act.put, List.setIfInBounds_toArray, List.set_cons_zero, List.set_cons_succ, i64_w, i32_w]
        rfl
      refine pure_ (i := 7) (N := some 90) (v := ?_) (a' := ?_) #[true, true, true, true, true, true, true, true, false, false, false, false, false, false, false, false, false, false, false, false, false, false, false, false] rfl rfl (any_of HT_.out (by kernel_rfl)) (fun _ _ _ h => h) (Or.inl ⟨by rfl, ?_⟩) ?_ ?_
      rotate_left
      · intro w'
        go_simp
        with_reducible rfl
      rotate_left
      · simp only [Act.put, List.setIfInBounds_toArray, List.set_cons_zero, List.set_cons_succ, i64_w, i32_w]
        rfl
      refine pure_ (i := 8) (N := some 91) (v := ?_) (a' := ?_) #[true, true, true, true, true, true, true, true, true, false, false, false, false, false, false, false, false, false, false, false, false, false, false, false] rfl rfl (any_of HT_.out (by kernel_rfl)) (fun _ _ _ h => h) (Or.inl ⟨by rfl, ?_⟩) ?_ ?_
      rotate_left
      · intro w'
        go_simp
        with_reducible rfl
      rotate_left
      · simp only [Act.put, List.setIfInBounds_toArray, List.set_cons_zero, List.set_cons_succ, i64_w, i32_w]
        rfl
      refine pure_ (i := 9) (N := some 92) (v := ?_) (a' := ?_) #[true, true, true, true, true, true, true, true, true, true, false, false, false, false, false, false, false, false, false, false, false, false, false, false] rfl rfl (any_of HT_.out (by kernel_rfl)) (fun _ _ _ h => h) (Or.inl ⟨by rfl, ?_⟩) ?_ ?_
      rotate_left
      · intro w'
        go_simp
        with_reducible rfl
      rotate_left
      · simp only [Act.put, List.setIfInBounds_toArray, List.set_cons_zero, List.set_cons_succ, i64_w, i32_w]
        rfl
      refine take_ (i := 10) (N := some 93) (v := ?_) (a' := ?_) #[true, true, true, true, true, true, true, true, true, true, true, false, false, false, false, false, false, false, false, false, false, false, false, false] rfl rfl (take_ofW HT_.out HW_.out (by kernel_rfl)) (fun _ _ _ h => h) (Or.inl ⟨by rfl, ?_⟩) hHeld ?_ ?_
      rotate_left
      · intro w' HS_
        have s1 := HS1.out _ HS_
        go_simp
        with_reducible rfl
      rotate_left
      · simp only [Act.put, List.setIfInBounds_toArray, List.set_cons_zero, List.set_cons_succ, i64_w, i32_w]
        rfl
      refine pure_ (i := 11) (N := some 94) (v := ?_) (a' := ?_) #[true, true, true, true, true, true, true, true, true, true, true, true, false, false, false, false, false, false, false, false, false, false, false, false] rfl rfl (any_of HT_.out (by kernel_rfl)) (fun _ _ _ h => h) (Or.inl ⟨by rfl, ?_⟩) ?_ ?_
      rotate_left
      · intro w'
        go_simp
        with_reducible rfl
      rotate_left
      · simp only [Act.put, List.setIfInBounds_toArray, List.set_cons_zero, List.set_cons_succ, i64_w, i32_w]
        rfl
      refine pure_ (i := 12) (N := some 95) (v := ?_) (a' := ?_) #[true, true, true, true, true, true, true, true, true, true, true, true, true, false, false, false, false, false, false, false, false, false, false, false] rfl rfl (any_of HT_.out (by kernel_rfl)) (fun _ _ _ h => h) (Or.inl ⟨by rfl, ?_⟩) ?_ ?_
      rotate_left
      · intro w'
        go_simp
        with_reducible rfl
      rotate_left
      · simp only [Act.put, List.setIfInBounds_toArray, List.set_cons_zero, List.set_cons_succ, i64_w, i32_w]
        rfl
      refine pure_ (i := 13) (N := some 96) (v := ?_) (a' := ?_) #[true, true, true, true, true, true, true, true, true, true, true, true, true, true, false, false, false, false, false, false, false, false, false, false] rfl rfl (any_of HT_.out (by kernel_rfl)) (fun _ _ _ h => h) (Or.inl ⟨by rfl, ?_⟩) ?_ ?_
      rotate_left
      · intro w'
        go_simp
        with_reducible rfl
      rotate_left
      · simp only [Act.put, List.setIfInBounds_toArray, List.set_cons_zero, List.set_cons_succ, i64_w, i32_w]
        rfl
      refine take_ (i := 14) (N := some 97) (v := ?_) (a' := ?_) #[true, true, true, true, true, true, true, true, true, true, true, true, true, true, true, false, false, false, false, false, false, false, false, false] rfl rfl (take_ofW HT_.out HW_.out (by kernel_rfl)) (fun _ _ _ h => h) (Or.inl ⟨by rfl, ?_⟩) hHeld ?_ ?_
      rotate_left
      · intro w' HS_
        have s2 := HS2.out _ HS_
        go_simp
        with_reducible rfl
      rotate_left
      · simp only [Act.put, List.setIfInBounds_toArray, List.set_cons_zero, List.set_cons_succ, i64_w, i32_w]
        rfl
      refine pure_ (i := 15) (N := some 98) (v := ?_) (a' := ?_) #[true, true, true, true, true, true, true, true, true, true, true, true, true, true, true, true, false, false, false, false, false, false, false, false] rfl rfl (any_of HT_.out (by kernel_rfl)) (fun _ _ _ h => h) (Or.inl ⟨by rfl, ?_⟩) ?_ ?_
      rotate_left
      · intro w'
        go_simp
        try simp only [bne_self_eq_false]
        with_reducible rfl
      rotate_left
      · simp only [Act.put, List.setIfInBounds_toArray, List.set_cons_zero, List.set_cons_succ, i64_w, i32_w]
        rfl
      refine pure_ (i := 16) (N := some 99) (v := ?_) (a' := ?_) #[true, true, true, true, true, true, true, true, true, true, true, true, true, true, true, true, true, false, false, false, false, false, false, false] rfl rfl (any_of HT_.out (by kernel_rfl)) (fun _ _ _ h => h) (Or.inl ⟨by rfl, ?_⟩) ?_ ?_
      rotate_left
      · intro w'
        go_simp
        with_reducible rfl
      rotate_left
      · simp only [Act.put, List.setIfInBounds_toArray, List.set_cons_zero, List.set_cons_succ, i64_w, i32_w]
        rfl
      refine pure_ (i := 17) (N := some 100) (v := ?_) (a' := ?_) #[true, true, true, true, true, true, true, true, true, true, true, true, true, true, true, true, true, true, false, false, false, false, false, false] rfl rfl (any_of HT_.out (by kernel_rfl)) (fun _ _ _ h => h) (Or.inl ⟨by rfl, ?_⟩) ?_ ?_
      rotate_left
      · intro w'
        go_simp
        with_reducible rfl
      rotate_left
      · simp only [Act.put, List.setIfInBounds_toArray, List.set_cons_zero, List.set_cons_succ, i64_w, i32_w]
        rfl
      refine pure_ (i := 18) (N := some 101) (v := ?_) (a' := ?_) #[true, true, true, true, true, true, true, true, true, true, true, true, true, true, true, true, true, true, true, false, false, false, false, false] rfl rfl (any_of HT_.out (by kernel_rfl)) (fun _ _ _ h => h) (Or.inl ⟨by rfl, ?_⟩) ?_ ?_
      rotate_left
      · intro w'
        go_simp
        with_reducible rfl
      rotate_left
      · simp only [Act.put, List.setIfInBounds_toArray, List.set_cons_zero, List.set_cons_succ, i64_w, i32_w]
        rfl
      refine pure_ (i := 19) (N := some 102) (v := ?_) (a' := ?_) #[true, true, true, true, true, true, true, true, true, true, true, true, true, true, true, true, true, true, true, true, false, false, false, false] rfl rfl (any_of HT_.out (by kernel_rfl)) (fun _ _ _ h => h) (Or.inl ⟨by rfl, ?_⟩) ?_ ?_
      rotate_left
      · intro w'
        go_simp
        with_reducible rfl
      rotate_left
      · simp only [Act.put, List.setIfInBounds_toArray, List.set_cons_zero, List.set_cons_succ, i64_w, i32_w]
        rfl
      refine one_ (i := 20) (N := some 103) #[true, true, true, true, true, true, true, true, true, true, true, true, true, true, true, true, true, true, true, true, true, false, false, false] rfl rfl (one_of HT_.out (by kernel_rfl)) (by decide) (fun K hK => ?_)
      refine goes_ Try.func34 (by kernel_rfl) rfl #[.slice Av vs.length cv] (by rfl) rfl rfl (by simp only [List.map_toArray, List.map_cons, List.map_nil]; rfl) ?_
      refine (HPL.out _ hHeld).mono ?_
      rintro e f1 ⟨Aq, cq, rfl, hRq, hb⟩
      have HF1 := Lib.hid (hHeld.trans (hb.mono hHeld.size))
      have HVS := Lib.hid (values_any Av Aq cv cq vs f1 (Kd.C_below HCv.out HF1.out) (Kd.R_reads' hRq).2.2 hG (by omega))
      refine ⟨_, rfl, ?_⟩
      refine hK.out _ _ HF1.out (fun hHeld => ?_)
      clear hK K hb hRq
      refine norm_ (a' := ?_) ?_ ?_
      rotate_left
      · show Act.put _ (some 103) _ = _
        simp only [Act.put, List.setIfInBounds_toArray, List.set_cons_zero, List.set_cons_succ, i64_w, i32_w]
        rfl
      refine one_ (i := 21) (N := some 104) #[true, true, true, true, true, true, true, true, true, true, true, true, true, true, true, true, true, true, true, true, true, true, false, false] rfl rfl (one_of HT_.out (by kernel_rfl)) (by decide) (fun K hK => ?_)
      refine goes_ Try.func26 (by kernel_rfl) rfl #[.slice Av vs.length cv, .slice Aq vs.length cq] (by rfl) rfl rfl (by simp only [List.map_toArray, List.map_cons, List.map_nil]; rfl) ?_
      refine HVS.out.mono ?_
      rintro e h1 ⟨rfl, hb⟩
      have HG1 := Lib.hid (HF1.out.trans (hb.mono HF1.out.size))
      refine ⟨_, rfl, ?_⟩
      refine hK.out _ _ HG1.out (fun hHeld => ?_)
      clear hK K hb
      refine norm_ (a' := ?_) ?_ ?_
      rotate_left
      · show Act.put _ (some 104) _ = _
        simp only [Act.put, List.setIfInBounds_toArray, List.set_cons_zero, List.set_cons_succ, i64_w, i32_w]
        rfl
      refine pure_ (i := 22) (N := some 105) (v := ?_) (a' := ?_) #[true, true, true, true, true, true, true, true, true, true, true, true, true, true, true, true, true, true, true, true, true, true, true, false] rfl rfl (any_of HT_.out (by kernel_rfl)) (fun _ _ _ h => h) (Or.inl ⟨by rfl, ?_⟩) ?_ ?_
      rotate_left
      · intro w'
        go_simp
        with_reducible rfl
      rotate_left
      · simp only [Act.put, List.setIfInBounds_toArray, List.set_cons_zero, List.set_cons_succ, i64_w, i32_w]
        rfl
      refine pure_ (i := 23) (N := some 106) (v := ?_) (a' := ?_) #[true, true, true, true, true, true, true, true, true, true, true, true, true, true, true, true, true, true, true, true, true, true, true, true] rfl rfl (any_of HT_.out (by kernel_rfl)) (fun _ _ _ h => h) (Or.inl ⟨by rfl, ?_⟩) ?_ ?_
      rotate_left
      · intro w'
        go_simp
        with_reducible rfl
      rotate_left
      · simp only [Act.put, List.setIfInBounds_toArray, List.set_cons_zero, List.set_cons_succ, i64_w, i32_w]
        rfl
      refine done_ (done_of HT_.out (by kernel_rfl)) ?_
      clear HT_ HW_
      have HP1 := Lib.hid (HB1.out.trans (HG1.out.mono HB1.out.size))
      clear HG1 HD hHeld
      clear HF1 hcut b0 HS1 HS2 HPL HVS HCv
      have HP2 := HP1
      go_upto_region 17 with fail
      go_wp2_with fail
      refine (HLT.out h1 HP2.out).mono ?_
      rintro e a3 ⟨g3, cap3, rfl, hL, hcap, hb⟩
      have HA3 := Lib.hid (HP2.out.trans (hb.mono HP2.out.size))
      have HV := Lib.hid (readM_any (some ⟨g3, 0, none⟩) cap3 l a3 hL.C.1 (by omega) HBy.out (by omega))
      clear hL hcap hb
      go_wp2_with fail
      refine HV.out.mono ?_
      rintro e r1 ⟨hb, he⟩
      have HR1 := Lib.hid (HA3.out.trans (hb.mono HA3.out.size))
      clear hb HV
      rcases hr : rdM l with _ | ⟨m, n⟩
      · rw [hr] at he
        have he : e = .returned (.tuple #[.agg #[.int .i64 0, .string { data := #[] }, .slice none 0 0], .int .i64 0, .int .i64 110]) := he
        subst he
        clear hr
        go_upto_region 18 with fail
        have hB := Blk.new r1 57 #[.int .i64 0, .string { data := #[] }, .slice none 0 0]
        have hb := HR1.out.alloc HR1.out.size (.cells #[.int .i64 0, .string { data := #[] }, .slice none 0 0] 57)
        have hbn := (Below.refl r1.heap.size r1).alloc (Nat.le_refl _) (.cells #[.int .i64 0, .string { data := #[] }, .slice none 0 0] 57)
        generalize hWq : r1.alloc (.cells #[.int .i64 0, .string { data := #[] }, .slice none 0 0] 57) = W3 at hB hb hbn ⊢
        clear hWq
        have HX3 := Lib.hid hB
        have HW3 := Lib.hid hb
        have x0 := hB.cell 0
        have x1 := hB.cell 1
        have x2 := hB.cell 2
        simp at x0 x1 x2
        clear hB hb hbn HR1 HA3
        go_wp2_with fail
        go_ret
        exact ⟨rfl, HW3.out⟩
      · rw [hr] at he
        obtain ⟨u0, he, hRv⟩ := he
        obtain ⟨Av, cv, rfl⟩ := rvec_of hRv
        subst he
        obtain ⟨hG, h6, _, _, hn⟩ := rdM_good l m n hr
        obtain ⟨hfv, hFv, hz, hi, ht⟩ := form_rdM l HBy.out m n hr
        clear hr
        have HVA := Lib.hid (fun (W : World) (h : Below r1.heap.size r1 W) => messageW_any m Av cv W (Kd.C_below (Kd.R_reads' hRv).2.2 h) (Kd.R_reads' hRv).2.1 hG hFv h6 hz hi ht)
        rw [hfv] at HVA
        clear hfv hFv hz hi ht
        go_upto_region 18 with fail
        have hB := Blk.new r1 57 #[.int .i64 m.id, .string m.tag, .slice Av m.pl.length cv]
        have hb := HR1.out.alloc HR1.out.size (.cells #[.int .i64 m.id, .string m.tag, .slice Av m.pl.length cv] 57)
        have hbn := (Below.refl r1.heap.size r1).alloc (Nat.le_refl _) (.cells #[.int .i64 m.id, .string m.tag, .slice Av m.pl.length cv] 57)
        generalize hWq : r1.alloc (.cells #[.int .i64 m.id, .string m.tag, .slice Av m.pl.length cv] 57) = W3 at hB hb hbn ⊢
        clear hWq
        have HX3 := Lib.hid hB
        have HW3 := Lib.hid hb
        have HVB := Lib.hid (HVA.out _ hbn)
        have x0 := hB.cell 0
        have x1 := hB.cell 1
        have x2 := hB.cell 2
        simp at x0 x1 x2
        clear hB hb hbn HVA hRv
        go_wp2_with fail
        refine HVB.out.mono ?_
        rintro e b1 ⟨u, rfl, hR, hb⟩
        obtain ⟨Au, cu, rfl⟩ := Kd.R_slice hR
        rw [show (l.take n).length = n from by rw [List.length_take]; omega] at hR ⊢
        have HRu := Lib.hid hR
        have HB1 := Lib.hid (HW3.out.trans (hb.mono HW3.out.size))
        clear hR hb HVB x0 x1 x2
        go_upto_region 20 with fail
        have s1 := fun k => R_string HRu.out (pw_below_drewN (Below.refl _ b1) k)
        have s2 := fun k => take_string (c := c) HC.out (pw_below_drewN HB1.out k) n hn
        have hcut := cutN A l.length c n hn hc
        have b0 : decide ((n : Int) ≤ (l.length : Int)) = true := by simp; omega
        have b00 : decide (n ≤ l.length) = true := by simp; omega
        generalize strOfNums (l.take n) = s at s1 s2
        clear HRu
        go_quiet (fail)
        go_wp2_with fail
        go_ret
        exact ⟨rfl, pw_below_drewN HB1.out _⟩
  · rw [hr] at he
    have he : e = .returned (.tuple #[.agg #[.int .i64 v.k, .int .i64 v.i, .float .f64 v.r, .complex .f64 v.p.1 v.p.2, .string v.s], .int .i64 n, .int .i64 0]) := he
    subst he
    obtain ⟨hGv, _, hn⟩ := rdV_good l v n hr
    obtain ⟨hfv, hFv⟩ := form_rd l HBy.out v n hr
    clear hr
    go_upto_region 4 with fail
    have hB := Blk.new r1 50 #[.int .i64 v.k, .int .i64 v.i, .float .f64 v.r, .complex .f64 v.p.1 v.p.2, .string v.s]
    have hb := HR1.out.alloc HR1.out.size (.cells #[.int .i64 v.k, .int .i64 v.i, .float .f64 v.r, .complex .f64 v.p.1 v.p.2, .string v.s] 50)
    have hbn := (Below.refl r1.heap.size r1).alloc (Nat.le_refl _) (.cells #[.int .i64 v.k, .int .i64 v.i, .float .f64 v.r, .complex .f64 v.p.1 v.p.2, .string v.s] 50)
    generalize hWq : r1.alloc (.cells #[.int .i64 v.k, .int .i64 v.i, .float .f64 v.r, .complex .f64 v.p.1 v.p.2, .string v.s] 50) = W1 at hB hb hbn ⊢
    clear hWq
    have HX1 := Lib.hid hB
    have HW1 := Lib.hid hb
    have HVA := Lib.hid (value_any v hGv hFv W1)
    rw [hfv] at HVA
    have HPL := Lib.hid (fun W => plain_any v hGv W)
    have HSM := Lib.hid (fun W => sam_self v hGv W)
    have x0 := hB.cell 0
    have x1 := hB.cell 1
    have x2 := hB.cell 2
    have x3 := hB.cell 3
    have x4 := hB.cell 4
    simp at x0 x1 x2 x3 x4
    clear hB hb hbn hGv hfv hFv
    simp only [ag] at HVA HPL HSM
    go_wp2_with fail
    refine HVA.out.mono ?_
    rintro e b1 ⟨u, rfl, hR, hb⟩
    obtain ⟨Au, cu, rfl⟩ := Kd.R_slice hR
    rw [show (l.take n).length = n from by rw [List.length_take]; omega] at hR ⊢
    have HRu := Lib.hid hR
    have HB1 := Lib.hid (HW1.out.trans (hb.mono HW1.out.size))
    have hbx := HX1.out.below hb HX1.out.lt
    clear x0 x1 x2 x3 x4 hR hb HVA
    go_upto_region 6 with fail
    have HXD := Lib.hid (fun (w' : World) (h : Below b1.heap.size b1 w') => hbx.below h hbx.lt)
    have HS1 := Lib.hid (fun (w' : World) (h : Below b1.heap.size b1 w') => R_string HRu.out h)
    have HS2 := Lib.hid (fun (w' : World) (h : Below b1.heap.size b1 w') => take_string (c := c) HC.out (HB1.out.trans (h.mono HB1.out.size)) n hn)
    have hcut := cutN A l.length c n hn hc
    have b0 : decide (l.length < n) = false := by simp; omega
    generalize strOfNums (l.take n) = s at HS1 HS2
    clear hbx HRu HX1 HW1
    refine start_ (n := 24) (S := fun w' => Below b1.heap.size b1 w') (ds := []) #[false, false, false, false, false, false, false, false, false, false, false, false, false, false, false, false, false, false, false, false, false, false, false, false] (by kernel_rfl) rfl rfl (Below.refl _ b1).drew (fun hHeld => ?_)
    refine with_tabW tab7a bits7a (fun HT_ HW_ => ?_)
    have HD := Lib.hid ((Below.refl b1.heap.size b1).drew)
    generalize b1.drew = d1 at hHeld HD ⊢
    refine pure_ (i := 0) (N := some 34) (v := ?_) (a' := ?_) #[true, false, false, false, false, false, false, false, false, false, false, false, false, false, false, false, false, false, false, false, false, false, false, false] rfl rfl (any_of HT_.out (by kernel_rfl)) (fun _ _ _ h => h) (Or.inl ⟨by rfl, ?_⟩) ?_ ?_
    rotate_left
    · intro w'
      go_simp
      with_reducible rfl
    rotate_left
    · simp only [Act.put, List.setIfInBounds_toArray, List.set_cons_zero, List.set_cons_succ, i64_w, i32_w]
      rfl
    refine pure_ (i := 1) (N := some 35) (v := ?_) (a' := ?_) #[true, true, false, false, false, false, false, false, false, false, false, false, false, false, false, false, false, false, false, false, false, false, false, false] rfl rfl (any_of HT_.out (by kernel_rfl)) (fun _ _ _ h => h) (Or.inl ⟨by rfl, ?_⟩) ?_ ?_
    rotate_left
    · intro w'
      go_simp
      with_reducible rfl
    rotate_left
    · simp only [Act.put, List.setIfInBounds_toArray, List.set_cons_zero, List.set_cons_succ, i64_w, i32_w]
      rfl
    refine pure_ (i := 2) (N := some 36) (v := ?_) (a' := ?_) #[true, true, true, false, false, false, false, false, false, false, false, false, false, false, false, false, false, false, false, false, false, false, false, false] rfl rfl (any_of HT_.out (by kernel_rfl)) (fun _ _ _ h => h) (Or.inl ⟨by rfl, ?_⟩) ?_ ?_
    rotate_left
    · intro w'
      go_simp
      with_reducible rfl
    rotate_left
    · simp only [Act.put, List.setIfInBounds_toArray, List.set_cons_zero, List.set_cons_succ, i64_w, i32_w]
      rfl
    refine pure_ (i := 3) (N := some 37) (v := ?_) (a' := ?_) #[true, true, true, true, false, false, false, false, false, false, false, false, false, false, false, false, false, false, false, false, false, false, false, false] rfl rfl (any_of HT_.out (by kernel_rfl)) (fun _ _ _ h => h) (Or.inl ⟨by rfl, ?_⟩) ?_ ?_
    rotate_left
    · intro w'
      go_simp
      with_reducible rfl
    rotate_left
    · simp only [Act.put, List.setIfInBounds_toArray, List.set_cons_zero, List.set_cons_succ, i64_w, i32_w]
      rfl
    refine pure_ (i := 4) (N := some 38) (v := ?_) (a' := ?_) #[true, true, true, true, true, false, false, false, false, false, false, false, false, false, false, false, false, false, false, false, false, false, false, false] rfl rfl (any_of HT_.out (by kernel_rfl)) (fun _ _ _ h => h) (Or.inl ⟨by rfl, ?_⟩) ?_ ?_
    rotate_left
    · intro w'
      go_simp
      with_reducible rfl
    rotate_left
    · simp only [Act.put, List.setIfInBounds_toArray, List.set_cons_zero, List.set_cons_succ, i64_w, i32_w]
      rfl
    refine pure_ (i := 5) (N := some 39) (v := ?_) (a' := ?_) #[true, true, true, true, true, true, false, false, false, false, false, false, false, false, false, false, false, false, false, false, false, false, false, false] rfl rfl (any_of HT_.out (by kernel_rfl)) (fun _ _ _ h => h) (Or.inl ⟨by rfl, ?_⟩) ?_ ?_
    rotate_left
    · intro w'
      go_simp
      with_reducible rfl
    rotate_left
    · simp only [Act.put, List.setIfInBounds_toArray, List.set_cons_zero, List.set_cons_succ, i64_w, i32_w]
      rfl
    refine pure_ (i := 6) (N := some 40) (v := ?_) (a' := ?_) #[true, true, true, true, true, true, true, false, false, false, false, false, false, false, false, false, false, false, false, false, false, false, false, false] rfl rfl (any_of HT_.out (by kernel_rfl)) (fun _ _ _ h => h) (Or.inl ⟨by rfl, ?_⟩) ?_ ?_
    rotate_left
    · intro w'
      go_simp
      try simp only [b0]
      with_reducible rfl
    rotate_left
    · simp only [Act.put, List.setIfInBounds_toArray, List.set_cons_zero, List.set_cons_succ, i64_w, i32_w]
      rfl
    refine pure_ (i := 7) (N := some 41) (v := ?_) (a' := ?_) #[true, true, true, true, true, true, true, true, false, false, false, false, false, false, false, false, false, false, false, false, false, false, false, false] rfl rfl (any_of HT_.out (by kernel_rfl)) (fun _ _ _ h => h) (Or.inl ⟨by rfl, ?_⟩) ?_ ?_
    rotate_left
    · intro w'
      go_simp
      with_reducible rfl
    rotate_left
    · simp only [Act.put, List.setIfInBounds_toArray, List.set_cons_zero, List.set_cons_succ, i64_w, i32_w]
      rfl
    refine pure_ (i := 8) (N := some 42) (v := ?_) (a' := ?_) #[true, true, true, true, true, true, true, true, true, false, false, false, false, false, false, false, false, false, false, false, false, false, false, false] rfl rfl (any_of HT_.out (by kernel_rfl)) (fun _ _ _ h => h) (Or.inl ⟨by rfl, ?_⟩) ?_ ?_
    rotate_left
    · intro w'
      go_simp
      with_reducible rfl
    rotate_left
    · simp only [Act.put, List.setIfInBounds_toArray, List.set_cons_zero, List.set_cons_succ, i64_w, i32_w]
      rfl
    refine pure_ (i := 9) (N := some 43) (v := ?_) (a' := ?_) #[true, true, true, true, true, true, true, true, true, true, false, false, false, false, false, false, false, false, false, false, false, false, false, false] rfl rfl (any_of HT_.out (by kernel_rfl)) (fun _ _ _ h => h) (Or.inl ⟨by rfl, ?_⟩) ?_ ?_
    rotate_left
    · intro w'
      go_simp
      with_reducible rfl
    rotate_left
    · simp only [Act.put, List.setIfInBounds_toArray, List.set_cons_zero, List.set_cons_succ, i64_w, i32_w]
      rfl
    refine take_ (i := 10) (N := some 44) (v := ?_) (a' := ?_) #[true, true, true, true, true, true, true, true, true, true, true, false, false, false, false, false, false, false, false, false, false, false, false, false] rfl rfl (take_ofW HT_.out HW_.out (by kernel_rfl)) (fun _ _ _ h => h) (Or.inl ⟨by rfl, ?_⟩) hHeld ?_ ?_
    rotate_left
    · intro w' HS_
      have s1 := HS1.out _ HS_
      go_simp
      with_reducible rfl
    rotate_left
    · simp only [Act.put, List.setIfInBounds_toArray, List.set_cons_zero, List.set_cons_succ, i64_w, i32_w]
      rfl
    refine pure_ (i := 11) (N := some 45) (v := ?_) (a' := ?_) #[true, true, true, true, true, true, true, true, true, true, true, true, false, false, false, false, false, false, false, false, false, false, false, false] rfl rfl (any_of HT_.out (by kernel_rfl)) (fun _ _ _ h => h) (Or.inl ⟨by rfl, ?_⟩) ?_ ?_
    rotate_left
    · intro w'
      go_simp
      with_reducible rfl
    rotate_left
    · simp only [Act.put, List.setIfInBounds_toArray, List.set_cons_zero, List.set_cons_succ, i64_w, i32_w]
      rfl
    refine pure_ (i := 12) (N := some 46) (v := ?_) (a' := ?_) #[true, true, true, true, true, true, true, true, true, true, true, true, true, false, false, false, false, false, false, false, false, false, false, false] rfl rfl (any_of HT_.out (by kernel_rfl)) (fun _ _ _ h => h) (Or.inl ⟨by rfl, ?_⟩) ?_ ?_
    rotate_left
    · intro w'
      go_simp
      with_reducible rfl
    rotate_left
    · simp only [Act.put, List.setIfInBounds_toArray, List.set_cons_zero, List.set_cons_succ, i64_w, i32_w]
      rfl
    refine pure_ (i := 13) (N := some 47) (v := ?_) (a' := ?_) #[true, true, true, true, true, true, true, true, true, true, true, true, true, true, false, false, false, false, false, false, false, false, false, false] rfl rfl (any_of HT_.out (by kernel_rfl)) (fun _ _ _ h => h) (Or.inl ⟨by rfl, ?_⟩) ?_ ?_
    rotate_left
    · intro w'
      go_simp
      with_reducible rfl
    rotate_left
    · simp only [Act.put, List.setIfInBounds_toArray, List.set_cons_zero, List.set_cons_succ, i64_w, i32_w]
      rfl
    refine take_ (i := 14) (N := some 48) (v := ?_) (a' := ?_) #[true, true, true, true, true, true, true, true, true, true, true, true, true, true, true, false, false, false, false, false, false, false, false, false] rfl rfl (take_ofW HT_.out HW_.out (by kernel_rfl)) (fun _ _ _ h => h) (Or.inl ⟨by rfl, ?_⟩) hHeld ?_ ?_
    rotate_left
    · intro w' HS_
      have s2 := HS2.out _ HS_
      go_simp
      with_reducible rfl
    rotate_left
    · simp only [Act.put, List.setIfInBounds_toArray, List.set_cons_zero, List.set_cons_succ, i64_w, i32_w]
      rfl
    refine pure_ (i := 15) (N := some 49) (v := ?_) (a' := ?_) #[true, true, true, true, true, true, true, true, true, true, true, true, true, true, true, true, false, false, false, false, false, false, false, false] rfl rfl (any_of HT_.out (by kernel_rfl)) (fun _ _ _ h => h) (Or.inl ⟨by rfl, ?_⟩) ?_ ?_
    rotate_left
    · intro w'
      go_simp
      try simp only [bne_self_eq_false]
      with_reducible rfl
    rotate_left
    · simp only [Act.put, List.setIfInBounds_toArray, List.set_cons_zero, List.set_cons_succ, i64_w, i32_w]
      rfl
    refine pure_ (i := 16) (N := some 50) (v := ?_) (a' := ?_) #[true, true, true, true, true, true, true, true, true, true, true, true, true, true, true, true, true, false, false, false, false, false, false, false] rfl rfl (any_of HT_.out (by kernel_rfl)) (fun _ _ _ h => h) (Or.inl ⟨by rfl, ?_⟩) ?_ ?_
    rotate_left
    · intro w'
      go_simp
      with_reducible rfl
    rotate_left
    · simp only [Act.put, List.setIfInBounds_toArray, List.set_cons_zero, List.set_cons_succ, i64_w, i32_w]
      rfl
    refine pure_ (i := 17) (N := some 51) (v := ?_) (a' := ?_) #[true, true, true, true, true, true, true, true, true, true, true, true, true, true, true, true, true, true, false, false, false, false, false, false] rfl rfl (any_of HT_.out (by kernel_rfl)) (fun _ _ _ h => h) (Or.inl ⟨by rfl, ?_⟩) ?_ ?_
    rotate_left
    · intro w'
      go_simp
      with_reducible rfl
    rotate_left
    · simp only [Act.put, List.setIfInBounds_toArray, List.set_cons_zero, List.set_cons_succ, i64_w, i32_w]
      rfl
    refine take_ (i := 18) (N := some 52) (v := ?_) (a' := ?_) #[true, true, true, true, true, true, true, true, true, true, true, true, true, true, true, true, true, true, true, false, false, false, false, false] rfl rfl (take_ofW HT_.out HW_.out (by kernel_rfl)) (fun _ _ _ h => h) (Or.inl ⟨by rfl, ?_⟩) hHeld ?_ ?_
    rotate_left
    · intro w' HS_
      obtain hx := HXD.out _ HS_
      have x0 := hx.cell 0
      have x1 := hx.cell 1
      have x2 := hx.cell 2
      have x3 := hx.cell 3
      have x4 := hx.cell 4
      simp at x0 x1 x2 x3 x4
      go_simp
      with_reducible rfl
    rotate_left
    · simp only [Act.put, List.setIfInBounds_toArray, List.set_cons_zero, List.set_cons_succ, i64_w, i32_w]
      rfl
    refine take_ (i := 19) (N := some 53) (v := ?_) (a' := ?_) #[true, true, true, true, true, true, true, true, true, true, true, true, true, true, true, true, true, true, true, true, false, false, false, false] rfl rfl (take_ofW HT_.out HW_.out (by kernel_rfl)) (fun _ _ _ h => h) (Or.inl ⟨by rfl, ?_⟩) hHeld ?_ ?_
    rotate_left
    · intro w' HS_
      obtain hx := HXD.out _ HS_
      have x0 := hx.cell 0
      have x1 := hx.cell 1
      have x2 := hx.cell 2
      have x3 := hx.cell 3
      have x4 := hx.cell 4
      simp at x0 x1 x2 x3 x4
      go_simp
      with_reducible rfl
    rotate_left
    · simp only [Act.put, List.setIfInBounds_toArray, List.set_cons_zero, List.set_cons_succ, i64_w, i32_w]
      rfl
    refine one_ (i := 20) (N := some 54) #[true, true, true, true, true, true, true, true, true, true, true, true, true, true, true, true, true, true, true, true, true, false, false, false] rfl rfl (one_of HT_.out (by kernel_rfl)) (by decide) (fun K hK => ?_)
    refine goes_ Try.func32 (by kernel_rfl) rfl #[.agg #[.int .i64 v.k, .int .i64 v.i, .float .f64 v.r, .complex .f64 v.p.1 v.p.2, .string v.s]] (by rfl) rfl rfl (by simp only [List.map_toArray, List.map_cons, List.map_nil]; rfl) ?_
    refine (HPL.out _).mono ?_
    rintro e f1 ⟨rfl, hb⟩
    have HF1 := Lib.hid (HD.out.trans (hb.mono HD.out.size))
    refine ⟨_, rfl, ?_⟩
    refine hK.out _ _ HF1.out (fun hHeld => ?_)
    clear hK K hb
    refine norm_ (a' := ?_) ?_ ?_
    rotate_left
    · show Act.put _ (some 54) _ = _
      simp only [Act.put, List.setIfInBounds_toArray, List.set_cons_zero, List.set_cons_succ, i64_w, i32_w]
      rfl
    refine one_ (i := 21) (N := some 55) #[true, true, true, true, true, true, true, true, true, true, true, true, true, true, true, true, true, true, true, true, true, true, false, false] rfl rfl (one_of HT_.out (by kernel_rfl)) (by decide) (fun K hK => ?_)
    refine goes_ Try.func25 (by kernel_rfl) rfl #[.agg #[.int .i64 v.k, .int .i64 v.i, .float .f64 v.r, .complex .f64 v.p.1 v.p.2, .string v.s], .agg #[.int .i64 v.k, .int .i64 v.i, .float .f64 v.r, .complex .f64 v.p.1 v.p.2, .string v.s]] (by rfl) rfl rfl (by simp only [List.map_toArray, List.map_cons, List.map_nil]; rfl) ?_
    refine (HSM.out _).mono ?_
    rintro e h1 ⟨rfl, hb⟩
    have HG1 := Lib.hid (HF1.out.trans (hb.mono HF1.out.size))
    refine ⟨_, rfl, ?_⟩
    refine hK.out _ _ HG1.out (fun hHeld => ?_)
    clear hK K hb
    refine norm_ (a' := ?_) ?_ ?_
    rotate_left
    · show Act.put _ (some 55) _ = _
      simp only [Act.put, List.setIfInBounds_toArray, List.set_cons_zero, List.set_cons_succ, i64_w, i32_w]
      rfl
    refine pure_ (i := 22) (N := some 56) (v := ?_) (a' := ?_) #[true, true, true, true, true, true, true, true, true, true, true, true, true, true, true, true, true, true, true, true, true, true, true, false] rfl rfl (any_of HT_.out (by kernel_rfl)) (fun _ _ _ h => h) (Or.inl ⟨by rfl, ?_⟩) ?_ ?_
    rotate_left
    · intro w'
      go_simp
      with_reducible rfl
    rotate_left
    · simp only [Act.put, List.setIfInBounds_toArray, List.set_cons_zero, List.set_cons_succ, i64_w, i32_w]
      rfl
    refine pure_ (i := 23) (N := some 57) (v := ?_) (a' := ?_) #[true, true, true, true, true, true, true, true, true, true, true, true, true, true, true, true, true, true, true, true, true, true, true, true] rfl rfl (any_of HT_.out (by kernel_rfl)) (fun _ _ _ h => h) (Or.inl ⟨by rfl, ?_⟩) ?_ ?_
    rotate_left
    · intro w'
      go_simp
      with_reducible rfl
    rotate_left
    · simp only [Act.put, List.setIfInBounds_toArray, List.set_cons_zero, List.set_cons_succ, i64_w, i32_w]
      rfl
    refine done_ (done_of HT_.out (by kernel_rfl)) ?_
    clear HT_ HW_
    have HP1 := Lib.hid (HB1.out.trans (HG1.out.mono HB1.out.size))
    clear HG1 HD hHeld
    clear HF1 hcut b0 HXD HS1 HS2 HPL HSM
    go_upto_region 10 with fail
    go_wp2_with fail
    refine (HLT.out h1 HP1.out).mono ?_
    rintro e a2 ⟨g2, cap2, rfl, hL, hcap, hb⟩
    have HA2 := Lib.hid (HP1.out.trans (hb.mono HP1.out.size))
    have HV := Lib.hid (readP_any (some ⟨g2, 0, none⟩) cap2 l a2 hL.C.1 (by omega) HBy.out (by omega))
    clear hL hcap hb
    go_wp2_with fail
    refine HV.out.mono ?_
    rintro e r1 ⟨hb, he⟩
    have HR1 := Lib.hid (HA2.out.trans (hb.mono HA2.out.size))
    clear hb HV
    rcases hr : rdP l with _ | ⟨vs, n⟩
    · rw [hr] at he
      have he : e = .returned (.tuple #[.slice none 0 0, .int .i64 0, .int .i64 110]) := he
      subst he
      clear hr
      go_upto_region 17 with fail
      have HP2 := HR1
      clear HR1 HA2
      go_wp2_with fail
      refine (HLT.out r1 HP2.out).mono ?_
      rintro e a3 ⟨g3, cap3, rfl, hL, hcap, hb⟩
      have HA3 := Lib.hid (HP2.out.trans (hb.mono HP2.out.size))
      have HV := Lib.hid (readM_any (some ⟨g3, 0, none⟩) cap3 l a3 hL.C.1 (by omega) HBy.out (by omega))
      clear hL hcap hb
      go_wp2_with fail
      refine HV.out.mono ?_
      rintro e r1 ⟨hb, he⟩
      have HR1 := Lib.hid (HA3.out.trans (hb.mono HA3.out.size))
      clear hb HV
      rcases hr : rdM l with _ | ⟨m, n⟩
      · rw [hr] at he
        have he : e = .returned (.tuple #[.agg #[.int .i64 0, .string { data := #[] }, .slice none 0 0], .int .i64 0, .int .i64 110]) := he
        subst he
        clear hr
        go_upto_region 18 with fail
        have hB := Blk.new r1 57 #[.int .i64 0, .string { data := #[] }, .slice none 0 0]
        have hb := HR1.out.alloc HR1.out.size (.cells #[.int .i64 0, .string { data := #[] }, .slice none 0 0] 57)
        have hbn := (Below.refl r1.heap.size r1).alloc (Nat.le_refl _) (.cells #[.int .i64 0, .string { data := #[] }, .slice none 0 0] 57)
        generalize hWq : r1.alloc (.cells #[.int .i64 0, .string { data := #[] }, .slice none 0 0] 57) = W3 at hB hb hbn ⊢
        clear hWq
        have HX3 := Lib.hid hB
        have HW3 := Lib.hid hb
        have x0 := hB.cell 0
        have x1 := hB.cell 1
        have x2 := hB.cell 2
        simp at x0 x1 x2
        clear hB hb hbn HR1 HA3
        go_wp2_with fail
        go_ret
        exact ⟨rfl, HW3.out⟩
      · rw [hr] at he
        obtain ⟨u0, he, hRv⟩ := he
        obtain ⟨Av, cv, rfl⟩ := rvec_of hRv
        subst he
        obtain ⟨hG, h6, _, _, hn⟩ := rdM_good l m n hr
        obtain ⟨hfv, hFv, hz, hi, ht⟩ := form_rdM l HBy.out m n hr
        clear hr
        have HVA := Lib.hid (fun (W : World) (h : Below r1.heap.size r1 W) => messageW_any m Av cv W (Kd.C_below (Kd.R_reads' hRv).2.2 h) (Kd.R_reads' hRv).2.1 hG hFv h6 hz hi ht)
        rw [hfv] at HVA
        clear hfv hFv hz hi ht
        go_upto_region 18 with fail
        have hB := Blk.new r1 57 #[.int .i64 m.id, .string m.tag, .slice Av m.pl.length cv]
        have hb := HR1.out.alloc HR1.out.size (.cells #[.int .i64 m.id, .string m.tag, .slice Av m.pl.length cv] 57)
        have hbn := (Below.refl r1.heap.size r1).alloc (Nat.le_refl _) (.cells #[.int .i64 m.id, .string m.tag, .slice Av m.pl.length cv] 57)
        generalize hWq : r1.alloc (.cells #[.int .i64 m.id, .string m.tag, .slice Av m.pl.length cv] 57) = W3 at hB hb hbn ⊢
        clear hWq
        have HX3 := Lib.hid hB
        have HW3 := Lib.hid hb
        have HVB := Lib.hid (HVA.out _ hbn)
        have x0 := hB.cell 0
        have x1 := hB.cell 1
        have x2 := hB.cell 2
        simp at x0 x1 x2
        clear hB hb hbn HVA hRv
        go_wp2_with fail
        refine HVB.out.mono ?_
        rintro e b1 ⟨u, rfl, hR, hb⟩
        obtain ⟨Au, cu, rfl⟩ := Kd.R_slice hR
        rw [show (l.take n).length = n from by rw [List.length_take]; omega] at hR ⊢
        have HRu := Lib.hid hR
        have HB1 := Lib.hid (HW3.out.trans (hb.mono HW3.out.size))
        clear hR hb HVB x0 x1 x2
        go_upto_region 20 with fail
        have s1 := fun k => R_string HRu.out (pw_below_drewN (Below.refl _ b1) k)
        have s2 := fun k => take_string (c := c) HC.out (pw_below_drewN HB1.out k) n hn
        have hcut := cutN A l.length c n hn hc
        have b0 : decide ((n : Int) ≤ (l.length : Int)) = true := by simp; omega
        have b00 : decide (n ≤ l.length) = true := by simp; omega
        generalize strOfNums (l.take n) = s at s1 s2
        clear HRu
        go_quiet (fail)
        go_wp2_with fail
        go_ret
        exact ⟨rfl, pw_below_drewN HB1.out _⟩
    · rw [hr] at he
      obtain ⟨u0, he, hRv⟩ := he
      obtain ⟨Av, cv, rfl⟩ := rvec_of hRv
      subst he
      obtain ⟨hG, h6, _, hn⟩ := rdP_good l vs n hr
      obtain ⟨hfv, hFv, hz⟩ := form_rdP l HBy.out vs n hr
      clear hr
      have HVA := Lib.hid (payload_any Av cv vs r1 (Kd.R_reads' hRv).2.2 (Kd.R_reads' hRv).2.1 hG hFv h6 hz)
      rw [hfv] at HVA
      clear hfv hFv hz
      go_wp2_with fail
      refine HVA.out.mono ?_
      rintro e b1 ⟨u, rfl, hR, hb⟩
      obtain ⟨Au, cu, rfl⟩ := Kd.R_slice hR
      rw [show (l.take n).length = n from by rw [List.length_take]; omega] at hR ⊢
      have HRu := Lib.hid hR
      have HB1 := Lib.hid (HR1.out.trans (hb.mono HR1.out.size))
      have HCv := Lib.hid (Kd.R_reads' (Kd.R_below hRv hb)).2.2
      have HPL := Lib.hid (fun (W : World) (h : Below b1.heap.size b1 W) => plains_any Av cv vs W (Kd.C_below HCv.out h) hG (by omega))
      clear hR hb HVA hRv
      go_upto_region 13 with fail
      have HS1 := Lib.hid (fun (w' : World) (h : Below b1.heap.size b1 w') => R_string HRu.out h)
      have HS2 := Lib.hid (fun (w' : World) (h : Below b1.heap.size b1 w') => take_string (c := c) HC.out (HB1.out.trans (h.mono HB1.out.size)) n hn)
      have hcut := cutN A l.length c n hn hc
      have b0 : decide (l.length < n) = false := by simp; omega
      generalize strOfNums (l.take n) = s at HS1 HS2
      clear HRu
      refine start_ (n := 24) (S := fun w' => Below b1.heap.size b1 w') (ds := []) #[false, false, false, false, false, false, false, false, false, false, false, false, false, false, false, false, false, false, false, false, false, false, false, false] (by kernel_rfl) rfl rfl (Below.refl _ b1).drew (fun hHeld => ?_)
      refine with_tabW tab7b bits7a (fun HT_ HW_ => ?_)
      have HD := Lib.hid ((Below.refl b1.heap.size b1).drew)
      generalize b1.drew = d1 at hHeld HD ⊢
      refine pure_ (i := 0) (N := some 83) (v := ?_) (a' := ?_) #[true, false, false, false, false, false, false, false, false, false, false, false, false, false, false, false, false, false, false, false, false, false, false, false] rfl rfl (any_of HT_.out (by kernel_rfl)) (fun _ _ _ h => h) (Or.inl ⟨by rfl, ?_⟩) ?_ ?_
      rotate_left
      · intro w'
        go_simp
        with_reducible rfl
      rotate_left
      · simp only [Act.put, List.setIfInBounds_toArray, List.set_cons_zero, List.set_cons_succ, i64_w, i32_w]
        rfl
      refine pure_ (i := 1) (N := some 84) (v := ?_) (a' := ?_) #[true, true, false, false, false, false, false, false, false, false, false, false, false, false, false, false, false, false, false, false, false, false, false, false] rfl rfl (any_of HT_.out (by kernel_rfl)) (fun _ _ _ h => h) (Or.inl ⟨by rfl, ?_⟩) ?_ ?_
      rotate_left
      · intro w'
        go_simp
        with_reducible rfl
      rotate_left
      · simp only [Act.put, List.setIfInBounds_toArray, List.set_cons_zero, List.set_cons_succ, i64_w, i32_w]
        rfl
      refine pure_ (i := 2) (N := some 85) (v := ?_) (a' := ?_) #[true, true, true, false, false, false, false, false, false, false, false, false, false, false, false, false, false, false, false, false, false, false, false, false] rfl rfl (any_of HT_.out (by kernel_rfl)) (fun _ _ _ h => h) (Or.inl ⟨by rfl, ?_⟩) ?_ ?_
      rotate_left
      · intro w'
        go_simp
        with_reducible rfl
      rotate_left
      · simp only [Act.put, List.setIfInBounds_toArray, List.set_cons_zero, List.set_cons_succ, i64_w, i32_w]
        rfl
      refine pure_ (i := 3) (N := some 86) (v := ?_) (a' := ?_) #[true, true, true, true, false, false, false, false, false, false, false, false, false, false, false, false, false, false, false, false, false, false, false, false] rfl rfl (any_of HT_.out (by kernel_rfl)) (fun _ _ _ h => h) (Or.inl ⟨by rfl, ?_⟩) ?_ ?_
      rotate_left
      · intro w'
        go_simp
        with_reducible rfl
      rotate_left
      · simp only [Act.put, List.setIfInBounds_toArray, List.set_cons_zero, List.set_cons_succ, i64_w, i32_w]
        rfl
      refine pure_ (i := 4) (N := some 87) (v := ?_) (a' := ?_) #[true, true, true, true, true, false, false, false, false, false, false, false, false, false, false, false, false, false, false, false, false, false, false, false] rfl rfl (any_of HT_.out (by kernel_rfl)) (fun _ _ _ h => h) (Or.inl ⟨by rfl, ?_⟩) ?_ ?_
      rotate_left
      · intro w'
        go_simp
        with_reducible rfl
      rotate_left
      · simp only [Act.put, List.setIfInBounds_toArray, List.set_cons_zero, List.set_cons_succ, i64_w, i32_w]
        rfl
      refine pure_ (i := 5) (N := some 88) (v := ?_) (a' := ?_) #[true, true, true, true, true, true, false, false, false, false, false, false, false, false, false, false, false, false, false, false, false, false, false, false] rfl rfl (any_of HT_.out (by kernel_rfl)) (fun _ _ _ h => h) (Or.inl ⟨by rfl, ?_⟩) ?_ ?_
      rotate_left
      · intro w'
        go_simp
        with_reducible rfl
      rotate_left
      · simp only [Act.put, List.setIfInBounds_toArray, List.set_cons_zero, List.set_cons_succ, i64_w, i32_w]
        rfl
      refine pure_ (i := 6) (N := some 89) (v := ?_) (a' := ?_) #[true, true, true, true, true, true, true, false, false, false, false, false, false, false, false, false, false, false, false, false, false, false, false, false] rfl rfl (any_of HT_.out (by kernel_rfl)) (fun _ _ _ h => h) (Or.inl ⟨by rfl, ?_⟩) ?_ ?_
      rotate_left
      · intro w'
        go_simp
        try simp only [b0]
        with_reducible rfl
      rotate_left
      · simp only [Act.put, List.setIfInBounds_toArray, List.set_cons_zero, List.set_cons_succ, i64_w, i32_w]
        rfl
      refine pure_ (i := 7) (N := some 90) (v := ?_) (a' := ?_) #[true, true, true, true, true, true, true, true, false, false, false, false, false, false, false, false, false, false, false, false, false, false, false, false] rfl rfl (any_of HT_.out (by kernel_rfl)) (fun _ _ _ h => h) (Or.inl ⟨by rfl, ?_⟩) ?_ ?_
      rotate_left
      · intro w'
        go_simp
        with_reducible rfl
      rotate_left
      · simp only [Act.put, List.setIfInBounds_toArray, List.set_cons_zero, List.set_cons_succ, i64_w, i32_w]
        rfl
      refine pure_ (i := 8) (N := some 91) (v := ?_) (a' := ?_) #[true, true, true, true, true, true, true, true, true, false, false, false, false, false, false, false, false, false, false, false, false, false, false, false] rfl rfl (any_of HT_.out (by kernel_rfl)) (fun _ _ _ h => h) (Or.inl ⟨by rfl, ?_⟩) ?_ ?_
      rotate_left
      · intro w'
        go_simp
        with_reducible rfl
      rotate_left
      · simp only [Act.put, List.setIfInBounds_toArray, List.set_cons_zero, List.set_cons_succ, i64_w, i32_w]
        rfl
      refine pure_ (i := 9) (N := some 92) (v := ?_) (a' := ?_) #[true, true, true, true, true, true, true, true, true, true, false, false, false, false, false, false, false, false, false, false, false, false, false, false] rfl rfl (any_of HT_.out (by kernel_rfl)) (fun _ _ _ h => h) (Or.inl ⟨by rfl, ?_⟩) ?_ ?_
      rotate_left
      · intro w'
        go_simp
        with_reducible rfl
      rotate_left
      · simp only [Act.put, List.setIfInBounds_toArray, List.set_cons_zero, List.set_cons_succ, i64_w, i32_w]
        rfl
      refine take_ (i := 10) (N := some 93) (v := ?_) (a' := ?_) #[true, true, true, true, true, true, true, true, true, true, true, false, false, false, false, false, false, false, false, false, false, false, false, false] rfl rfl (take_ofW HT_.out HW_.out (by kernel_rfl)) (fun _ _ _ h => h) (Or.inl ⟨by rfl, ?_⟩) hHeld ?_ ?_
      rotate_left
      · intro w' HS_
        have s1 := HS1.out _ HS_
        go_simp
        with_reducible rfl
      rotate_left
      · simp only [Act.put, List.setIfInBounds_toArray, List.set_cons_zero, List.set_cons_succ, i64_w, i32_w]
        rfl
      refine pure_ (i := 11) (N := some 94) (v := ?_) (a' := ?_) #[true, true, true, true, true, true, true, true, true, true, true, true, false, false, false, false, false, false, false, false, false, false, false, false] rfl rfl (any_of HT_.out (by kernel_rfl)) (fun _ _ _ h => h) (Or.inl ⟨by rfl, ?_⟩) ?_ ?_
      rotate_left
      · intro w'
        go_simp
        with_reducible rfl
      rotate_left
      · simp only [Act.put, List.setIfInBounds_toArray, List.set_cons_zero, List.set_cons_succ, i64_w, i32_w]
        rfl
      refine pure_ (i := 12) (N := some 95) (v := ?_) (a' := ?_) #[true, true, true, true, true, true, true, true, true, true, true, true, true, false, false, false, false, false, false, false, false, false, false, false] rfl rfl (any_of HT_.out (by kernel_rfl)) (fun _ _ _ h => h) (Or.inl ⟨by rfl, ?_⟩) ?_ ?_
      rotate_left
      · intro w'
        go_simp
        with_reducible rfl
      rotate_left
      · simp only [Act.put, List.setIfInBounds_toArray, List.set_cons_zero, List.set_cons_succ, i64_w, i32_w]
        rfl
      refine pure_ (i := 13) (N := some 96) (v := ?_) (a' := ?_) #[true, true, true, true, true, true, true, true, true, true, true, true, true, true, false, false, false, false, false, false, false, false, false, false] rfl rfl (any_of HT_.out (by kernel_rfl)) (fun _ _ _ h => h) (Or.inl ⟨by rfl, ?_⟩) ?_ ?_
      rotate_left
      · intro w'
        go_simp
        with_reducible rfl
      rotate_left
      · simp only [Act.put, List.setIfInBounds_toArray, List.set_cons_zero, List.set_cons_succ, i64_w, i32_w]
        rfl
      refine take_ (i := 14) (N := some 97) (v := ?_) (a' := ?_) #[true, true, true, true, true, true, true, true, true, true, true, true, true, true, true, false, false, false, false, false, false, false, false, false] rfl rfl (take_ofW HT_.out HW_.out (by kernel_rfl)) (fun _ _ _ h => h) (Or.inl ⟨by rfl, ?_⟩) hHeld ?_ ?_
      rotate_left
      · intro w' HS_
        have s2 := HS2.out _ HS_
        go_simp
        with_reducible rfl
      rotate_left
      · simp only [Act.put, List.setIfInBounds_toArray, List.set_cons_zero, List.set_cons_succ, i64_w, i32_w]
        rfl
      refine pure_ (i := 15) (N := some 98) (v := ?_) (a' := ?_) #[true, true, true, true, true, true, true, true, true, true, true, true, true, true, true, true, false, false, false, false, false, false, false, false] rfl rfl (any_of HT_.out (by kernel_rfl)) (fun _ _ _ h => h) (Or.inl ⟨by rfl, ?_⟩) ?_ ?_
      rotate_left
      · intro w'
        go_simp
        try simp only [bne_self_eq_false]
        with_reducible rfl
      rotate_left
      · simp only [Act.put, List.setIfInBounds_toArray, List.set_cons_zero, List.set_cons_succ, i64_w, i32_w]
        rfl
      refine pure_ (i := 16) (N := some 99) (v := ?_) (a' := ?_) #[true, true, true, true, true, true, true, true, true, true, true, true, true, true, true, true, true, false, false, false, false, false, false, false] rfl rfl (any_of HT_.out (by kernel_rfl)) (fun _ _ _ h => h) (Or.inl ⟨by rfl, ?_⟩) ?_ ?_
      rotate_left
      · intro w'
        go_simp
        with_reducible rfl
      rotate_left
      · simp only [Act.put, List.setIfInBounds_toArray, List.set_cons_zero, List.set_cons_succ, i64_w, i32_w]
        rfl
      refine pure_ (i := 17) (N := some 100) (v := ?_) (a' := ?_) #[true, true, true, true, true, true, true, true, true, true, true, true, true, true, true, true, true, true, false, false, false, false, false, false] rfl rfl (any_of HT_.out (by kernel_rfl)) (fun _ _ _ h => h) (Or.inl ⟨by rfl, ?_⟩) ?_ ?_
      rotate_left
      · intro w'
        go_simp
        with_reducible rfl
      rotate_left
      · simp only [Act.put, List.setIfInBounds_toArray, List.set_cons_zero, List.set_cons_succ, i64_w, i32_w]
        rfl
      refine pure_ (i := 18) (N := some 101) (v := ?_) (a' := ?_) #[true, true, true, true, true, true, true, true, true, true, true, true, true, true, true, true, true, true, true, false, false, false, false, false] rfl rfl (any_of HT_.out (by kernel_rfl)) (fun _ _ _ h => h) (Or.inl ⟨by rfl, ?_⟩) ?_ ?_
      rotate_left
      · intro w'
        go_simp
        with_reducible rfl
      rotate_left
      · simp only [Act.put, List.setIfInBounds_toArray, List.set_cons_zero, List.set_cons_succ, i64_w, i32_w]
        rfl
      refine pure_ (i := 19) (N := some 102) (v := ?_) (a' := ?_) #[true, true, true, true, true, true, true, true, true, true, true, true, true, true, true, true, true, true, true, true, false, false, false, false] rfl rfl (any_of HT_.out (by kernel_rfl)) (fun _ _ _ h => h) (Or.inl ⟨by rfl, ?_⟩) ?_ ?_
      rotate_left
      · intro w'
        go_simp
        with_reducible rfl
      rotate_left
      · simp only [Act.put, List.setIfInBounds_toArray, List.set_cons_zero, List.set_cons_succ, i64_w, i32_w]
        rfl
      refine one_ (i := 20) (N := some 103) #[true, true, true, true, true, true, true, true, true, true, true, true, true, true, true, true, true, true, true, true, true, false, false, false] rfl rfl (one_of HT_.out (by kernel_rfl)) (by decide) (fun K hK => ?_)
      refine goes_ Try.func34 (by kernel_rfl) rfl #[.slice Av vs.length cv] (by rfl) rfl rfl (by simp only [List.map_toArray, List.map_cons, List.map_nil]; rfl) ?_
      refine (HPL.out _ hHeld).mono ?_
      rintro e f1 ⟨Aq, cq, rfl, hRq, hb⟩
      have HF1 := Lib.hid (hHeld.trans (hb.mono hHeld.size))
      have HVS := Lib.hid (values_any Av Aq cv cq vs f1 (Kd.C_below HCv.out HF1.out) (Kd.R_reads' hRq).2.2 hG (by omega))
      refine ⟨_, rfl, ?_⟩
      refine hK.out _ _ HF1.out (fun hHeld => ?_)
      clear hK K hb hRq
      refine norm_ (a' := ?_) ?_ ?_
      rotate_left
      · show Act.put _ (some 103) _ = _
        simp only [Act.put, List.setIfInBounds_toArray, List.set_cons_zero, List.set_cons_succ, i64_w, i32_w]
        rfl
      refine one_ (i := 21) (N := some 104) #[true, true, true, true, true, true, true, true, true, true, true, true, true, true, true, true, true, true, true, true, true, true, false, false] rfl rfl (one_of HT_.out (by kernel_rfl)) (by decide) (fun K hK => ?_)
      refine goes_ Try.func26 (by kernel_rfl) rfl #[.slice Av vs.length cv, .slice Aq vs.length cq] (by rfl) rfl rfl (by simp only [List.map_toArray, List.map_cons, List.map_nil]; rfl) ?_
      refine HVS.out.mono ?_
      rintro e h1 ⟨rfl, hb⟩
      have HG1 := Lib.hid (HF1.out.trans (hb.mono HF1.out.size))
      refine ⟨_, rfl, ?_⟩
      refine hK.out _ _ HG1.out (fun hHeld => ?_)
      clear hK K hb
      refine norm_ (a' := ?_) ?_ ?_
      rotate_left
      · show Act.put _ (some 104) _ = _
        simp only [Act.put, List.setIfInBounds_toArray, List.set_cons_zero, List.set_cons_succ, i64_w, i32_w]
        rfl
      refine pure_ (i := 22) (N := some 105) (v := ?_) (a' := ?_) #[true, true, true, true, true, true, true, true, true, true, true, true, true, true, true, true, true, true, true, true, true, true, true, false] rfl rfl (any_of HT_.out (by kernel_rfl)) (fun _ _ _ h => h) (Or.inl ⟨by rfl, ?_⟩) ?_ ?_
      rotate_left
      · intro w'
        go_simp
        with_reducible rfl
      rotate_left
      · simp only [Act.put, List.setIfInBounds_toArray, List.set_cons_zero, List.set_cons_succ, i64_w, i32_w]
        rfl
      refine pure_ (i := 23) (N := some 106) (v := ?_) (a' := ?_) #[true, true, true, true, true, true, true, true, true, true, true, true, true, true, true, true, true, true, true, true, true, true, true, true] rfl rfl (any_of HT_.out (by kernel_rfl)) (fun _ _ _ h => h) (Or.inl ⟨by rfl, ?_⟩) ?_ ?_
      rotate_left
      · intro w'
        go_simp
        with_reducible rfl
      rotate_left
      · simp only [Act.put, List.setIfInBounds_toArray, List.set_cons_zero, List.set_cons_succ, i64_w, i32_w]
        rfl
      refine done_ (done_of HT_.out (by kernel_rfl)) ?_
      clear HT_ HW_
      have HP1 := Lib.hid (HB1.out.trans (HG1.out.mono HB1.out.size))
      clear HG1 HD hHeld
      clear HF1 hcut b0 HS1 HS2 HPL HVS HCv
      have HP2 := HP1
      go_upto_region 17 with fail
      go_wp2_with fail
      refine (HLT.out h1 HP2.out).mono ?_
      rintro e a3 ⟨g3, cap3, rfl, hL, hcap, hb⟩
      have HA3 := Lib.hid (HP2.out.trans (hb.mono HP2.out.size))
      have HV := Lib.hid (readM_any (some ⟨g3, 0, none⟩) cap3 l a3 hL.C.1 (by omega) HBy.out (by omega))
      clear hL hcap hb
      go_wp2_with fail
      refine HV.out.mono ?_
      rintro e r1 ⟨hb, he⟩
      have HR1 := Lib.hid (HA3.out.trans (hb.mono HA3.out.size))
      clear hb HV
      rcases hr : rdM l with _ | ⟨m, n⟩
      · rw [hr] at he
        have he : e = .returned (.tuple #[.agg #[.int .i64 0, .string { data := #[] }, .slice none 0 0], .int .i64 0, .int .i64 110]) := he
        subst he
        clear hr
        go_upto_region 18 with fail
        have hB := Blk.new r1 57 #[.int .i64 0, .string { data := #[] }, .slice none 0 0]
        have hb := HR1.out.alloc HR1.out.size (.cells #[.int .i64 0, .string { data := #[] }, .slice none 0 0] 57)
        have hbn := (Below.refl r1.heap.size r1).alloc (Nat.le_refl _) (.cells #[.int .i64 0, .string { data := #[] }, .slice none 0 0] 57)
        generalize hWq : r1.alloc (.cells #[.int .i64 0, .string { data := #[] }, .slice none 0 0] 57) = W3 at hB hb hbn ⊢
        clear hWq
        have HX3 := Lib.hid hB
        have HW3 := Lib.hid hb
        have x0 := hB.cell 0
        have x1 := hB.cell 1
        have x2 := hB.cell 2
        simp at x0 x1 x2
        clear hB hb hbn HR1 HA3
        go_wp2_with fail
        go_ret
        exact ⟨rfl, HW3.out⟩
      · rw [hr] at he
        obtain ⟨u0, he, hRv⟩ := he
        obtain ⟨Av, cv, rfl⟩ := rvec_of hRv
        subst he
        obtain ⟨hG, h6, _, _, hn⟩ := rdM_good l m n hr
        obtain ⟨hfv, hFv, hz, hi, ht⟩ := form_rdM l HBy.out m n hr
        clear hr
        have HVA := Lib.hid (fun (W : World) (h : Below r1.heap.size r1 W) => messageW_any m Av cv W (Kd.C_below (Kd.R_reads' hRv).2.2 h) (Kd.R_reads' hRv).2.1 hG hFv h6 hz hi ht)
        rw [hfv] at HVA
        clear hfv hFv hz hi ht
        go_upto_region 18 with fail
        have hB := Blk.new r1 57 #[.int .i64 m.id, .string m.tag, .slice Av m.pl.length cv]
        have hb := HR1.out.alloc HR1.out.size (.cells #[.int .i64 m.id, .string m.tag, .slice Av m.pl.length cv] 57)
        have hbn := (Below.refl r1.heap.size r1).alloc (Nat.le_refl _) (.cells #[.int .i64 m.id, .string m.tag, .slice Av m.pl.length cv] 57)
        generalize hWq : r1.alloc (.cells #[.int .i64 m.id, .string m.tag, .slice Av m.pl.length cv] 57) = W3 at hB hb hbn ⊢
        clear hWq
        have HX3 := Lib.hid hB
        have HW3 := Lib.hid hb
        have HVB := Lib.hid (HVA.out _ hbn)
        have x0 := hB.cell 0
        have x1 := hB.cell 1
        have x2 := hB.cell 2
        simp at x0 x1 x2
        clear hB hb hbn HVA hRv
        go_wp2_with fail
        refine HVB.out.mono ?_
        rintro e b1 ⟨u, rfl, hR, hb⟩
        obtain ⟨Au, cu, rfl⟩ := Kd.R_slice hR
        rw [show (l.take n).length = n from by rw [List.length_take]; omega] at hR ⊢
        have HRu := Lib.hid hR
        have HB1 := Lib.hid (HW3.out.trans (hb.mono HW3.out.size))
        clear hR hb HVB x0 x1 x2
        go_upto_region 20 with fail
        have s1 := fun k => R_string HRu.out (pw_below_drewN (Below.refl _ b1) k)
        have s2 := fun k => take_string (c := c) HC.out (pw_below_drewN HB1.out k) n hn
        have hcut := cutN A l.length c n hn hc
        have b0 : decide ((n : Int) ≤ (l.length : Int)) = true := by simp; omega
        have b00 : decide (n ≤ l.length) = true := by simp; omega
        generalize strOfNums (l.take n) = s at s1 s2
        clear HRu
        go_quiet (fail)
        go_wp2_with fail
        go_ret
        exact ⟨rfl, pw_below_drewN HB1.out _⟩
end Go.Proofs.Ytlbfnnngemonoaa.Wir
