/- The writers: a message. -/
import Derived.Test.YtlbfnnngemonoaaWfnPlain
namespace Go.Proofs.Ytlbfnnngemonoaa.Wir
open Go.RowKit Go.Proofs.Ytlbfnnngemonoaa.PWireReads
open Go.Proofs.Ytlbfnnngemonoaa.Fat (Blk Chg Off chg_opt)
open Go.Proofs.YtlbfnnngemonoaaW.PrintWords Go.Proofs.YtlbfnnngemonoaaW.PrintLast Go.Proofs.YtlbfnnngemonoaaW.PrintMore
set_option linter.unusedVariables false
set_option linter.unusedSimpArgs false
attribute [local go_sem] run_store_float run_store_complex

def T35 : Bool × List (List Nat × List Nat) := (true, [([], []), ([0], [0]), ([], []), ([2], [2]), ([3], [3]), ([4], [4]), ([5], [5]), ([1, 6, 1], [1, 6]), ([7, 7, 0, 1, 2, 3, 4, 5, 6, 7], [7])])
def B35 : List Nat := [0, 1, 0, 4, 12, 28, 60, 127, 255]
theorem tab35 : rtab .any (opsOf Try.f35 7) = T35 := by kernel_rfl
theorem bits35 : waitsOk T35.2 B35 = true := by kernel_rfl
def by4 (n : Int) : List Int := [nb n 4, nb n 5, nb n 6, nb n 7]
theorem C_arr4 {w : World} {g : Nat} {n : Int} (h : Blk w g 120 (arr8 n)) : Kd.C (Kd.int .u8) w (some ⟨g, 4, none⟩) 4 (by4 n) := by
  refine ⟨rfl, by decide, fun _ => ⟨_, rfl, fun j p hj => ⟨[.int .u8 p], rfl, rfl, fun i u hu => ?_⟩⟩⟩
  rcases i with _ | i
  · have := Option.some.inj hu
    subst this
    have hz : (Kd.int .u8).sz = 1 := rfl
    rw [hz, Nat.mul_one, Nat.add_zero]
    rcases j with _ | _ | _ | _ | j
    · have := Option.some.inj hj
      subst this
      exact h.cell 4
    · have := Option.some.inj hj
      subst this
      exact h.cell 5
    · have := Option.some.inj hj
      subst this
      exact h.cell 6
    · have := Option.some.inj hj
      subst this
      exact h.cell 7
    · simp [by4] at hj
  · simp at hu
def formM (m : M) : List Int := by4 m.id ++ [(m.tag.size : Int)] ++ bOf m.tag ++ formP m.pl
theorem formP_len (vs : List V) (h : ∀ v ∈ vs, Good v) (h6 : vs.length ≤ 6) : (formP vs).length ≤ 2000 := by
  have := formVs_len vs h
  simp only [formP, List.length_cons]
  omega
set_option maxRecDepth 20000 in
set_option maxHeartbeats 4000000 in
theorem messageW_any (m : M) (A : Option Addr) (c : Nat) (w : World) (hC : Kd.C kV w A m.pl.length m.pl) (hc : m.pl.length ≤ c) (hG : ∀ v ∈ m.pl, Good v) (hF : ∀ v ∈ m.pl, Fit v) (h6 : m.pl.length ≤ 6) (hz : szs m.pl ≤ 1024) (hi : 0 ≤ m.id ∧ m.id < 1048576) (ht : 1 ≤ m.tag.size ∧ m.tag.size ≤ 32) :
    Calls Try.prog 35 #[.agg #[.int .i64 m.id, .string m.tag, .slice A m.pl.length c]] w (WPost w (formM m)) := by
  have hPl := formP_len m.pl hG h6
  have HP := Lib.hid (fun (W : World) (hb : Below w.heap.size w W) => payload_any A c m.pl W (Kd.C_below hC hb) hc hG hF h6 hz)
  have HN := Lib.hid (fun W => number_any8 m.id hi.1 (by omega) W)
  have hM : formM m = by4 m.id ++ [(m.tag.size : Int)] ++ bOf m.tag ++ formP m.pl := rfl
  generalize formM m = FM at hM ⊢
  obtain ⟨id, tag, pl⟩ := m
  simp only at HP HN hM hi ht hPl ⊢
  generalize hPP : WPost w FM = PP
  have HPP := Lib.hid hPP
  have HM := Lib.hid hM
  have b0 : decide (id < 0) = false := by simp; omega
  have b1 : decide (1048576 ≤ id) = false := by simp; omega
  have b2 : decide ((tag.size : Int) < 1) = false := by simp; omega
  have b3 : decide (32 < (tag.size : Int)) = false := by simp; omega
  have w1 : IntKind.u64.wrap id = id := by rw [IntKind.wrap_u64]; omega
  have w2 : IntKind.u8.wrap (tag.size : Int) = (tag.size : Int) := by rw [IntKind.wrap_u8]; omega
  have hb := (Below.refl w.heap.size w).alloc (Nat.le_refl _) (.cells #[.int .i64 id, .string tag, .slice A pl.length c] 57)
  have hB := Blk.new w 57 #[.int .i64 id, .string tag, .slice A pl.length c]
  clear hC hG hF hPP hM
  generalize formP pl = fp at HP HM hPl
  go_enter Try.func35, Try.ntmps35
  go_upto_region 1 with fail
  generalize hWq : w.alloc (.cells #[.int .i64 id, .string tag, .slice A pl.length c] 57) = W1 at hb hB ⊢
  clear hWq
  have x0 := hB.cell 0
  have x1 := hB.cell 1
  have x2 := hB.cell 2
  simp at x0 x1 x2
  have HB := Lib.hid hb
  have HX := Lib.hid hB
  clear hb hB
  go_wp2_with fail
  refine (HP.out _ HB.out).mono ?_
  rintro e w3 ⟨u, rfl, hR, hb3⟩
  obtain ⟨Ap, cp, rfl⟩ := Kd.R_slice hR
  have HR3 := Lib.hid hR
  have HX3 := Lib.hid (HX.out.below hb3 HX.out.lt)
  have HB3 := Lib.hid (HB.out.trans (hb3.mono HB.out.size))
  clear hR hb3 x0 x1 x2 HX HB
  have x0 := HX3.out.cell 0
  simp at x0
  go_wp2_with fail
  refine (HN.out _).mono ?_
  rintro e w4 ⟨rfl, hb4⟩
  have hb4' := hb4.alloc hb4.size (.cells (arr8 id) 120)
  have hA := Blk.new w4 120 (arr8 id)
  have HX4 := Lib.hid (HX3.out.below hb4' HX3.out.lt)
  have HR4 := Lib.hid (Kd.R_below HR3.out hb4')
  have HB4 := Lib.hid (HB3.out.trans (hb4'.mono HB3.out.size))
  clear x0 hb4 hb4' HX3 HR3 HB3
  simp only [arr8]
  go_upto_region 7 with fail
  have hA : Blk (w4.alloc (.cells #[.int .u8 (nb id 0), .int .u8 (nb id 1), .int .u8 (nb id 2), .int .u8 (nb id 3), .int .u8 (nb id 4), .int .u8 (nb id 5), .int .u8 (nb id 6), .int .u8 (nb id 7)] 120)) w4.heap.size 120 (arr8 id) := hA
  simp only [arr8] at HX4 HR4 HB4
  generalize hWq : w4.alloc (.cells #[.int .u8 (nb id 0), .int .u8 (nb id 1), .int .u8 (nb id 2), .int .u8 (nb id 3), .int .u8 (nb id 4), .int .u8 (nb id 5), .int .u8 (nb id 6), .int .u8 (nb id 7)] 120) = W at hA HX4 HR4 HB4 ⊢
  clear hWq
  have HC4 := Lib.hid (C_arr4 hA)
  have HT : Hid (∀ w', Below W.heap.size W w' → w'.cell? ⟨w.heap.size, 1, none⟩ = some (.string tag)) := Lib.hid (fun w' h => (HX4.out.below h HX4.out.lt).cell 1)
  have HCP : Hid (∀ w', Below W.heap.size W w' → Kd.C (Kd.int .u8) w' Ap fp.length fp) := Lib.hid (fun w' h => Kd.C_below (Kd.R_reads' HR4.out).2.2 h)
  clear hA HX4 HR4
  refine start_ (n := 9) (S := fun w' => Below W.heap.size W w') (ds := []) #[false, false, false, false, false, false, false, false, false] (by kernel_rfl) rfl rfl (Below.refl _ W).drew (fun hHeld => ?_)
  refine with_tabW tab35 bits35 (fun HT_ HW_ => ?_)
  have hD := (Below.refl W.heap.size W).drew
  generalize W.drew = w5 at hHeld hD ⊢
  have HD := Lib.hid hD
  clear hD
  refine pure_ (i := 0) (N := some 41) (v := ?_) (a' := ?_) #[true, false, false, false, false, false, false, false, false] rfl rfl (any_of HT_.out (by kernel_rfl)) (fun _ _ _ h => h) (Or.inl ⟨by rfl, ?_⟩) ?_ ?_
  rotate_left
  · intro w'
    go_simp
    with_reducible rfl
  rotate_left
  · simp only [Act.put, List.setIfInBounds_toArray, List.set_cons_zero, List.set_cons_succ, i64_w, i32_w]
    rfl
  refine pure_ (i := 2) (N := some 43) (v := ?_) (a' := ?_) #[true, false, true, false, false, false, false, false, false] rfl rfl (any_of HT_.out (by kernel_rfl)) (fun _ _ _ h => h) (Or.inl ⟨by rfl, ?_⟩) ?_ ?_
  rotate_left
  · intro w'
    go_simp
    with_reducible rfl
  rotate_left
  · simp only [Act.put, List.setIfInBounds_toArray, List.set_cons_zero, List.set_cons_succ, i64_w, i32_w]
    rfl
  refine take_ (i := 3) (N := some 44) (v := ?_) (a' := ?_) #[true, false, true, true, false, false, false, false, false] rfl rfl (take_ofW HT_.out HW_.out (by kernel_rfl)) (fun _ _ _ h => h) (Or.inl ⟨by rfl, ?_⟩) hHeld ?_ ?_
  rotate_left
  · intro w' HS_
    have s3 := HT.out _ HS_
    go_simp
    with_reducible rfl
  rotate_left
  · simp only [Act.put, List.setIfInBounds_toArray, List.set_cons_zero, List.set_cons_succ, i64_w, i32_w]
    rfl
  refine pure_ (i := 4) (N := some 45) (v := ?_) (a' := ?_) #[true, false, true, true, true, false, false, false, false] rfl rfl (any_of HT_.out (by kernel_rfl)) (fun _ _ _ h => h) (Or.inl ⟨by rfl, ?_⟩) ?_ ?_
  rotate_left
  · intro w'
    go_simp
    with_reducible rfl
  rotate_left
  · simp only [Act.put, List.setIfInBounds_toArray, List.set_cons_zero, List.set_cons_succ, i64_w, i32_w]
    rfl
  refine pure_ (i := 5) (N := some 46) (v := ?_) (a' := ?_) #[true, false, true, true, true, true, false, false, false] rfl rfl (any_of HT_.out (by kernel_rfl)) (fun _ _ _ h => h) (Or.inl ⟨by rfl, ?_⟩) ?_ ?_
  rotate_left
  · intro w'
    go_simp
    with_reducible rfl
  rotate_left
  · simp only [Act.put, List.setIfInBounds_toArray, List.set_cons_zero, List.set_cons_succ, i64_w, i32_w]
    rfl
  refine two_ (i := 1) (j := 6) (Ni := some 42) (Nj := some 47) #[true, true, true, true, true, true, false, false, false] #[true, false, true, true, true, true, true, false, false] rfl rfl rfl rfl (two_of HT_.out (by kernel_rfl)) (by decide) (by decide) (fun K hK => ?_) (fun K hK => ?_)
  · have HK := Lib.hid (clone_any ⟨w4.heap.size, 4, none⟩ 4 (by4 id) w5 (Kd.C_below HC4.out HD.out) (by simp [by4]))
    refine goes_ Try.func67 (by kernel_rfl) rfl #[.slice (some ⟨w4.heap.size, 4, none⟩) 4 4] (by rfl) rfl rfl (by simp only [List.map_toArray, List.map_cons, List.map_nil]; rfl) ?_
    refine HK.out.mono ?_
    rintro e w6 ⟨Ac, cc, rfl, hRc, hd⟩
    have HD6 := Lib.hid (HD.out.trans (hd.mono HD.out.size))
    refine ⟨_, rfl, ?_⟩
    refine hK.out _ _ HD6.out (fun hHeld => ?_)
    have hRc := Kd.R_lower hRc HD.out.size
    have HRc := Lib.hid hRc
    clear hK K HK
    refine norm_ (a' := ?_) ?_ ?_
    rotate_left
    · show Act.put _ (some 42) _ = _
      simp only [Act.put, List.setIfInBounds_toArray, List.set_cons_zero, List.set_cons_succ, i64_w, i32_w]
      rfl
    refine one_ (i := 6) (N := some 47) #[true, true, true, true, true, true, true, false, false] rfl rfl (one_of HT_.out (by kernel_rfl)) (by decide) (fun K hK => ?_)
    refine value_ (w1 := ?_) (v := ?_) (by rfl) rfl ?_ ?_
    rotate_left 2
    · go_simp
      constructor
      · rfl
      · rfl
    have HD7 := Lib.hid (below_alloc HD6.out (.cells #[.int .u8 (tag.size : Int)] 5))
    refine hK.out _ _ HD7.out (fun hHeld => ?_)
    clear hK K
    refine norm_ (a' := ?_) ?_ ?_
    rotate_left
    · show Act.put _ (some 47) _ = _
      simp only [Act.put, List.setIfInBounds_toArray, List.set_cons_zero, List.set_cons_succ, i64_w, i32_w]
      rfl
    have HRX := Lib.hid (Kd.R_alloc HRc.out (.cells #[.int .u8 (tag.size : Int)] 5))
    have HCX := Lib.hid (C_blk (Blk.new w6 5 #[.int .u8 (tag.size : Int)]) [(tag.size : Int)] rfl (by simp))
    refine one_ (i := 7) (N := some 48) #[true, true, true, true, true, true, true, true, false] rfl rfl (one_of HT_.out (by kernel_rfl)) (by decide) (fun K hK => ?_)
    have HSZ : Hid (((by4 id).length + 1) * 1 ≤ 140737488355328) := Lib.hid (by simp [by4])
    refine Kd.R_append_rows_step (Kd.int .u8) (w0 := W) W.heap.size (by rfl) (.tmp 42) (.tmp 47) 45 5 (.int .u8 0) 1 rfl Try.underlying45 info5 rfl (by decide) (by omega) (.slice Ac 4 cc) (by4 id) [(tag.size : Int)] (some ⟨w6.heap.size, 0, none⟩) 1 1 (fun _ => True) (fun _ => False) rfl rfl HRX.out HCX.out (fun x cs hc => hc) (fun _ hk => hk.elim) (fun _ _ => trivial) HD7.out HD7.out.size HSZ.out ?_
    intro va wa hRa hba hga hata
    obtain ⟨Aa, ca, rfl⟩ := Kd.R_slice hRa
    rw [show (by4 id ++ [(tag.size : Int)]).length = 5 from rfl] at hRa ⊢
    have HRa := Lib.hid hRa
    have HBa := Lib.hid hba
    refine hK.out _ _ hba (fun hHeld => ?_)
    clear hK K hRa hba hga hata
    refine norm_ (a' := ?_) ?_ ?_
    rotate_left
    · show Act.put _ (some 48) _ = _
      simp only [Act.put, List.setIfInBounds_toArray, List.set_cons_zero, List.set_cons_succ, i64_w, i32_w]
      rfl
    refine pure_ (i := 8) (N := some 7) (v := ?_) (a' := ?_) #[true, true, true, true, true, true, true, true, true] rfl rfl (any_of HT_.out (by kernel_rfl)) (fun _ _ _ h => h) (Or.inl ⟨by rfl, ?_⟩) ?_ ?_
    rotate_left
    · intro w'
      go_simp
      with_reducible rfl
    rotate_left
    · simp only [Act.put, List.setIfInBounds_toArray, List.set_cons_zero, List.set_cons_succ, i64_w, i32_w]
      rfl
    refine done_ (done_of HT_.out (by kernel_rfl)) ?_
    clear HT_ HW_
    have x1 := HT.out _ HBa.out
    have HSZ2 : Hid ((by4 id ++ [(tag.size : Int)]).length + tag.size ≤ 140737488355328) := Lib.hid (by simp [by4]; omega)
    go_wp2_with (first | ((with_reducible refine gate_builtin (b := .append) (xs := #[.tmp 49, .tmp 51]) rfl ?_); at_builtin; refine hold_it ?_) | fail)
    refine _root_.id ?_
    refine R_append_str (w0 := W) W.heap.size rfl (.tmp 49) (.tmp 51) rfl (.slice Aa 5 ca) _ tag rfl rfl HRa.out HBa.out HBa.out.size HSZ2.out ?_
    intro vb wb hRb hbb hgb
    obtain ⟨Ab, cb, rfl⟩ := Kd.R_slice hRb
    have HRb := Lib.hid hRb
    have HBb := Lib.hid hbb
    have HSZ3 : Hid (((by4 id ++ [(tag.size : Int)] ++ bOf tag).length + fp.length) * 1 ≤ 140737488355328) := Lib.hid (by simp [by4, bOf]; omega)
    clear hRb hbb hgb x1
    go_wp2_with (first | ((with_reducible refine gate_builtin (b := .append) (xs := #[.tmp 52, .tmp 53]) rfl ?_); at_builtin; refine hold_it ?_) | fail)
    refine _root_.id ?_
    refine Kd.R_append_rows (Kd.int .u8) (w0 := W) W.heap.size rfl (.tmp 52) (.tmp 53) 45 5 (.int .u8 0) 1 rfl Try.underlying45 info5 rfl (by decide) (by omega) (.slice Ab (by4 id ++ [(tag.size : Int)] ++ bOf tag).length cb) (by4 id ++ [(tag.size : Int)] ++ bOf tag) fp Ap fp.length cp (fun _ => True) (fun _ => False) ?hs rfl HRb.out (HCP.out _ HBb.out) (fun x cs hc => hc) (fun _ hk => hk.elim) (fun _ _ => trivial) HBb.out HBb.out.size HSZ3.out ?_
    case hs => first | rfl | (simp; rfl)
    intro vc wc hRc2 hbc hgc hatc
    have HRc2 := Lib.hid hRc2
    have HBc := Lib.hid hbc
    clear hRc2 hbc hgc hatc
    go_wp2_with fail
    rw [← HPP.out]
    refine ⟨vc, rfl, ?_, HB4.out.trans (HBc.out.mono HB4.out.size)⟩
    rw [HM.out]
    exact Kd.R_lower HRc2.out HB4.out.size
  · refine value_ (w1 := ?_) (v := ?_) (by rfl) rfl ?_ ?_
    rotate_left 2
    · go_simp
      constructor
      · rfl
      · rfl
    have HD7 := Lib.hid (below_alloc HD.out (.cells #[.int .u8 (tag.size : Int)] 5))
    refine hK.out _ _ HD7.out (fun hHeld => ?_)
    clear hK K
    refine norm_ (a' := ?_) ?_ ?_
    rotate_left
    · show Act.put _ (some 47) _ = _
      simp only [Act.put, List.setIfInBounds_toArray, List.set_cons_zero, List.set_cons_succ, i64_w, i32_w]
      rfl
    refine one_ (i := 1) (N := some 42) #[true, true, true, true, true, true, true, false, false] rfl rfl (one_of HT_.out (by kernel_rfl)) (by decide) (fun K hK => ?_)
    have hbt := Blk.new w5 5 #[.int .u8 (tag.size : Int)]
    generalize hWq : w5.alloc (.cells #[.int .u8 (tag.size : Int)] 5) = w6 at hbt HD7 ⊢ hK
    clear hWq
    have HK := Lib.hid (clone_any ⟨w4.heap.size, 4, none⟩ 4 (by4 id) w6 (Kd.C_below HC4.out HD7.out) (by simp [by4]))
    refine goes_ Try.func67 (by kernel_rfl) rfl #[.slice (some ⟨w4.heap.size, 4, none⟩) 4 4] (by rfl) rfl rfl (by simp only [List.map_toArray, List.map_cons, List.map_nil]; rfl) ?_
    refine HK.out.mono ?_
    rintro e w7 ⟨Ac, cc, rfl, hRc, hd⟩
    have HD8 := Lib.hid (HD7.out.trans (hd.mono HD7.out.size))
    refine ⟨_, rfl, ?_⟩
    refine hK.out _ _ HD8.out (fun hHeld => ?_)
    have hRc := Kd.R_lower hRc HD7.out.size
    have HRX := Lib.hid hRc
    have HCX := Lib.hid (C_blk (hbt.below hd hbt.lt) [(tag.size : Int)] rfl (by simp))
    clear hK K HK
    refine norm_ (a' := ?_) ?_ ?_
    rotate_left
    · show Act.put _ (some 42) _ = _
      simp only [Act.put, List.setIfInBounds_toArray, List.set_cons_zero, List.set_cons_succ, i64_w, i32_w]
      rfl
    refine one_ (i := 7) (N := some 48) #[true, true, true, true, true, true, true, true, false] rfl rfl (one_of HT_.out (by kernel_rfl)) (by decide) (fun K hK => ?_)
    have HSZ : Hid (((by4 id).length + 1) * 1 ≤ 140737488355328) := Lib.hid (by simp [by4])
    refine Kd.R_append_rows_step (Kd.int .u8) (w0 := W) W.heap.size (by rfl) (.tmp 42) (.tmp 47) 45 5 (.int .u8 0) 1 rfl Try.underlying45 info5 rfl (by decide) (by omega) (.slice Ac 4 cc) (by4 id) [(tag.size : Int)] (some ⟨w5.heap.size, 0, none⟩) 1 1 (fun _ => True) (fun _ => False) rfl rfl HRX.out HCX.out (fun x cs hc => hc) (fun _ hk => hk.elim) (fun _ _ => trivial) HD8.out HD8.out.size HSZ.out ?_
    intro va wa hRa hba hga hata
    obtain ⟨Aa, ca, rfl⟩ := Kd.R_slice hRa
    rw [show (by4 id ++ [(tag.size : Int)]).length = 5 from rfl] at hRa ⊢
    have HRa := Lib.hid hRa
    have HBa := Lib.hid hba
    refine hK.out _ _ hba (fun hHeld => ?_)
    clear hK K hRa hba hga hata
    refine norm_ (a' := ?_) ?_ ?_
    rotate_left
    · show Act.put _ (some 48) _ = _
      simp only [Act.put, List.setIfInBounds_toArray, List.set_cons_zero, List.set_cons_succ, i64_w, i32_w]
      rfl
    refine pure_ (i := 8) (N := some 7) (v := ?_) (a' := ?_) #[true, true, true, true, true, true, true, true, true] rfl rfl (any_of HT_.out (by kernel_rfl)) (fun _ _ _ h => h) (Or.inl ⟨by rfl, ?_⟩) ?_ ?_
    rotate_left
    · intro w'
      go_simp
      with_reducible rfl
    rotate_left
    · simp only [Act.put, List.setIfInBounds_toArray, List.set_cons_zero, List.set_cons_succ, i64_w, i32_w]
      rfl
    refine done_ (done_of HT_.out (by kernel_rfl)) ?_
    clear HT_ HW_
    have x1 := HT.out _ HBa.out
    have HSZ2 : Hid ((by4 id ++ [(tag.size : Int)]).length + tag.size ≤ 140737488355328) := Lib.hid (by simp [by4]; omega)
    go_wp2_with (first | ((with_reducible refine gate_builtin (b := .append) (xs := #[.tmp 49, .tmp 51]) rfl ?_); at_builtin; refine hold_it ?_) | fail)
    refine _root_.id ?_
    refine R_append_str (w0 := W) W.heap.size rfl (.tmp 49) (.tmp 51) rfl (.slice Aa 5 ca) _ tag rfl rfl HRa.out HBa.out HBa.out.size HSZ2.out ?_
    intro vb wb hRb hbb hgb
    obtain ⟨Ab, cb, rfl⟩ := Kd.R_slice hRb
    have HRb := Lib.hid hRb
    have HBb := Lib.hid hbb
    have HSZ3 : Hid (((by4 id ++ [(tag.size : Int)] ++ bOf tag).length + fp.length) * 1 ≤ 140737488355328) := Lib.hid (by simp [by4, bOf]; omega)
    clear hRb hbb hgb x1
    go_wp2_with (first | ((with_reducible refine gate_builtin (b := .append) (xs := #[.tmp 52, .tmp 53]) rfl ?_); at_builtin; refine hold_it ?_) | fail)
    refine _root_.id ?_
    refine Kd.R_append_rows (Kd.int .u8) (w0 := W) W.heap.size rfl (.tmp 52) (.tmp 53) 45 5 (.int .u8 0) 1 rfl Try.underlying45 info5 rfl (by decide) (by omega) (.slice Ab (by4 id ++ [(tag.size : Int)] ++ bOf tag).length cb) (by4 id ++ [(tag.size : Int)] ++ bOf tag) fp Ap fp.length cp (fun _ => True) (fun _ => False) ?hs rfl HRb.out (HCP.out _ HBb.out) (fun x cs hc => hc) (fun _ hk => hk.elim) (fun _ _ => trivial) HBb.out HBb.out.size HSZ3.out ?_
    case hs => first | rfl | (simp; rfl)
    intro vc wc hRc2 hbc hgc hatc
    have HRc2 := Lib.hid hRc2
    have HBc := Lib.hid hbc
    clear hRc2 hbc hgc hatc
    go_wp2_with fail
    rw [← HPP.out]
    refine ⟨vc, rfl, ?_, HB4.out.trans (HBc.out.mono HB4.out.size)⟩
    rw [HM.out]
    exact Kd.R_lower HRc2.out HB4.out.size
end Go.Proofs.Ytlbfnnngemonoaa.Wir
