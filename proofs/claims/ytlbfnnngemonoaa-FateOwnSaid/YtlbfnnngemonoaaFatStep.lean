/- chordmaillaw24.does: the walk. -/
import Derived.Test.YtlbfnnngemonoaaFatDoes
namespace Go.Proofs.Ytlbfnnngemonoaa.Fat
open Go.RowKit Go.Proofs.Ytlbfnnngemonoaa.PFateBooks
open Go.Proofs.YtlbfnnngemonoaaW.PrintWords Go.Proofs.YtlbfnnngemonoaaW.PrintLast Go.Proofs.YtlbfnnngemonoaaW.PrintMore
set_option linter.unusedVariables false
set_option linter.unusedSimpArgs false

def T12 : Bool × List (List Nat × List Nat) := (true, [([], []), ([], []), ([1], [1]), ([], []), ([3], [3]), ([4], [4]), ([0, 2, 5, 5], [0, 2, 5]), ([6], [6]), ([7], [7]), ([7], [7]), ([8, 6, 0, 1, 2, 3, 4, 5, 6, 7, 8], [8]), ([9, 10, 0, 1, 2, 3, 4, 5, 6, 7, 8, 9, 10], [9])])
def B12 : List Nat := [0, 0, 2, 0, 8, 24, 63, 127, 255, 255, 511, 2047]
theorem tab12 : rtab .any (opsOf Try.f11 12) = T12 := by kernel_rfl
theorem bits12 : waitsOk T12.2 B12 = true := by kernel_rfl
/-- What a step leaves. -/
def DPost (w : World) (P1 P2 : Option Addr) (G : List Nat) (ts : List S134) (n : Int) (e : Ending) (w' : World) : Prop :=
  e = .returned (.bool true) ∧ ∃ G' ts' n', Bo w' P1 P2 G' ts' n' ∧ ts'.length ≤ ts.length + 1 ∧ n ≤ n' ∧ n' ≤ n + 1 ∧ Chg G w w' ∧ ∀ x ∈ G', x ∈ G ∨ w.heap.size ≤ x

set_option maxRecDepth 20000 in
set_option maxHeartbeats 2000000 in
theorem does_offer {P1 P2 : Option Addr} {G : List Nat} {ts : List S134} {n : Int} (w : World) (h : Bo w P1 P2 G ts n) (ac e : Int) (A2 : Option Addr) (m c2 : Nat) (hm : (ts.length + 1) * 40 ≤ 140737488355328) :
    Calls Try.prog 11 #[.pointer P1, .pointer P2, .agg #[.bool false, .int .i64 ac, .int .i64 e, .slice A2 m c2]] w (DPost w P1 P2 G ts n) := by
  have HBo := Lib.hid h
  clear h
  go_enter Try.func11, Try.ntmps11
  go_upto_region 1 with fail
  have h5 := Blk.new w 33 #[.bool false, .int .i64 ac, .int .i64 e, .slice A2 m c2]
  have hb := (Below.refl w.heap.size w).alloc (Nat.le_refl _) (.cells #[.bool false, .int .i64 ac, .int .i64 e, .slice A2 m c2] 33)
  obtain ⟨g5, hg⟩ : ∃ g5 : Nat, g5 = w.heap.size := ⟨_, rfl⟩
  rw [← hg] at h5
  have hgo : (Value.pointer (some ⟨w.heap.size, 0, none⟩)) = .pointer (some ⟨g5, 0, none⟩) := by rw [hg]
  rw [hgo]
  generalize w.alloc (.cells #[.bool false, .int .i64 ac, .int .i64 e, .slice A2 m c2] 33) = w1 at h5 hb ⊢
  have hlt := HBo.out.lt
  have hg5G : g5 ∉ G := fun hx => by have := hlt g5 hx; omega
  have z0 := h5.cell 0
  have z1 := h5.cell 1
  have z2 := h5.cell 2
  simp at z0 z1 z2
  obtain ⟨k, z, Mid, h15, h45⟩ := bo_offer (HBo.out.below hb) ac e hm
  have H15 := Lib.hid h15
  have H45 := Lib.hid h45
  clear h15 h45 hgo hg
  go_wp2_with fail
  refine H15.out.mono ?_
  rintro r w2 ⟨rfl, hM, hC⟩
  have h5b := h5.chg hC hg5G
  have y1 := h5b.cell 1
  have y2 := h5b.cell 2
  simp at y1 y2
  clear z0 z1 z2
  go_upto_region 12 with fail
  refine start_ (n := 12) (S := fun w' => w'.cell? ⟨g5, 1, none⟩ = some (.int .i64 ac) ∧ w'.cell? ⟨g5, 2, none⟩ = some (.int .i64 e)) (ds := [6, 7, 8, 9, 10, 11]) #[false, false, false, false, false, false, false, false, false, false, false, false] (by kernel_rfl) rfl rfl ⟨y1, y2⟩ (fun hHeld => ?_)
  refine with_tabW tab12 bits12 (fun HT_ HW_ => ?_)
  have hb2 : Below w2.heap.size w2 w2.drew := (Below.refl _ _).drew
  generalize w2.drew = w4 at hHeld hb2 ⊢
  refine pure_ (i := 0) (N := some 75) (v := ?_) (a' := ?_) #[true, false, false, false, false, false, false, false, false, false, false, false] rfl rfl (any_of HT_.out (by kernel_rfl)) (fun _ _ _ h => h) (Or.inl ⟨by rfl, ?_⟩) ?_ ?_
  rotate_left
  · intro w'
    go_simp
    with_reducible rfl
  rotate_left
  · simp only [Act.put, List.setIfInBounds_toArray, List.set_cons_zero, List.set_cons_succ, i64_w, i32_w]
    rfl
  refine pure_ (i := 1) (N := some 76) (v := ?_) (a' := ?_) #[true, true, false, false, false, false, false, false, false, false, false, false] rfl rfl (any_of HT_.out (by kernel_rfl)) (fun _ _ _ h => h) (Or.inl ⟨by rfl, ?_⟩) ?_ ?_
  rotate_left
  · intro w'
    go_simp
    with_reducible rfl
  rotate_left
  · simp only [Act.put, List.setIfInBounds_toArray, List.set_cons_zero, List.set_cons_succ, i64_w, i32_w]
    rfl
  refine take_ (i := 2) (N := some 77) (v := ?_) (a' := ?_) #[true, true, true, false, false, false, false, false, false, false, false, false] rfl rfl (take_ofW HT_.out HW_.out (by kernel_rfl)) (fun _ _ _ h => h) (Or.inl ⟨by rfl, ?_⟩) hHeld ?_ ?_
  rotate_left
  · intro w' HS_
    obtain ⟨s0, s1⟩ := HS_
    go_simp
    with_reducible rfl
  rotate_left
  · simp only [Act.put, List.setIfInBounds_toArray, List.set_cons_zero, List.set_cons_succ, i64_w, i32_w]
    rfl
  refine pure_ (i := 3) (N := some 78) (v := ?_) (a' := ?_) #[true, true, true, true, false, false, false, false, false, false, false, false] rfl rfl (any_of HT_.out (by kernel_rfl)) (fun _ _ _ h => h) (Or.inl ⟨by rfl, ?_⟩) ?_ ?_
  rotate_left
  · intro w'
    go_simp
    with_reducible rfl
  rotate_left
  · simp only [Act.put, List.setIfInBounds_toArray, List.set_cons_zero, List.set_cons_succ, i64_w, i32_w]
    rfl
  refine take_ (i := 4) (N := some 79) (v := ?_) (a' := ?_) #[true, true, true, true, true, false, false, false, false, false, false, false] rfl rfl (take_ofW HT_.out HW_.out (by kernel_rfl)) (fun _ _ _ h => h) (Or.inl ⟨by rfl, ?_⟩) hHeld ?_ ?_
  rotate_left
  · intro w' HS_
    obtain ⟨s0, s1⟩ := HS_
    go_simp
    with_reducible rfl
  rotate_left
  · simp only [Act.put, List.setIfInBounds_toArray, List.set_cons_zero, List.set_cons_succ, i64_w, i32_w]
    rfl
  refine one_ (i := 5) (N := some 80) #[true, true, true, true, true, true, false, false, false, false, false, false] rfl rfl (one_of HT_.out (by kernel_rfl)) (by decide) (fun K hK => ?_)
  refine goes_ Try.func44 (by kernel_rfl) rfl #[.int .i64 e] (by rfl) rfl rfl (by simp only [List.map_toArray, List.map_cons, List.map_nil]; rfl) ?_
  refine (chordmaillaw24_num.calls e e _ rfl).mono ?_
  rintro r w5 ⟨rfl, hd⟩
  refine ⟨_, rfl, ?_⟩
  have hb3 := hb2.trans (hd.below.mono hb2.size)
  have hk5 : w5.cell? ⟨g5, 1, none⟩ = some (.int .i64 ac) ∧ w5.cell? ⟨g5, 2, none⟩ = some (.int .i64 e) := by
    obtain ⟨nq, rfl⟩ := hd.out
    exact hHeld
  refine hK.out _ _ hk5 (fun hHeld => ?_)
  clear hK K hd hk5
  refine norm_ (a' := ?_) ?_ ?_
  rotate_left
  · show Act.put _ (some 80) _ = _
    simp only [Act.put, List.setIfInBounds_toArray, List.set_cons_zero, List.set_cons_succ, i64_w, i32_w]
    rfl
  refine last_ (i := 6) (N := some 81) #[true, true, true, true, true, true, true, false, false, false, false, false] rfl rfl (one_of HT_.out (by kernel_rfl)) (by decide) (fun K hK => ?_)
  refine goes_ Try.func45 (by kernel_rfl) rfl #[.pointer P2, .int .i64 ac, .int .i64 e] (by rfl) rfl rfl (by simp only [List.map_toArray, List.map_cons, List.map_nil]; rfl) ?_
  refine (H45.out w2 w5 hM hb3).mono ?_
  rintro r w6 ⟨rfl, G', ts', hBo', hlen', hC', hG'⟩
  refine ⟨_, rfl, ?_⟩
  refine hK.out _ _ ?_
  clear hK K
  refine norm_ (a' := ?_) ?_ ?_
  rotate_left
  · show Act.put _ (some 81) _ = _
    simp only [Act.put, List.setIfInBounds_toArray, List.set_cons_zero, List.set_cons_succ, i64_w, i32_w]
    rfl
  refine pure_ (i := 7) (N := some 74) (v := ?_) (a' := ?_) #[true, true, true, true, true, true, true, true, false, false, false, false] rfl rfl (any_of HT_.out (by kernel_rfl)) (fun _ _ _ h => h) (Or.inl ⟨by rfl, ?_⟩) ?_ ?_
  rotate_left
  · intro w'
    go_simp
    with_reducible rfl
  rotate_left
  · simp only [Act.put, List.setIfInBounds_toArray, List.set_cons_zero, List.set_cons_succ, i64_w, i32_w]
    rfl
  refine pure_ (i := 8) (N := some 82) (v := ?_) (a' := ?_) #[true, true, true, true, true, true, true, true, true, false, false, false] rfl rfl (any_of HT_.out (by kernel_rfl)) (fun _ _ _ h => h) (Or.inl ⟨by rfl, ?_⟩) ?_ ?_
  rotate_left
  · intro w'
    go_simp
    with_reducible rfl
  rotate_left
  · simp only [Act.put, List.setIfInBounds_toArray, List.set_cons_zero, List.set_cons_succ, i64_w, i32_w]
    rfl
  refine pure_ (i := 9) (N := some 83) (v := ?_) (a' := ?_) #[true, true, true, true, true, true, true, true, true, true, false, false] rfl rfl (any_of HT_.out (by kernel_rfl)) (fun _ _ _ h => h) (Or.inl ⟨by rfl, ?_⟩) ?_ ?_
  rotate_left
  · intro w'
    go_simp
    with_reducible rfl
  rotate_left
  · simp only [Act.put, List.setIfInBounds_toArray, List.set_cons_zero, List.set_cons_succ, i64_w, i32_w]
    rfl
  refine pure_ (i := 10) (N := some 15) (v := ?_) (a' := ?_) #[true, true, true, true, true, true, true, true, true, true, true, false] rfl rfl (any_of HT_.out (by kernel_rfl)) (fun _ _ _ h => h) (Or.inl ⟨by rfl, ?_⟩) ?_ ?_
  rotate_left
  · intro w'
    go_simp
    with_reducible rfl
  rotate_left
  · simp only [Act.put, List.setIfInBounds_toArray, List.set_cons_zero, List.set_cons_succ, i64_w, i32_w]
    rfl
  refine pure_ (i := 11) (N := some 16) (v := ?_) (a' := ?_) #[true, true, true, true, true, true, true, true, true, true, true, true] rfl rfl (any_of HT_.out (by kernel_rfl)) (fun _ _ _ h => h) (Or.inl ⟨by rfl, ?_⟩) ?_ ?_
  rotate_left
  · intro w'
    go_simp
    with_reducible rfl
  rotate_left
  · simp only [Act.put, List.setIfInBounds_toArray, List.set_cons_zero, List.set_cons_succ, i64_w, i32_w]
    rfl
  refine done_ (done_of HT_.out (by kernel_rfl)) ?_
  have q1 : (k == k) = true := by simp
  have q2 : (z == z) = true := by simp
  go_wp2_with fail
  refine (num_any z w6).mono ?_
  rintro r w7 ⟨rfl, hb7⟩
  go_wp2_with fail
  go_ret
  have hs1 := hb.size
  have hs2 := hC.size
  have hs3 := hb3.size
  refine ⟨rfl, G', ts', n, hBo'.below hb7, hlen', Int.le_refl _, by omega, ?_, ?_⟩
  · exact (((Chg.of_below hb G).trans hC).trans (Chg.of_below hb3 G)).trans (hC'.trans (Chg.of_below hb7 G))
  · intro x hx
    rcases hG' x hx with h | h
    · exact .inl h
    · exact .inr (by omega)

theorem add_block (ad : Addr) (k : Nat) : (ad.add k).block = ad.block := by unfold Addr.add; split <;> rfl
theorem C_chg {w W' : World} {A : Option Addr} {n : Nat} {xs : List Int} {G : List Nat} (h : Kd.C (Kd.int .i64) w A n xs) (hc : Chg G w W') (ho : n ≠ 0 → Off G A) : Kd.C (Kd.int .i64) W' A n xs :=
  ⟨h.1, h.2.1, fun hn => by
    obtain ⟨ad, e, hh⟩ := h.2.2 hn
    refine ⟨ad, e, fun j p hp => ?_⟩
    obtain ⟨c, h1, h2, h3⟩ := hh j p hp
    refine ⟨c, h1, h2, fun i u hu => ?_⟩
    have h4 := h3 i u hu
    exact (World.cell?_of_block (hc.block _ (World.block_lt_of_cell? w _ h4) (by rw [add_block]; exact ho (by omega) ad e))).trans h4⟩

set_option maxRecDepth 20000 in
set_option maxHeartbeats 2000000 in
theorem does_fire {P1 P2 : Option Addr} {G : List Nat} {ts : List S134} {n : Int} (w : World) (h : Bo w P1 P2 G ts n) (ac e : Int) (A2 : Option Addr) (c2 : Nat) (ids : List Int) (hI : Kd.C (Kd.int .i64) w A2 ids.length ids) (hc2 : ids.length ≤ c2) (hl : ids.length * 8 ≤ 140737488355328) (hn : 0 ≤ n ∧ n ≤ 4611686018427387000) (o2 : ids.length ≠ 0 → Off G A2) :
    Calls Try.prog 11 #[.pointer P1, .pointer P2, .agg #[.bool true, .int .i64 ac, .int .i64 e, .slice A2 ids.length c2]] w (DPost w P1 P2 G ts n) := by
  have HBo := Lib.hid h
  have HI := Lib.hid hI
  have HO2 := Lib.hid o2
  have HN := Lib.hid hn
  clear h hI o2 hn
  go_enter Try.func11, Try.ntmps11
  go_upto_region 1 with fail
  have h5 := Blk.new w 33 #[.bool true, .int .i64 ac, .int .i64 e, .slice A2 ids.length c2]
  have hb := (Below.refl w.heap.size w).alloc (Nat.le_refl _) (.cells #[.bool true, .int .i64 ac, .int .i64 e, .slice A2 ids.length c2] 33)
  obtain ⟨g5, hg⟩ : ∃ g5 : Nat, g5 = w.heap.size := ⟨_, rfl⟩
  rw [← hg] at h5
  have hgo : (Value.pointer (some ⟨w.heap.size, 0, none⟩)) = .pointer (some ⟨g5, 0, none⟩) := by rw [hg]
  rw [hgo]
  generalize w.alloc (.cells #[.bool true, .int .i64 ac, .int .i64 e, .slice A2 ids.length c2] 33) = w1 at h5 hb ⊢
  have hlt := HBo.out.lt
  have hg5G : g5 ∉ G := fun hx => by have := hlt g5 hx; omega
  have z0 := h5.cell 0
  have z1 := h5.cell 1
  have z3 := h5.cell 3
  simp at z0 z1 z3
  have z3' := (h5.alloc (.cells #[] 3)).cell 3
  simp at z3'
  have HE := Lib.hid (empty3 (base := w1.heap.size) (Blk.new w1 3 #[]) (Nat.le_refl _))
  have HC1 := Lib.hid (Kd.C_alloc (Kd.C_below HI.out hb) (.cells #[] 3))
  have HB1 := Lib.hid ((Below.refl w1.heap.size w1).alloc (Nat.le_refl _) (.cells #[] 3))
  clear hgo hg
  go_upto_region 3 with (first | ((with_reducible refine gate_builtin (b := .append) (xs := #[.tmp 19, .tmp 21]) rfl ?_); at_builtin; refine Kd.R_append_rows (Kd.int .i64) (w0 := w1) w1.heap.size rfl (.tmp 19) (.tmp 21) 31 3 (.int .i64 0) 8 rfl Try.underlying31 info3 rfl (by decide) (by omega) (.slice (some ⟨w1.heap.size, 0, none⟩) 0 0) ([] : List Int) ids A2 ids.length c2 (fun _ => True) (fun _ => False) rfl rfl HE.out HC1.out (fun x cs hc => hc) (fun _ hk => hk.elim) (fun _ _ => trivial) HB1.out HB1.out.size (by simpa using hl) ?_; intro v1 w2 hR2 hb2 hg2 hat2) | fail)
  obtain ⟨A3, c3, rfl⟩ := Kd.R_slice hR2
  rw [List.nil_append] at hR2
  rw [List.nil_append]
  have h3c := (Kd.R_reads' hR2).2.1
  have hG1 : ∀ x ∈ G, x < w1.heap.size := fun x hx => Nat.lt_of_lt_of_le (hlt x hx) hb.size
  have o3 : Off G A3 := by
    obtain ⟨inner, ho⟩ := Kd.R_own hR2
    intro ad e hx
    rcases ho.2 with ⟨hv, _⟩ | ⟨g, cap, cur, hv, hg, _⟩
    · injection hv with h1
      rw [e] at h1
      cases h1
    · injection hv with h1
      rw [e] at h1
      obtain rfl := Option.some.inj h1
      have := hG1 _ hx
      simp at this
      omega
  have hb12 := hb.trans (hb2.mono hb.size)
  have HI2 : Hid (∀ W', Chg G w2 W' → Kd.C (Kd.int .i64) W' A2 ids.length ids) := Lib.hid (fun W' hc => C_chg (Kd.C_below HI.out hb12) hc HO2.out)
  obtain ⟨k, z, Mid, h14, h43⟩ := bo_fire ((HBo.out.below hb).below hb2) ac A3 A2 c3 c2 ids (by omega) HN.out h3c hc2 (Kd.R_reads' hR2).2.2 (fun _ => o3) HI2.out HO2.out
  have H14 := Lib.hid h14
  have H43 := Lib.hid h43
  have h5b := h5.below hb2 h5.lt
  have y1 := h5b.cell 1
  have y3 := h5b.cell 3
  simp at y1 y3
  have HR2 := Lib.hid hR2
  clear h14 h43 z0 z1 z3 z3' HE HC1 HB1 hR2 hg2 hat2
  go_wp2_with fail
  refine H14.out.mono ?_
  rintro r w3 ⟨rfl, hM, hC⟩
  have h5c := h5b.chg hC hg5G
  have x1 := h5c.cell 1
  have x3 := h5c.cell 3
  simp at x1 x3
  clear y1 y3
  go_wp2_with fail
  refine (H43.out w3 hM hC).mono ?_
  rintro r w4 ⟨rfl, G', ts', n', hBo', hlen', hn1, hn2, hC', hG'⟩
  have h5d := h5c.chg hC' hg5G
  clear x1 x3
  have q1 : (k == k) = true := by simp
  have q2 : (z == z) = true := by simp
  go_wp2_with fail
  have HI4 := Lib.hid (C_chg (HI2.out w3 hC) hC' HO2.out)
  have HI3 := Lib.hid (C_chg (C_chg (Kd.R_reads' HR2.out).2.2 hC (fun _ => o3)) hC' (fun _ => o3))
  go_loopw [12] (fun i wr => ∃ k : Nat, k ≤ ids.length ∧ i = .int .i64 k ∧ Below w4.heap.size w4 wr) (fun i _ => ids.length - (intOf i).toNat)
  case atStart => exact ⟨0, Nat.zero_le _, rfl, Below.refl _ _⟩
  case round =>
    obtain ⟨i, hi, rfl, hbr⟩ := hrel
    by_cases hlt : i < ids.length
    · have b0 : decide ((i : Int) < (ids.length : Int)) = true := by simp; omega
      obtain ⟨a2, hA2, x2w⟩ := int_at HI4.out i hlt
      obtain ⟨a3, hA3, x3w⟩ := int_at HI3.out i hlt
      subst hA2 hA3
      have x2 := (World.cell?_of_block (hbr.block _ (World.block_lt_of_cell? w4 _ x2w))).trans x2w
      have x3 := (World.cell?_of_block (hbr.block _ (World.block_lt_of_cell? w4 _ x3w))).trans x3w
      have x5 := (h5d.below hbr h5d.lt).cell 3
      simp at x5
      have b1 : (ids.getD i 0 == ids.getD i 0) = true := by simp
      have hki : (i : Int) < (ids.length : Int) := by omega
      generalize ids.getD i 0 = id at x2 x3 b1
      have HWN := Lib.hid (w64n i (by omega))
      clear x2w x3w
      go_upto_region 8 with fail
      go_quiet (fail)
      go_wp2_with fail
      refine ⟨⟨i + 1, by omega, by rw [Int.natCast_add]; rfl, pw_below_drewN hbr nq⟩, ?_⟩
      simp only [intOf, Int.toNat_natCast]
      omega
    · have b0 : decide ((i : Int) < (ids.length : Int)) = false := by simp; omega
      go_wp2_with fail
      refine (num_any z wr).mono ?_
      rintro r w7 ⟨rfl, hb7⟩
      go_wp2_with fail
      go_ret
      have hs1 := hb12.size
      refine ⟨rfl, G', ts', n', (hBo'.below hbr).below hb7, by omega, hn1, hn2, ?_, ?_⟩
      · exact (((Chg.of_below hb12 G).trans hC).trans hC').trans ((Chg.of_below hbr G).trans (Chg.of_below hb7 G))
      · intro x hx
        rcases hG' x hx with h | h
        · exact .inl h
        · exact .inr (by omega)
end Go.Proofs.Ytlbfnnngemonoaa.Fat
