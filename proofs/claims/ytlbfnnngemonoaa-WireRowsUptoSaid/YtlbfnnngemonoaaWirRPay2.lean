/- The document's Reading: Payload, the walk. -/
import Derived.Test.YtlbfnnngemonoaaWirRPay
namespace Go.Proofs.Ytlbfnnngemonoaa.Wir
open Go.RowKit Go.Proofs.Ytlbfnnngemonoaa.PWireReads
open Go.Proofs.Ytlbfnnngemonoaa.Fat (Blk Chg Off)
open Go.Proofs.YtlbfnnngemonoaaW.PrintWords Go.Proofs.YtlbfnnngemonoaaW.PrintLast Go.Proofs.YtlbfnnngemonoaaW.PrintMore
set_option linter.unusedVariables false
set_option linter.unusedSimpArgs false
attribute [local go_sem] run_store_float run_store_complex
section
variable {w0 w : World} {g at0 : Nat} {L : List Int} {bad : Bool}
theorem R_keep {α : Type} {d : Kd α} {e : Nat} {w1 w2 : World} {base : Nat} {v : Value} {xs : List α} (h : d.R e w1 base (fun _ => True) v xs) (hk : KeepBut w1 w2 g none) (hg : g < base) : d.R e w2 base (fun _ => True) v xs :=
  Kd.R_mono (Kd.R_move (Kd.R_bound h) (fun k hk2 => hk.2 k hk2.2.2.1 (by have := hk2.2.1; omega) (by simp))) (fun _ _ => trivial)
theorem RS.grown {w1 w2 : World} {row : Option Nat} (h : RS w0 w w1 g L at0 bad) (hle : w0.heap.size ≤ w.heap.size) (hgr : w1.grownBy w2 row) (hb : Below w.heap.size w1 w2) (hr : ∀ k, row = some k → w.heap.size ≤ k) (hgl : g < w.heap.size) : RS w0 w w2 g L at0 bad :=
  ⟨is_move h.1 (hb.block g hgl), h.2.1.trans (hb.mono hle), h.2.2.trans (KeepBut.of_grown hgr g) (by
    cases row with
    | none => exact .inl rfl
    | some k => exact .inr ⟨k, rfl, hr k rfl⟩)⟩
/-- What the document's Payload leaves. -/
def QPost (w0 w : World) (g : Nat) (L : List Int) (o : Option (List V × Nat)) (at0 : Nat) (e : Ending) (w' : World) : Prop :=
  ∃ (at1 : Nat) (b1 : Bool), RS w0 w w' g L at1 b1 ∧ at1 ≤ L.length ∧ match o with
    | some (vs, n) => (∃ v, e = .returned v ∧ Kd.R kV 50 w' w.heap.size (fun _ => True) v vs) ∧ at1 = at0 + n ∧ b1 = false
    | none => e = .returned (.slice none 0 0) ∧ b1 = true

set_option maxRecDepth 20000 in
set_option maxHeartbeats 2000000 in
theorem rpay_short (hI : IsS62 w0 w g L at0 bad) (hb : Below w0.heap.size w0 w) (hl : L.length ≤ 140737488355328) (ha : at0 ≤ L.length) (h : bad = true ∨ L.length < at0 + 1) :
    Calls Try.prog 22 #[.pointer (some ⟨g, 0, none⟩)] w (QPost w0 w g L none at0) := by
  have HN := Lib.hid (num_bad hI hb 1 h ha hl (by omega))
  have HS := Lib.hid (fun W => rsizes_any none 0 [] W (Kd.C_nil _ _) (by simp) (by simp))
  clear hI hb h
  go_enter Try.func22, Try.ntmps22
  go_wp2_with fail
  refine HN.out.mono ?_
  rintro e w1 ⟨rfl, hR⟩
  obtain ⟨z, zf⟩ := rs_cell hR.1
  go_wp2_with fail
  go_loopw [4, 5] (fun l i wr => l = .slice none 0 0 ∧ i = .int .i64 0 ∧ wr = w1) (fun _ i _ => 0)
  case atStart => exact ⟨rfl, rfl, rfl⟩
  case round =>
    obtain ⟨rfl, rfl, rfl⟩ := hrel
    go_wp2_with fail
    refine (HS.out _).mono ?_
    rintro e w2 ⟨rfl, hb2⟩
    have hR2 := hR.below hb2
    obtain ⟨y, yf⟩ := rs_cell hR2.1
    go_wp2_with fail
    go_ret
    exact ⟨at0, true, hR2, ha, rfl, rfl⟩

set_option maxRecDepth 20000 in
set_option maxHeartbeats 2000000 in
theorem rpay_many (hI : IsS62 w0 w g L at0 false) (hb : Below w0.heap.size w0 w) (hB : By L) (hl : L.length ≤ 140737488355328) (ha : at0 + 1 ≤ L.length) (q : Nat) (hq : (L.drop at0).getD 0 0 = q) (h6 : 6 < q) (h256 : q < 256) :
    Calls Try.prog 22 #[.pointer (some ⟨g, 0, none⟩)] w (QPost w0 w g L none at0) := by
  have hn := num_ok hI hb hB 1 ha (by omega) hl
  have hk1 : num ((L.drop at0).take 1) = (L.drop at0).getD 0 0 := by
    rw [num_take _ 0 (by rw [List.length_drop]; omega)]
    show 0 * 256 + _ = _
    omega
  rw [hk1, hq] at hn
  have HN := Lib.hid hn
  have HS := Lib.hid (fun W => rsizes_any none 0 [] W (Kd.C_nil _ _) (by simp) (by simp))
  have b6 : decide ((q : Int) > 6) = true := by simp; omega
  clear hI hb hk1 hn hq
  go_enter Try.func22, Try.ntmps22
  go_wp2_with fail
  refine HN.out.mono ?_
  rintro e w1 ⟨rfl, hR⟩
  obtain ⟨z, zf⟩ := rs_cell hR.1
  go_upto_region 4 with fail
  have hR := hR.set_2 true
  generalize w1.setCell ⟨g, 2, none⟩ (.bool true) = w2 at hR ⊢
  clear z zf
  obtain ⟨z, zf⟩ := rs_cell hR.1
  go_wp2_with fail
  go_loopw [4, 5] (fun l i wr => l = .slice none 0 0 ∧ i = .int .i64 0 ∧ wr = w2) (fun _ i _ => 0)
  case atStart => exact ⟨rfl, rfl, rfl⟩
  case round =>
    obtain ⟨rfl, rfl, rfl⟩ := hrel
    have b0 : decide (0 < (q : Int)) = true := by simp; omega
    go_wp2_with fail
    refine (HS.out _).mono ?_
    rintro e w3 ⟨rfl, hb2⟩
    have hR2 := hR.below hb2
    obtain ⟨y, yf⟩ := rs_cell hR2.1
    go_wp2_with fail
    go_ret
    exact ⟨at0 + 1, true, hR2, ha, rfl, rfl⟩

/-- A value read in the loop: good, or none. -/
theorem rval_loop (hI : IsS62 w0 w g L at0 false) (hb : Below w0.heap.size w0 w) (hB : By L) (hl : L.length ≤ 140737488355328) (ha : at0 ≤ L.length) :
    Calls Try.prog 21 #[.pointer (some ⟨g, 0, none⟩)] w fun e w' => ∃ (v : V) (at1 : Nat) (b1 : Bool), e = .returned (.agg #[.int .i64 v.k, .int .i64 v.i, .float .f64 v.r, .complex .f64 v.p.1 v.p.2, .string v.s]) ∧ GZ v ∧ RS w0 w w' g L at1 b1 ∧ at1 ≤ L.length ∧
      (b1 = false → at0 ≤ at1 ∧ rdV (L.drop at0) = some (v, at1 - at0)) ∧ (b1 = true → rdV (L.drop at0) = none) := by
  refine (rval_any hI hb hB hl ha).mono ?_
  rintro e w' ⟨at1, b1, hR, hle, h⟩
  cases ho : rdV (L.drop at0) with
  | none =>
    rw [ho] at h
    obtain ⟨rfl, rfl⟩ := h
    exact ⟨zV, at1, true, rfl, .inr rfl, hR, hle, (fun h => by cases h), fun _ => rfl⟩
  | some p =>
    obtain ⟨v, n⟩ := p
    rw [ho] at h
    obtain ⟨rfl, rfl, rfl⟩ := h
    exact ⟨v, at0 + n, false, rfl, .inl (rdV_good _ _ _ ho).1, hR, hle, fun _ => ⟨by omega, by rw [show at0 + n - at0 = n from by omega]⟩, (fun h => by cases h)⟩
set_option maxRecDepth 20000 in
set_option maxHeartbeats 4000000 in
theorem rpay_main (hI : IsS62 w0 w g L at0 false) (hb : Below w0.heap.size w0 w) (hB : By L) (hl : L.length ≤ 140737488355328) (ha : at0 + 1 ≤ L.length) (q : Nat) (hq : (L.drop at0).getD 0 0 = q) (h6 : q ≤ 6) :
    Calls Try.prog 22 #[.pointer (some ⟨g, 0, none⟩)] w (QPost w0 w g L (rdP (L.drop at0)) at0) := by
  have hn := num_ok hI hb hB 1 ha (by omega) hl
  have hk1 : num ((L.drop at0).take 1) = (L.drop at0).getD 0 0 := by
    rw [num_take _ 0 (by rw [List.length_drop]; omega)]
    show 0 * 256 + _ = _
    omega
  rw [hk1, hq] at hn
  have HRP : Hid (rdP (L.drop at0) = match rdN q (L.drop (at0 + 1)) with | none => none | some (vs, n) => if szs vs ≤ 1024 then some (vs, n + 1) else none) := Lib.hid (by
    unfold rdP
    rw [if_neg (by rw [List.length_drop]; omega), hq, if_neg (by omega), Int.toNat_natCast, List.drop_drop]
    rfl)
  have HN := Lib.hid hn
  have HBy := Lib.hid hB
  have hglt : g < w.heap.size := hI.lt
  have hlew := hb.size
  have b6 : decide ((q : Int) > 6) = false := by simp; omega
  obtain ⟨PQ, hPQ⟩ : ∃ PQ, PQ = QPost w0 w g L (rdP (L.drop at0)) at0 := ⟨_, rfl⟩
  rw [← hPQ]
  have HPQ := Lib.hid hPQ
  clear hI hb hk1 hn hq hB hPQ
  go_enter Try.func22, Try.ntmps22
  go_wp2_with fail
  refine HN.out.mono ?_
  rintro e w1 ⟨rfl, hR⟩
  have HR1 := Lib.hid hR
  clear hR
  go_wp2_with fail
  go_loopw [4, 5] (fun u i wr => ∃ (k : Nat) (vs : List V) (at1 : Nat) (b : Bool), k ≤ q ∧ i = .int .i64 k ∧ Hid (vs.length = k) ∧ at1 ≤ L.length ∧ Hid (RS w0 w wr g L at1 b) ∧ Hid (Kd.R kV 50 wr w.heap.size (fun _ => True) u vs) ∧ Hid (∀ v ∈ vs, GZ v) ∧ Hid (b = false → rdN k (L.drop (at0 + 1)) = some (vs, at1 - (at0 + 1)) ∧ at0 + 1 ≤ at1) ∧ Hid (b = true → rdP (L.drop at0) = none)) (fun _ i _ => q - (intOf i).toNat)
  case atStart => exact ⟨0, [], at0 + 1, false, by omega, rfl, Lib.hid rfl, ha, HR1, Lib.hid (Kd.R_nil _ _ _ _ _), Lib.hid (by simp), Lib.hid (fun _ => ⟨by rw [rdN]; simp, by omega⟩), Lib.hid (fun h => by cases h)⟩
  case round =>
    clear HR1
    obtain ⟨k, vs, at1, b, hk, rfl, HVK, hat, HR, HO, HGZ, HBF, HBT⟩ := hrel
    obtain ⟨Av, cv, rfl⟩ := Kd.R_slice HO.out
    obtain ⟨z, zf⟩ := rs_cell HR.out.1
    cases b with
    | true =>
      by_cases hlt : k < q
      · have b0 : decide ((k : Int) < (q : Int)) = true := by simp; omega
        have HS := Lib.hid (fun W (h : Below wr.heap.size wr W) => rsizes_any Av cv vs W (Kd.C_below (Kd.R_reads' HO.out).2.2 h) HGZ.out (by have := HVK.out; omega))
        have HP := HBT.out (by simp)
        by_cases hsz : szsR vs > 1024
        · have hd : decide (szsR vs > 1024) = true := by simpa using hsz
          go_wp2_with fail
          refine (HS.out _ (Below.refl _ _)).mono ?_
          rintro e w3 ⟨rfl, hb2⟩
          have hR2 := HR.out.below hb2
          clear z zf
          obtain ⟨z, zf⟩ := rs_cell hR2.1
          go_wp2_with fail
          first | go_ret | skip
          rw [HPQ.out, HP]
          exact ⟨at1, true, hR2.set_2 true, hat, rfl, rfl⟩
        · have hd : decide (szsR vs > 1024) = false := by simpa using hsz
          go_wp2_with fail
          refine (HS.out _ (Below.refl _ _)).mono ?_
          rintro e w3 ⟨rfl, hb2⟩
          have hR2 := HR.out.below hb2
          clear z zf
          obtain ⟨z, zf⟩ := rs_cell hR2.1
          go_wp2_with fail
          first | go_ret | skip
          rw [HPQ.out, HP]
          exact ⟨at1, true, hR2, hat, rfl, rfl⟩
      · have b0 : decide ((k : Int) < (q : Int)) = false := by simp; omega
        have HS := Lib.hid (fun W (h : Below wr.heap.size wr W) => rsizes_any Av cv vs W (Kd.C_below (Kd.R_reads' HO.out).2.2 h) HGZ.out (by have := HVK.out; omega))
        have HP := HBT.out (by simp)
        by_cases hsz : szsR vs > 1024
        · have hd : decide (szsR vs > 1024) = true := by simpa using hsz
          go_wp2_with fail
          refine (HS.out _ (Below.refl _ _)).mono ?_
          rintro e w3 ⟨rfl, hb2⟩
          have hR2 := HR.out.below hb2
          clear z zf
          obtain ⟨z, zf⟩ := rs_cell hR2.1
          go_wp2_with fail
          first | go_ret | skip
          rw [HPQ.out, HP]
          exact ⟨at1, true, hR2.set_2 true, hat, rfl, rfl⟩
        · have hd : decide (szsR vs > 1024) = false := by simpa using hsz
          go_wp2_with fail
          refine (HS.out _ (Below.refl _ _)).mono ?_
          rintro e w3 ⟨rfl, hb2⟩
          have hR2 := HR.out.below hb2
          clear z zf
          obtain ⟨z, zf⟩ := rs_cell hR2.1
          go_wp2_with fail
          first | go_ret | skip
          rw [HPQ.out, HP]
          exact ⟨at1, true, hR2, hat, rfl, rfl⟩
    | false =>
      by_cases hlt : k < q
      · have b0 : decide ((k : Int) < (q : Int)) = true := by simp; omega
        have HV := Lib.hid (rval_loop HR.out.1 HR.out.2.1 HBy.out hl hat)
        have HWN := Lib.hid (w64n k (by omega))
        go_wp2_with fail
        refine HV.out.mono ?_
        rintro e w2 ⟨v, at2, b2, rfl, hgz, hR2, hat2, hf, ht⟩
        have HO2 := Lib.hid (Kd.R_alloc (R_keep HO.out hR2.2.2 hglt) (.cells #[.int .i64 v.k, .int .i64 v.i, .float .f64 v.r, .complex .f64 v.p.1 v.p.2, .string v.s] 50))
        have hRR := HR.out.trans hR2
        have HR2 := Lib.hid (hRR.alloc (.cells #[.int .i64 v.k, .int .i64 v.i, .float .f64 v.r, .complex .f64 v.p.1 v.p.2, .string v.s] 50))
        have hsz2 : w.heap.size ≤ w2.heap.size := hRR.2.2.1
        have hsz3 : w.heap.size ≤ (w2.alloc (.cells #[.int .i64 v.k, .int .i64 v.i, .float .f64 v.r, .complex .f64 v.p.1 v.p.2, .string v.s] 50)).heap.size := by simp; omega
        have HF2 : Hid (b2 = false → rdN (k + 1) (L.drop (at0 + 1)) = some (vs ++ [v], at2 - (at0 + 1)) ∧ at0 + 1 ≤ at2) := Lib.hid (fun hb => by
          obtain ⟨h1, h2⟩ := HBF.out (by simp)
          obtain ⟨h3, h4⟩ := hf hb
          refine ⟨?_, by omega⟩
          rw [rdN, h1]
          simp only
          rw [List.drop_drop, show at0 + 1 + (at1 - (at0 + 1)) = at1 from by omega, h4]
          simp only
          rw [show at1 - (at0 + 1) + (at2 - at1) = at2 - (at0 + 1) from by omega])
        have HT2 : Hid (b2 = true → rdP (L.drop at0) = none) := Lib.hid (fun hb => by
          obtain ⟨h1, h2⟩ := HBF.out (by simp)
          have h4 := ht hb
          have h5 : rdN (k + 1) (L.drop (at0 + 1)) = none := by
            rw [rdN, h1]
            simp only
            rw [List.drop_drop, show at0 + 1 + (at1 - (at0 + 1)) = at1 from by omega, h4]
          rw [HRP.out, rdN_none h5 q (by omega)])
        have HGZ2 : Hid (∀ u ∈ vs ++ [v], GZ u) := Lib.hid (fun u hu => by
          rcases List.mem_append.1 hu with hu | hu
          · exact HGZ.out u hu
          · obtain rfl : u = v := by simpa using hu
            exact hgz)
        clear hf ht hgz hR2 hRR z zf
        go_wp2_with (first | ((with_reducible refine gate_builtin (b := .append) (xs := #[.tmp 26, .tmp 29]) rfl ?_); at_builtin; refine Kd.R_append_rows kV (w0 := w2.alloc (.cells #[.int .i64 v.k, .int .i64 v.i, .float .f64 v.r, .complex .f64 v.p.1 v.p.2, .string v.s] 50)) w.heap.size rfl (.tmp 26) (.tmp 29) 53 50 (ag zV) 56 rfl Try.underlying53 info50 rfl (by decide) (by omega) (.slice Av vs.length cv) vs [v] (some ⟨w2.heap.size, 0, none⟩) 1 1 (fun _ => True) (fun _ => False) rfl rfl HO2.out (C_oneV w2 v) (fun x cs hc => by rw [kV_open hc]; exact kV_mkM _ _ _ x) (fun _ hk => hk.elim) (fun _ _ => trivial) (Below.refl _ _) hsz3 (by have := HVK.out; omega) ?_; intro v3 w3 hR3 hb3 hg3 hat3) | fail)
        have HO3 := Lib.hid hR3
        have HRR := Lib.hid (HR2.out.grown hlew hg3 hb3 (fun k hk => Kd.R_base HO2.out k hk) hglt)
        clear hR3 hb3 hg3 hat3
        go_wp2_with fail
        go_roundw
        case rel => exact ⟨k + 1, vs ++ [v], at2, b2, by omega, by first | rfl | (rw [HWN.out]; rfl), Lib.hid (by simp [HVK.out]), hat2, HRR, HO3, HGZ2, HF2, HT2⟩
        case measure =>
          first | rw [HWN.out] | skip
          simp [intOf]
          omega
      · obtain rfl : k = q := by omega
        have b0 : decide ((k : Int) < (k : Int)) = false := by simp
        have HS := Lib.hid (rsizes_any Av cv vs wr (Kd.R_reads' HO.out).2.2 HGZ.out (by have := HVK.out; omega))
        obtain ⟨hN, hle1⟩ := HBF.out (by simp)
        have hg := (rdN_good _ _ _ _ hN).1
        have hss := szsR_good vs hg
        have HE : Hid (rdP (L.drop at0) = if szs vs ≤ 1024 then some (vs, at1 - at0) else none) := Lib.hid (by
          rw [HRP.out, hN]
          simp only
          rw [show at1 - (at0 + 1) + 1 = at1 - at0 from by omega])
        clear hN hg
        by_cases hsz : szsR vs > 1024
        · have hd : decide (szsR vs > 1024) = true := by simpa using hsz
          rw [hss] at hsz
          clear hss
          go_wp2_with fail
          refine HS.out.mono ?_
          rintro e w3 ⟨rfl, hb2⟩
          have hR2 := HR.out.below hb2
          clear z zf
          obtain ⟨z, zf⟩ := rs_cell hR2.1
          go_wp2_with fail
          first | go_ret | skip
          rw [HPQ.out, HE.out, if_neg (by omega)]
          exact ⟨at1, true, hR2.set_2 true, hat, rfl, rfl⟩
        · have hd : decide (szsR vs > 1024) = false := by simpa using hsz
          rw [hss] at hsz
          clear hss
          go_wp2_with fail
          refine HS.out.mono ?_
          rintro e w3 ⟨rfl, hb2⟩
          have hR2 := HR.out.below hb2
          clear z zf
          obtain ⟨z, zf⟩ := rs_cell hR2.1
          go_wp2_with fail
          first | go_ret | skip
          rw [HPQ.out, HE.out, if_pos (by omega)]
          exact ⟨at1, false, hR2, hat, ⟨_, rfl, Kd.R_below HO.out hb2⟩, by omega, rfl⟩
theorem rpay_any (hI : IsS62 w0 w g L at0 bad) (hb : Below w0.heap.size w0 w) (hB : By L) (hl : L.length ≤ 140737488355328) (ha : at0 ≤ L.length) :
    Calls Try.prog 22 #[.pointer (some ⟨g, 0, none⟩)] w (QPost w0 w g L (if bad = true then none else rdP (L.drop at0)) at0) := by
  cases bad with
  | true => exact rpay_short hI hb hl ha (.inl rfl)
  | false =>
    show Calls Try.prog 22 #[.pointer (some ⟨g, 0, none⟩)] w (QPost w0 w g L (rdP (L.drop at0)) at0)
    by_cases h1 : L.length < at0 + 1
    · have hr : rdP (L.drop at0) = none := by unfold rdP; rw [if_pos (by rw [List.length_drop]; omega)]
      rw [hr]
      exact rpay_short hI hb hl ha (.inr h1)
    · have hq := (hB.drop at0).at 0
      have e : (L.drop at0).getD 0 0 = (((L.drop at0).getD 0 0).toNat : Int) := by omega
      by_cases h6 : 6 < (L.drop at0).getD 0 0
      · have hr : rdP (L.drop at0) = none := by unfold rdP; rw [if_neg (by rw [List.length_drop]; omega), if_pos h6]
        rw [hr]
        exact rpay_many hI hb hB hl (by omega) _ e (by omega) (by omega)
      · exact rpay_main hI hb hB hl (by omega) _ e (by omega)
end
end Go.Proofs.Ytlbfnnngemonoaa.Wir
