/- wire.light, wire.ReadPayload. -/
import Derived.Test.YtlbfnnngemonoaaWirReadV
namespace Go.Proofs.Ytlbfnnngemonoaa.Wir
open Go.RowKit Go.Proofs.Ytlbfnnngemonoaa.PWireReads
open Go.Proofs.Ytlbfnnngemonoaa.Fat (Blk Chg Off)
open Go.Proofs.YtlbfnnngemonoaaW.PrintWords Go.Proofs.YtlbfnnngemonoaaW.PrintLast Go.Proofs.YtlbfnnngemonoaaW.PrintMore
set_option linter.unusedVariables false
set_option linter.unusedSimpArgs false
attribute [local go_sem] run_store_float run_store_complex

def szs : List V → Int
  | [] => 0
  | v :: vs => szOf v + szs vs
theorem szs_append (a b : List V) : szs (a ++ b) = szs a + szs b := by
  induction a with
  | nil => simp [szs]
  | cons v vs ih => simp [szs, ih]; omega
theorem szOf_bound {v : V} (h : Good v) : 0 ≤ szOf v ∧ szOf v ≤ 256 := by
  rcases h with ⟨i, rfl⟩ | ⟨x, _, rfl⟩ | ⟨x, y, _, _, rfl⟩ | ⟨s, h, rfl⟩
  · exact ⟨by simp [szOf, vI], by simp [szOf, vI]⟩
  · exact ⟨by simp [szOf, vR], by simp [szOf, vR]⟩
  · exact ⟨by simp [szOf, vC], by simp [szOf, vC]⟩
  · simp only [szOf, vT, if_true]; omega
theorem szs_bound : ∀ (vs : List V), (∀ v ∈ vs, Good v) → 0 ≤ szs vs ∧ szs vs ≤ 256 * vs.length
  | [], _ => by simp [szs]
  | v :: vs, h => by
    have h1 := szOf_bound (h v (by simp))
    have h2 := szs_bound vs (fun u hu => h u (by simp [hu]))
    simp only [szs, List.length_cons]
    omega
theorem szs_take (vs : List V) (i : Nat) (hi : i < vs.length) : szs (vs.take (i + 1)) = szs (vs.take i) + szOf vs[i] := by
  rw [List.take_add_one, List.getElem?_eq_getElem hi, szs_append]
  simp [szs]
theorem at_V {w : World} {A : Option Addr} {vs : List V} (h : Kd.C kV w A vs.length vs) (i : Nat) (hi : i < vs.length) :
    ∃ ad, A = some ad ∧ w.cell? (ad.add (i * 5)) = some (.int .i64 vs[i].k) ∧ w.cell? ⟨(ad.add (i * 5)).block, (ad.add (i * 5)).off + 1, none⟩ = some (.int .i64 vs[i].i) ∧ w.cell? ⟨(ad.add (i * 5)).block, (ad.add (i * 5)).off + 2, none⟩ = some (.float .f64 vs[i].r) ∧
      w.cell? ⟨(ad.add (i * 5)).block, (ad.add (i * 5)).off + 3, none⟩ = some (.complex .f64 vs[i].p.1 vs[i].p.2) ∧ w.cell? ⟨(ad.add (i * 5)).block, (ad.add (i * 5)).off + 4, none⟩ = some (.string vs[i].s) := by
  obtain ⟨ad, c, e, _, hK, hc0⟩ := Kd.C_get h zV i (by omega) (by omega)
  have er : vs.getD ((i : Nat) : Int).toNat zV = vs[i] := by simp [List.getD, hi]
  rw [er] at hK
  have hc : ∀ j u, c[j]? = some u → w.cell? (ad.add (i * 5 + j)) = some u := hc0
  obtain rfl := kV_open hK
  exact ⟨ad, e, hc 0 _ rfl, by rw [← add_field _ _ 1 (by omega)]; exact hc 1 _ rfl, by rw [← add_field _ _ 2 (by omega)]; exact hc 2 _ rfl, by rw [← add_field _ _ 3 (by omega)]; exact hc 3 _ rfl, by rw [← add_field _ _ 4 (by omega)]; exact hc 4 _ rfl⟩

set_option maxRecDepth 20000 in
set_option maxHeartbeats 1000000 in
theorem light_any (A : Option Addr) (c : Nat) (vs : List V) (w : World) (hC : Kd.C kV w A vs.length vs) (hc : vs.length ≤ c) (hG : ∀ v ∈ vs, Good v) (h6 : vs.length ≤ 4096) :
    Calls Try.prog 55 #[.slice A vs.length c] w fun e w' => e = .returned (.bool (decide (szs vs ≤ 1024))) ∧ Below w.heap.size w w' := by
  have HC := Lib.hid hC
  have HG := Lib.hid hG
  clear hC hG
  go_enter Try.func55, Try.ntmps55
  go_wp2_with fail
  go_loopw [3, 8] (fun s i wr => ∃ k : Nat, k ≤ vs.length ∧ i = .int .i64 k ∧ s = .int .i64 (szs (vs.take k)) ∧ Below w.heap.size w wr) (fun _ i _ => vs.length - (intOf i).toNat)
  case atStart => exact ⟨0, by omega, rfl, rfl, Below.refl _ _⟩
  case round =>
    obtain ⟨k, hk, rfl, rfl, hb⟩ := hrel
    by_cases hlt : k < vs.length
    · have b0 : decide ((k : Int) < (vs.length : Int)) = true := by simp; omega
      obtain ⟨ad, hA, x0, x1, x2, x3, x4⟩ := at_V (Kd.C_below HC.out hb) k hlt
      subst hA
      have hGk := HG.out vs[k] (List.getElem_mem hlt)
      have hbd := szs_bound (vs.take k) (fun u hu => HG.out u (List.mem_of_mem_take hu))
      have hsb := szOf_bound hGk
      have hlen : (vs.take k).length = k := by rw [List.length_take]; omega
      rw [hlen] at hbd
      have HS := Lib.hid (szs_take vs k hlt)
      generalize szs (vs.take k) = s at hbd HS ⊢
      generalize vs[k] = v at x0 x1 x2 x3 x4 hGk hsb HS
      have HSZ := Lib.hid (fun W => size_any v hGk W)
      have HW : Hid (wrap64 (s + szOf v) = s + szOf v) := Lib.hid (by unfold wrap64; omega)
      have HWN := Lib.hid (w64n k (by omega))
      clear hGk hsb hbd
      go_wp2_with fail
      refine (HSZ.out _).mono ?_
      rintro e w1 ⟨rfl, hb1⟩
      have hb2 := (below_alloc hb _).trans (hb1.mono (below_alloc hb _).size)
      clear hb1 x0 x1 x2 x3 x4
      go_wp2_with fail
      go_roundw
      case rel => exact ⟨k + 1, by omega, by first | rfl | (rw [HWN.out]; rfl), by rw [HW.out, HS.out], hb2⟩
      case measure =>
        first | rw [HWN.out] | skip
        simp [intOf]
        omega
    · obtain rfl : k = vs.length := by omega
      rw [List.take_length]
      go_wp2_with fail
      go_ret
      exact ⟨by simp, hb⟩

/-- k values, one behind the other. -/
def rdN : Nat → List Int → Option (List V × Nat)
  | 0, _ => some ([], 0)
  | k + 1, l => match rdN k l with
    | none => none
    | some (vs, n) => match rdV (l.drop n) with
      | none => none
      | some (v, m) => some (vs ++ [v], n + m)
theorem rdN_none {k : Nat} {l : List Int} (h : rdN k l = none) : ∀ j, k ≤ j → rdN j l = none := by
  intro j hj
  induction j with
  | zero => obtain rfl : k = 0 := by omega
            exact h
  | succ j ih =>
    by_cases e : k = j + 1
    · rw [← e]; exact h
    · rw [rdN, ih (by omega)]
theorem rdN_good : ∀ (k : Nat) (l : List Int) (vs : List V) (n : Nat), rdN k l = some (vs, n) → (∀ v ∈ vs, Good v) ∧ vs.length = k ∧ n ≤ l.length
  | 0, l, vs, n, h => by
    simp only [rdN, Option.some.injEq, Prod.mk.injEq] at h
    obtain ⟨rfl, rfl⟩ := h
    simp
  | k + 1, l, vs, n, h => by
    rw [rdN] at h
    cases h1 : rdN k l with
    | none => rw [h1] at h; cases h
    | some p =>
      obtain ⟨us, m⟩ := p
      rw [h1] at h
      obtain ⟨g1, g2, g3⟩ := rdN_good k l us m h1
      simp only at h
      cases h2 : rdV (l.drop m) with
      | none => rw [h2] at h; cases h
      | some q =>
        obtain ⟨v, j⟩ := q
        rw [h2] at h
        simp only [Option.some.injEq, Prod.mk.injEq] at h
        obtain ⟨rfl, rfl⟩ := h
        obtain ⟨e1, e2, e3⟩ := rdV_good _ _ _ h2
        rw [List.length_drop] at e3
        refine ⟨?_, by simp [g2], by omega⟩
        intro u hu
        rcases List.mem_append.1 hu with hu | hu
        · exact g1 u hu
        · obtain rfl : u = v := by simpa using hu
          exact e1
def rdP (l : List Int) : Option (List V × Nat) :=
  if l.length = 0 then none else if 6 < l.getD 0 0 then none else
    match rdN (l.getD 0 0).toNat (l.drop 1) with
    | none => none
    | some (vs, n) => if szs vs ≤ 1024 then some (vs, n + 1) else none
theorem rdP_good (l : List Int) (vs : List V) (n : Nat) (h : rdP l = some (vs, n)) : (∀ v ∈ vs, Good v) ∧ vs.length ≤ 6 ∧ 1 ≤ n ∧ n ≤ l.length := by
  unfold rdP at h
  split at h
  · cases h
  split at h
  · cases h
  cases h1 : rdN (l.getD 0 0).toNat (l.drop 1) with
  | none => rw [h1] at h; cases h
  | some p =>
    obtain ⟨us, m⟩ := p
    rw [h1] at h
    simp only at h
    split at h
    · simp only [Option.some.injEq, Prod.mk.injEq] at h
      obtain ⟨rfl, rfl⟩ := h
      obtain ⟨g1, g2, g3⟩ := rdN_good _ _ _ _ h1
      rw [List.length_drop] at g3
      exact ⟨g1, by omega, by omega, by omega⟩
    · cases h
/-- What ReadPayload leaves. -/
def PPost (w : World) (o : Option (List V × Nat)) (e : Ending) (w' : World) : Prop :=
  Below w.heap.size w w' ∧ match o with
    | some (vs, n) => ∃ v, e = .returned (.tuple #[v, .int .i64 n, .int .i64 0]) ∧ Kd.R kV 50 w' w.heap.size (fun _ => True) v vs
    | none => e = .returned (.tuple #[.slice none 0 0, .int .i64 0, .int .i64 110])
theorem C_oneV (w : World) (v : V) : Kd.C kV (w.alloc (.cells #[.int .i64 v.k, .int .i64 v.i, .float .f64 v.r, .complex .f64 v.p.1 v.p.2, .string v.s] 50)) (some ⟨w.heap.size, 0, none⟩) 1 [v] := by
  refine ⟨rfl, by simp [maxLen], fun _ => ⟨_, rfl, fun j p hj => ?_⟩⟩
  obtain ⟨rfl, rfl⟩ : j = 0 ∧ p = v := by
    rcases j with _ | j
    · simp at hj; exact ⟨rfl, hj.symm⟩
    · simp at hj
  have hB := Blk.new w 50 #[.int .i64 p.k, .int .i64 p.i, .float .f64 p.r, .complex .f64 p.p.1 p.p.2, .string p.s]
  refine ⟨[.int .i64 p.k, .int .i64 p.i, .float .f64 p.r, .complex .f64 p.p.1 p.p.2, .string p.s], rfl, ⟨[_], [_, _, _, _], rfl, rfl, ⟨[_], [_, _, _], rfl, rfl, ⟨[_], [_, _], rfl, rfl, ⟨[_], [_], rfl, rfl, rfl⟩⟩⟩⟩, fun i u hu => ?_⟩
  have e : (⟨w.heap.size, 0, none⟩ : Addr).add (0 * kV.sz + i) = ⟨w.heap.size, i, none⟩ := by
    rw [Nat.zero_mul, Nat.zero_add]
    unfold Addr.add
    split
    · rename_i h; rw [h]
    · simp
  rw [e, hB.cell]
  show (List.toArray [Value.int .i64 p.k, .int .i64 p.i, .float .f64 p.r, .complex .f64 p.p.1 p.p.2, .string p.s])[i]? = _
  rw [List.getElem?_toArray]
  exact hu

set_option maxRecDepth 20000 in
set_option maxHeartbeats 2000000 in
theorem readP_any (A : Option Addr) (c : Nat) (l : List Int) (w : World) (hC : Kd.C (Kd.int .u8) w A l.length l) (hc : l.length ≤ c) (hB : By l) (hl : l.length ≤ 140737488355328) :
    Calls Try.prog 19 #[.slice A l.length c] w (PPost w (rdP l)) := by
  by_cases h0 : l.length = 0
  · have hr : rdP l = none := by unfold rdP; rw [if_pos h0]
    rw [hr]
    have b0 : ((l.length : Int) == 0) = true := by rw [h0]; rfl
    clear hr hC hB
    generalize l.length = n at b0 ⊢
    go_enter Try.func19, Try.ntmps19
    go_wp2_with fail
    go_ret3
    exact ⟨Below.refl _ _, rfl⟩
  · have b0 : ((l.length : Int) == 0) = false := beq_eq_false_iff_ne.2 (by omega)
    obtain ⟨ad, hA, x0⟩ := byte_at hC 0 (by omega)
    rw [show ad.add 0 = ad from by simp [Addr.add]] at x0
    subst hA
    have hb0 := hB.at 0
    by_cases h6 : 6 < l.getD 0 0
    · have hr : rdP l = none := by unfold rdP; rw [if_neg h0, if_pos h6]
      rw [hr]
      have b6 : decide (l.getD 0 0 > 6) = true := by simpa using h6
      generalize l.getD 0 0 = q at x0 b6
      clear hr hC hB
      go_enter Try.func19, Try.ntmps19
      go_wp2_with fail
      go_ret3
      exact ⟨Below.refl _ _, rfl⟩
    · have b6 : decide (l.getD 0 0 > 6) = false := by simpa using h6
      have hr : rdP l = match rdN (l.getD 0 0).toNat (l.drop 1) with | none => none | some (vs, n) => if szs vs ≤ 1024 then some (vs, n + 1) else none := by unfold rdP; rw [if_neg h0, if_neg h6]
      obtain ⟨q, hq⟩ : ∃ q : Nat, l.getD 0 0 = q := ⟨(l.getD 0 0).toNat, by omega⟩
      rw [hq, Int.toNat_natCast] at hr
      rw [hq] at x0 b6 h6
      have hq6 : q ≤ 6 := by omega
      have HC := Lib.hid hC
      have HBy := Lib.hid hB
      have HR := Lib.hid hr
      have HX := Lib.hid x0
      clear hC hB hr hb0 hq h6
      go_enter Try.func19, Try.ntmps19
      go_wp2_with fail
      clear x0
      go_loopw [5, 6, 22] (fun u a i wr => ∃ (k t : Nat) (vs : List V), k ≤ q ∧ i = .int .u8 k ∧ a = .int .i64 t ∧ 1 ≤ t ∧ t ≤ l.length ∧ Hid (rdN k (l.drop 1) = some (vs, t - 1)) ∧ Hid (Kd.R kV 50 wr w.heap.size (fun _ => True) u vs) ∧ Hid (Below w.heap.size w wr)) (fun _ _ i _ => q - (intOf i).toNat)
      case atStart => exact ⟨0, 1, [], by omega, rfl, rfl, by omega, by omega, Lib.hid rfl, Lib.hid (Kd.R_nil _ _ _ _ _), Lib.hid (Below.refl _ _)⟩
      case round =>
        obtain ⟨k, t, vs, hk, rfl, rfl, ht1, ht, HN, HO, HB⟩ := hrel
        obtain ⟨Av, cv, rfl⟩ := Kd.R_slice HO.out
        obtain ⟨hgv, hvk, _⟩ := rdN_good _ _ _ _ HN.out
        have HVK := Lib.hid hvk
        clear hvk
        by_cases hlt : k < q
        · have b1 : decide ((k : Int) < (q : Int)) = true := by simp; omega
          obtain ⟨A1, c1, hcut, hc1, hC1⟩ := cutBy (some ad) c l wr (Kd.C_below HC.out HB.out) hc t ht
          have HV := Lib.hid (readV_any A1 c1 (l.drop t) wr hC1 hc1 (HBy.out.drop t))
          have HD : Hid (rdN (k + 1) (l.drop 1) = match rdV (l.drop t) with | none => none | some (v, m) => some (vs ++ [v], t - 1 + m)) := Lib.hid (by
            rw [rdN, HN.out]
            simp only
            rw [List.drop_drop, show 1 + (t - 1) = t from by omega])
          have hgood := rdV_good (l.drop t)
          rw [List.length_drop] at hgood
          clear hC1 hgv
          generalize (l.drop t).length = m1 at hcut HV hc1
          generalize rdV (l.drop t) = o at HV HD hgood
          cases o with
          | none =>
            have HE : Hid (rdP l = none) := Lib.hid (by
              rw [HR.out, rdN_none HD.out q (by omega)])
            have hre : resV none = .tuple #[.agg #[.int .i64 0, .int .i64 0, .float .f64 0, .complex .f64 0 0, .string { data := #[] }], .int .i64 0, .int .i64 110] := rfl
            rw [hre] at HV
            clear HD hgood hre
            go_wp2_with fail
            refine HV.out.mono ?_
            rintro e w1 ⟨rfl, hb1⟩
            go_wp2_with fail
            go_ret3
            rw [HE.out]
            exact ⟨below_alloc (HB.out.trans (hb1.mono HB.out.size)) _, rfl⟩
          | some vm =>
            obtain ⟨v, m⟩ := vm
            obtain ⟨hv, hm3, hmt⟩ := hgood v m rfl
            have hre : resV (some (v, m)) = .tuple #[.agg #[.int .i64 v.k, .int .i64 v.i, .float .f64 v.r, .complex .f64 v.p.1 v.p.2, .string v.s], .int .i64 m, .int .i64 0] := rfl
            rw [hre] at HV
            clear hre hgood
            have HWN : Hid (IntKind.u8.wrap ((k : Int) + 1) = ((k + 1 : Nat) : Int)) := Lib.hid (by rw [IntKind.wrap_u8]; omega)
            have HWT : Hid (wrap64 ((t : Int) + (m : Int)) = ((t + m : Nat) : Int)) := Lib.hid (by unfold wrap64; omega)
            go_wp2_with fail
            refine HV.out.mono ?_
            rintro e w1 ⟨rfl, hb1⟩
            have HO1 := Lib.hid (Kd.R_alloc (Kd.R_below HO.out hb1) (.cells #[.int .i64 v.k, .int .i64 v.i, .float .f64 v.r, .complex .f64 v.p.1 v.p.2, .string v.s] 50))
            have HB1 := Lib.hid (below_alloc (HB.out.trans (hb1.mono HB.out.size)) (.cells #[.int .i64 v.k, .int .i64 v.i, .float .f64 v.r, .complex .f64 v.p.1 v.p.2, .string v.s] 50))
            have b7 := Blk.new w1 50 #[.int .i64 v.k, .int .i64 v.i, .float .f64 v.r, .complex .f64 v.p.1 v.p.2, .string v.s]
            have y0 : (w1.alloc (.cells #[.int .i64 v.k, .int .i64 v.i, .float .f64 v.r, .complex .f64 v.p.1 v.p.2, .string v.s] 50)).cell? ⟨w1.heap.size, 0, none⟩ = some (.int .i64 v.k) := b7.cell 0
            have y1 : (w1.alloc (.cells #[.int .i64 v.k, .int .i64 v.i, .float .f64 v.r, .complex .f64 v.p.1 v.p.2, .string v.s] 50)).cell? ⟨w1.heap.size, 1, none⟩ = some (.int .i64 v.i) := b7.cell 1
            have y2 : (w1.alloc (.cells #[.int .i64 v.k, .int .i64 v.i, .float .f64 v.r, .complex .f64 v.p.1 v.p.2, .string v.s] 50)).cell? ⟨w1.heap.size, 2, none⟩ = some (.float .f64 v.r) := b7.cell 2
            have y3 : (w1.alloc (.cells #[.int .i64 v.k, .int .i64 v.i, .float .f64 v.r, .complex .f64 v.p.1 v.p.2, .string v.s] 50)).cell? ⟨w1.heap.size, 3, none⟩ = some (.complex .f64 v.p.1 v.p.2) := b7.cell 3
            have y4 : (w1.alloc (.cells #[.int .i64 v.k, .int .i64 v.i, .float .f64 v.r, .complex .f64 v.p.1 v.p.2, .string v.s] 50)).cell? ⟨w1.heap.size, 4, none⟩ = some (.string v.s) := b7.cell 4
            clear hb1 HV b7
            go_upto_region 10 with fail
            generalize w1.alloc (.cells #[.int .i64 v.k, .int .i64 v.i, .float .f64 v.r, .complex .f64 v.p.1 v.p.2, .string v.s] 50) = w2 at HO1 HB1 y0 y1 y2 y3 y4 ⊢
            have HO2 := Lib.hid (Kd.R_alloc HO1.out (.cells #[.int .i64 v.k, .int .i64 v.i, .float .f64 v.r, .complex .f64 v.p.1 v.p.2, .string v.s] 50))
            have HB2 := Lib.hid (below_alloc HB1.out (.cells #[.int .i64 v.k, .int .i64 v.i, .float .f64 v.r, .complex .f64 v.p.1 v.p.2, .string v.s] 50))
            go_wp2_with (first | ((with_reducible refine gate_builtin (b := .append) (xs := #[.tmp 35, .tmp 37]) rfl ?_); at_builtin; refine Kd.R_append_rows kV (w0 := w) w.heap.size rfl (.tmp 35) (.tmp 37) 53 50 (ag zV) 56 rfl Try.underlying53 info50 rfl (by decide) (by omega) (.slice Av vs.length cv) vs [v] (some ⟨w2.heap.size, 0, none⟩) 1 1 (fun _ => True) (fun _ => False) rfl rfl HO2.out (C_oneV w2 v) (fun x cs hc => by rw [kV_open hc]; exact kV_mkM _ _ _ x) (fun _ hk => hk.elim) (fun _ _ => trivial) HB2.out HB2.out.size (by have := HVK.out; omega) ?_; intro v3 w3 hR3 hb3 hg3 hat3) | fail)
            have HO3 := Lib.hid hR3
            have HB3 := Lib.hid hb3
            clear hR3 hb3 hg3 hat3 y0 y1 y2 y3 y4
            go_wp2_with fail
            go_roundw
            case rel => exact ⟨k + 1, t + m, _, by omega, by first | rfl | (rw [HWN.out]), by first | rfl | (rw [HWT.out]), by omega, by omega, Lib.hid (by rw [HD.out, show t + m - 1 = t - 1 + m from by omega]), HO3, HB3⟩
            case measure =>
              first | rw [HWN.out] | skip
              simp [intOf]
              omega
        · obtain rfl : k = q := by omega
          have b1 : decide ((k : Int) < (k : Int)) = false := by simp
          have HCv := (Kd.R_reads' HO.out)
          have HL := Lib.hid (light_any Av cv vs wr HCv.2.2 HCv.2.1 hgv (by have := HVK.out; omega))
          have HE : Hid (rdP l = if szs vs ≤ 1024 then some (vs, t) else none) := Lib.hid (by
            rw [HR.out, HN.out]
            simp only
            rw [show t - 1 + 1 = t from by omega])
          clear hgv HCv
          by_cases hsz : szs vs ≤ 1024
          · have hd : decide (szs vs ≤ 1024) = true := by simpa using hsz
            rw [hd] at HL
            go_wp2_with fail
            refine HL.out.mono ?_
            rintro e w1 ⟨rfl, hb1⟩
            go_wp2_with fail
            go_ret3
            rw [HE.out, if_pos hsz]
            exact ⟨HB.out.trans (hb1.mono HB.out.size), _, rfl, Kd.R_below HO.out hb1⟩
          · have hd : decide (szs vs ≤ 1024) = false := by simpa using hsz
            rw [hd] at HL
            go_wp2_with fail
            refine HL.out.mono ?_
            rintro e w1 ⟨rfl, hb1⟩
            go_wp2_with fail
            go_ret3
            rw [HE.out, if_neg (Int.not_le.2 hsz)]
            exact ⟨HB.out.trans (hb1.mono HB.out.size), rfl⟩
end Go.Proofs.Ytlbfnnngemonoaa.Wir
