/- wire.Rows: the function that it gives tells the messages of bytes one by one. -/
import Derived.Test.YtlbfnnngemonoaaRngFence
import Derived.Test.YtlbfnnngemonoaaWirUni
import Derived.LoopIn
import Derived.Sort.CutIn
namespace Go.Proofs.Ytlbfnnngemonoaa.Wir
open Go.RowKit Go.Proofs.Ytlbfnnngemonoaa.PWireReads
open Go.Proofs.Ytlbfnnngemonoaa.Fat (Blk Chg Off chg_opt)
open Go.Proofs.YtlbfnnngemonoaaW.PrintWords Go.Proofs.YtlbfnnngemonoaaW.PrintLast Go.Proofs.YtlbfnnngemonoaaW.PrintMore
set_option linter.unusedVariables false
set_option linter.unusedSimpArgs false

/-- The messages that stand one behind the other, and where each ends. -/
def msgs : Nat → List Int → Nat → List (M × Nat)
  | 0, _, _ => []
  | f + 1, l, at0 => match rdM l with
    | none => []
    | some (m, n) => (m, at0 + n) :: msgs f (l.drop n) (at0 + n)
def allM (L : List Int) : List (M × Nat) := msgs (L.length + 1) L 0
/-- k messages have been read; the next stands at p. -/
def Pos (L : List Int) (k p : Nat) : Prop := p ≤ L.length ∧ k ≤ (allM L).length ∧ ∃ f, L.length - p < f ∧ (allM L).drop k = msgs f (L.drop p) p
theorem Pos.start (L : List Int) : Pos L 0 0 := ⟨Nat.zero_le _, Nat.zero_le _, L.length + 1, by omega, rfl⟩
theorem Pos.stop {L : List Int} {k p : Nat} (h : Pos L k p) (hr : rdM (L.drop p) = none) : k = (allM L).length := by
  obtain ⟨_, h1, f, h2, h3⟩ := h
  match f, h2 with
  | f + 1, h2 =>
    rw [msgs, hr] at h3
    have := congrArg List.length h3
    rw [List.length_drop, List.length_nil] at this
    omega
theorem Pos.step {L : List Int} {k p n : Nat} {m : M} (h : Pos L k p) (hr : rdM (L.drop p) = some (m, n)) : (allM L)[k]? = some (m, p + n) ∧ Pos L (k + 1) (p + n) ∧ 1 ≤ n ∧ p + n ≤ L.length := by
  obtain ⟨h0, h1, f, h2, h3⟩ := h
  obtain ⟨_, _, _, g1, g2⟩ := rdM_good _ _ _ hr
  rw [List.length_drop] at g2
  match f, h2 with
  | f + 1, h2 =>
    rw [msgs, hr] at h3
    have hlt : k < (allM L).length := by
      have := congrArg List.length h3
      rw [List.length_drop, List.length_cons] at this
      omega
    have h4 := List.drop_eq_getElem_cons hlt
    rw [h4] at h3
    injection h3 with h5 h6
    refine ⟨by rw [List.getElem?_eq_getElem hlt, h5], ⟨by omega, by omega, f, by omega, ?_⟩, g1, by omega⟩
    rw [h6, List.drop_drop]
/-- What a call of yield at message k must keep. -/
def Told (n lp : Nat) (L : List Int) (n₁ : Nat) (J : Nat → World → Prop) (Jx : World → Prop) : Prop :=
  ∀ (k : Nat) (m : M) (place : Nat) (Av : Option Addr) (cv : Nat) (W1 : World), J k W1 → (allM L)[k]? = some (m, place) → Kd.C kV W1 Av m.pl.length m.pl → m.pl.length ≤ cv →
    YieldAt Fence.wide (n - 1) Try.prog lp #[.agg #[.int .i64 m.id, .string m.tag, .slice Av m.pl.length cv], .int .i64 place] W1 fun e W' => (e = .returned (.bool true) ∧ J (k + 1) W' ∧ Below n₁ W1 W') ∨ (e = .returned (.bool false) ∧ Jx W')
theorem wide_call {n f : Nat} {P : Program} {args : Array Value} {w : World} {R : Ending → World → Prop} (h : CallsIn Fence.wide (n - 1) P f args w R) : Fence.wide.fn f ∧ (Fence.wide.depth.isSome = true → 1 ≤ n) ∧ CallsIn Fence.wide (n - 1) P f args w R := ⟨trivial, fun hd => by simp [Fence.wide] at hd, h⟩
set_option maxRecDepth 20000 in
set_option maxHeartbeats 4000000 in
theorem rows63 (n bx : Nat) (A : Option Addr) (c : Nat) (L : List Int) (w₁ : World) (hX : Blk w₁ bx 45 #[.slice A L.length c]) (hC : Kd.C (Kd.int .u8) w₁ A L.length L) (hc : L.length ≤ c) (hB : By L) (hl : L.length ≤ 140737488355328)
    (lp : Nat) (J : Nat → World → Prop) (Jx : World → Prop) (W : World) (hW : Below w₁.heap.size w₁ W) (hJ : ∀ k W W', J k W → Below W.heap.size W W' → J k W') (hY : Told n lp L w₁.heap.size J Jx) (h0 : J 0 W) :
    CallsIn Fence.wide n Try.prog 63 #[.func (.yield lp) #[] #[], .pointer (some ⟨bx, 0, none⟩)] W fun e W' => (∃ v, e = .returned v) ∧ (J (allM L).length W' ∨ Jx W') := by
  have HX := Lib.hid hX
  have HC := Lib.hid hC
  have HBy := Lib.hid hB
  have HJ := Lib.hid hJ
  have HY := Lib.hid hY
  have HJ0 := Lib.hid h0
  have HW := Lib.hid hW
  clear hX hC hB hJ hY h0 hW
  refine callsIn_of_wp Try.func63 rfl trivial ?_ rfl
  simp only [Try.ntmps63, List.size_toArray, List.length_cons, List.length_nil, Nat.reduceAdd, Nat.reduceSub, Array.replicate_succ, Array.replicate_zero, List.push_toArray, List.append_toArray, List.nil_append, List.cons_append]
  gi_wp2_with fail
  gi_loopw [3] (fun at_ wr => ∃ k p : Nat, at_ = .int .i64 p ∧ Hid (Pos L k p) ∧ Hid (J k wr) ∧ Hid (Below w₁.heap.size w₁ wr)) (fun at_ _ => L.length - (intOf at_).toNat)
  case atStart => exact ⟨0, 0, rfl, Lib.hid (Pos.start L), HJ0, HW⟩
  case round =>
    clear HJ0 HW
    obtain ⟨k, p, rfl, HP, HJk, HB⟩ := hrel
    obtain ⟨A1, c1, hcut, hc1, hC1⟩ := cutBy A c L wr (Kd.C_below HC.out HB.out) hc p HP.out.1
    have x0 := ((HX.out.below HB.out HX.out.lt).cell 0)
    simp at x0
    have HRM := Lib.hid (callsIn_wide (n := n - 1) |>.2 (readM_any A1 c1 (L.drop p) wr hC1 hc1 (HBy.out.drop p) (by rw [List.length_drop]; omega)))
    have HST := Lib.hid (fun n m => @Pos.step L k p n m HP.out)
    have HSP := Lib.hid (@Pos.stop L k p HP.out)
    generalize L.drop p = l2 at hcut HRM HST HSP hc1
    clear hC1 hc1
    generalize ho : rdM l2 = o at HRM HST HSP
    have HO := Lib.hid ho
    clear ho
    cases o with
    | none =>
      gi_wp2_with fail
      refine wide_call (HRM.out.mono ?_)
      rintro e w2 ⟨hb2, rfl⟩
      have HB2 := Lib.hid hb2
      clear hb2
      gi_wp2_with fail
      refine bodyPost_ret (results_none rfl _ _ _) rfl ?_
      refine ⟨⟨_, rfl⟩, .inl ?_⟩
      have hJk := HJk.out
      rw [show k = (allM L).length from by first | exact HSP.out rfl | exact HSP.out trivial] at hJk
      exact HJ.out _ _ _ hJk (below_alloc HB2.out _)
    | some mn =>
      obtain ⟨m, q⟩ := mn
      obtain ⟨hT, hP2, hq1, hq2⟩ := HST.out q m rfl
      have HT := Lib.hid hT
      have HP2 := Lib.hid hP2
      obtain ⟨z, hz⟩ : ∃ z, p + q = z := ⟨_, rfl⟩
      rw [hz] at HT HP2
      have hwq : IntKind.i64.wrap ((p : Int) + (q : Int)) = (z : Int) := by rw [IntKind.wrap_i64]; omega
      have HQ : Hid (p < z ∧ z ≤ L.length) := Lib.hid (by omega)
      clear hT hP2 hq1 hq2 hz
      gi_wp2_with fail
      refine wide_call (HRM.out.mono ?_)
      rintro e w2 ⟨hb2, v, rfl, hR2⟩
      obtain ⟨Av, cv, rfl⟩ := Kd.R_slice hR2
      have hBn := Blk.new w2 57 #[.int .i64 m.id, .string m.tag, .slice Av m.pl.length cv]
      have hb3 := below_alloc hb2 (.cells #[.int .i64 m.id, .string m.tag, .slice Av m.pl.length cv] 57)
      have hR3 := Kd.R_alloc hR2 (.cells #[.int .i64 m.id, .string m.tag, .slice Av m.pl.length cv] 57)
      clear hb2 hR2
      gi_upto_region 2 with fail
      generalize w2.alloc (.cells #[.int .i64 m.id, .string m.tag, .slice Av m.pl.length cv] 57) = W3 at hBn hb3 hR3 ⊢
      have y0 := hBn.cell 0
      have y1 := hBn.cell 1
      have y2 := hBn.cell 2
      simp at y0 y1 y2
      have hR' := Kd.R_reads' hR3
      obtain ⟨f1, t1, a1, b1, hy1, hR1⟩ := HY.out k m z Av cv W3 (HJ.out k wr W3 HJk.out hb3) HT.out hR'.2.2 hR'.2.1
      have HR1 := Lib.hid hR1
      have HB3 := Lib.hid (HB.out.trans (hb3.mono HB.out.size))
      clear hBn hb3 hR3 hR' hR1 HRM HST HSP HO HT hcut x0
      gi_wp2_with fail
      refine ⟨fun hd => by simp [Fence.wide] at hd, HR1.out.mono ?_⟩
      rintro e W4 (⟨rfl, hJ4, hb4⟩ | ⟨rfl, hx4⟩)
      · have HJ4 := Lib.hid hJ4
        have HB4 := Lib.hid (HB3.out.trans hb4)
        clear hJ4 hb4
        gi_wp2_with fail
        go_roundw
        case rel => exact ⟨k + 1, z, rfl, HP2, HJ4, HB4⟩
        case measure =>
          simp [intOf]
          have := HQ.out
          omega
      · have HX4 := Lib.hid hx4
        clear hx4
        gi_wp2_with fail
        refine bodyPost_ret (results_none rfl _ _ _) rfl ?_
        exact ⟨⟨_, rfl⟩, .inr HX4.out⟩
end Go.Proofs.Ytlbfnnngemonoaa.Wir
