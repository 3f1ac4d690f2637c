/- Values of the wire: their kind; small functions on them. -/
import Derived.Test.YtlbfnnngemonoaaFatBase
import Derived.Test.YtlbfnnngemonoaaWirHas
import Derived.Laws.Externs
import Derived.Laws.FloatArith
namespace Go.Proofs.Ytlbfnnngemonoaa.Wir
open Go.RowKit Go.Proofs.Ytlbfnnngemonoaa.PWireReads
open Go.Proofs.Ytlbfnnngemonoaa.Fat (Blk Chg Off)
open Go.Proofs.YtlbfnnngemonoaaW.PrintWords Go.Proofs.YtlbfnnngemonoaaW.PrintLast Go.Proofs.YtlbfnnngemonoaaW.PrintMore
set_option linter.unusedVariables false
set_option linter.unusedSimpArgs false

theorem run_store_float {P : Program} {w : World} {a : Addr} {m : Mode} (k : FloatKind) (b : Nat) : (store a (.float k b) m).run P w = stored P w a (.float k b) m := run_store P w a _ m rfl
theorem run_store_complex {P : Program} {w : World} {a : Addr} {m : Mode} (k : FloatKind) (b c : Nat) : (store a (.complex k b c) m).run P w = stored P w a (.complex k b c) m := run_store P w a _ m rfl
structure V where
  k : Int
  i : Int
  r : Nat
  p : Nat × Nat
  s : ByteArray
def zV : V := ⟨0, 0, 0, (0, 0), ByteArray.empty⟩
def ag (v : V) : Value := .agg #[.int .i64 v.k, .int .i64 v.i, .float .f64 v.r, .complex .f64 v.p.1 v.p.2, .string v.s]
def kF : Kd Nat := Kd.scalar (Value.float .f64) (fun _ => rfl)
def kC : Kd (Nat × Nat) := Kd.scalar (fun p => Value.complex .f64 p.1 p.2) (fun _ => rfl)
def kV : Kd V := Kd.iso (Kd.pair (Kd.int .i64) (Kd.pair (Kd.int .i64) (Kd.pair kF (Kd.pair kC Kd.string)))) (fun v => (v.k, v.i, v.r, v.p, v.s))
theorem kV_open {w : World} {v : V} {cs : List Value} (h : kV.K w v cs) : cs = [.int .i64 v.k, .int .i64 v.i, .float .f64 v.r, .complex .f64 v.p.1 v.p.2, .string v.s] := by
  obtain ⟨_, _, rfl, rfl, ⟨_, _, rfl, rfl, ⟨_, _, rfl, rfl, ⟨_, _, rfl, rfl, rfl⟩⟩⟩⟩ := h
  exact rfl
theorem kV_openM {w : World} {base : Nat} {ok : Nat → Prop} {v : V} {cs : List Value} (h : kV.M w base ok v cs) : cs = [.int .i64 v.k, .int .i64 v.i, .float .f64 v.r, .complex .f64 v.p.1 v.p.2, .string v.s] := by
  obtain ⟨_, _, rfl, rfl, ⟨_, _, rfl, rfl, ⟨_, _, rfl, rfl, ⟨_, _, rfl, rfl, rfl⟩⟩⟩⟩ := h
  exact rfl
theorem kV_mkM (w : World) (base : Nat) (ok : Nat → Prop) (v : V) : kV.M w base ok v [.int .i64 v.k, .int .i64 v.i, .float .f64 v.r, .complex .f64 v.p.1 v.p.2, .string v.s] :=
  ⟨[_], [_, _, _, _], rfl, rfl, ⟨[_], [_, _, _], rfl, rfl, ⟨[_], [_, _], rfl, rfl, ⟨[_], [_], rfl, rfl, rfl⟩⟩⟩⟩
theorem info50 : (Try.prog.info? 50).map (fun i => (i.zero, i.size, i.bytes)) = some (some (ag zV), 5, 56) := by kernel_rfl


theorem run74 (n : Int) (w : World) : (callFunc 74 #[.int .u64 n]).run Try.prog w = .ok (.value (.float .f64 n.toNat)) w := by
  rw [run_callFunc_extern (e := Go.Extern.MathFloatBits.float64frombits) Try.func74 (by rfl) (by rfl) (by kernel_rfl) (by kernel_rfl)]
  rfl
set_option maxRecDepth 20000 in
theorem nan_any (w : World) : Calls Try.prog 80 #[] w fun e w' => e = .returned (.float .f64 9221120237041090561) ∧ w' = w := by
  have h74 := run74
  go_enter Try.func80, Try.ntmps80
  go_wp2_with fail
  go_ret
  exact ⟨rfl, rfl⟩

/-! ### reals -/
def none64 : Nat := 9221120237041090561
theorem datum_self (d : Ieee.Datum) : d.order d = none ∨ d.order d = some .eq := by
  cases d with
  | nan => left; simp [Ieee.Datum.order]
  | infinity s => right; simp [Ieee.Datum.order]
  | number s m i => right; simp [Ieee.Datum.order]
theorem order_self (x : Nat) : FloatKind.f64.format.order x x = none ∨ FloatKind.f64.format.order x x = some .eq := datum_self _
def fine (x : Nat) : Prop := FloatKind.f64.format.order x x = some .eq ∨ x = none64

set_option maxRecDepth 20000 in
theorem number_any (x : Nat) (hx : fine x) (w : World) : Calls Try.prog 65 #[.float .f64 x] w fun e w' => e = .returned (.float .f64 x) ∧ w' = w := by
  rcases order_self x with h | h
  · have hn : x = none64 := by
      rcases hx with h2 | h2
      · rw [h] at h2; cases h2
      · exact h2
    have hb : (FloatKind.f64.format.order x x != some Ordering.eq) = true := by rw [h]; rfl
    clear hx h
    go_enter Try.func65, Try.ntmps65
    go_wp2_with fail
    refine (nan_any w).mono ?_
    rintro e w1 ⟨rfl, rfl⟩
    go_wp2_with fail
    go_ret
    exact ⟨by rw [hn]; rfl, rfl⟩
  · have hb : (FloatKind.f64.format.order x x != some Ordering.eq) = false := by rw [h]; rfl
    clear hx h
    go_enter Try.func65, Try.ntmps65
    go_wp2_with fail
    go_ret
    exact ⟨rfl, rfl⟩
theorem r0 : FloatKind.f64.format.read 0 = .number false 0 (-1074) := by decide
theorem r1 : FloatKind.f64.format.read 4607182418800017408 = .number false 4503599627370496 (-52) := by decide
theorem zero_eq (x : Nat) (h : FloatKind.f64.format.order x 0 = some .eq) : ∃ r, floatBits .quo .f64 4607182418800017408 x = some r := by
  unfold Ieee.Format.order at h
  rw [r0] at h
  have key : ∃ s i, FloatKind.f64.format.read x = .number s 0 i := by
    generalize FloatKind.f64.format.read x = d at h
    cases d with
    | nan => simp [Ieee.Datum.order] at h
    | infinity s => cases s <;> simp [Ieee.Datum.order] at h
    | number s m i =>
      simp only [Ieee.Datum.order, Option.some.injEq] at h
      have h2 := Int.compare_eq_eq.1 h
      refine ⟨s, i, ?_⟩
      have : m = 0 := by
        unfold Ieee.signed at h2
        rw [Nat.shiftLeft_eq, Nat.shiftLeft_eq, Nat.zero_mul] at h2
        have hp : 0 < 2 ^ (i - min i (-1074)).toNat := Nat.pow_pos (by omega)
        have h3 : m * 2 ^ (i - min i (-1074)).toNat = 0 := by
          cases s <;> simp only [Bool.false_eq_true, if_false, if_true] at h2 <;> omega
        rcases Nat.mul_eq_zero.1 h3 with h4 | h4
        · exact h4
        · omega
      rw [this]
  obtain ⟨s, i, hx⟩ := key
  show ∃ r, (FloatKind.f64.format.div 4607182418800017408 x) = some r
  unfold Ieee.Format.div
  rw [hx, r1]
  exact ⟨_, rfl⟩
def belowB (x : Nat) : Bool := (FloatKind.f64.format.order x 0 == some .lt) || ((FloatKind.f64.format.order x 0 == some .eq) && (FloatKind.f64.format.order ((floatBits .quo .f64 4607182418800017408 x).getD 0) 0 == some .lt))
set_option maxRecDepth 20000 in
theorem below_any (x : Nat) (w : World) : Calls Try.prog 92 #[.float .f64 x] w fun e w' => e = .returned (.bool (belowB x)) ∧ Below w.heap.size w w' := by
  by_cases hlt : FloatKind.f64.format.order x 0 = some .lt
  · have hb : (FloatKind.f64.format.order x 0 == some .lt) = true := by simpa using hlt
    have hB : belowB x = true := by unfold belowB; rw [hb]; rfl
    rw [hB]
    clear hlt hB
    go_enter Try.func92, Try.ntmps92
    go_wp2_with fail
    go_ret
    exact ⟨rfl, Below.refl _ _⟩
  · by_cases heq : FloatKind.f64.format.order x 0 = some .eq
    · obtain ⟨r, hr⟩ := zero_eq x heq
      have hb : (FloatKind.f64.format.order x 0 == some .lt) = false := by simpa using hlt
      have hb2 : (FloatKind.f64.format.order x 0 == some .eq) = true := by simpa using heq
      have hB : belowB x = (FloatKind.f64.format.order r 0 == some .lt) := by unfold belowB; rw [hb, hb2, hr]; rfl
      rw [hB]
      have hop : ∀ t w, (binOp .quo t (.float .f64 4607182418800017408) (.float .f64 x)).run Try.prog w = .ok (.float .f64 r) w := fun t w => run_float_arith w .quo t .f64 _ x r hr
      clear hlt heq hB hr
      go_enter Try.func92, Try.ntmps92
      go_wp2_with (simp only [hop])
      go_ret
      exact ⟨rfl, Below.refl _ _⟩
    · have hb : (FloatKind.f64.format.order x 0 == some .lt) = false := by simpa using hlt
      have hb2 : (FloatKind.f64.format.order x 0 == some .eq) = false := by simpa using heq
      have hB : belowB x = false := by unfold belowB; rw [hb, hb2]; rfl
      rw [hB]
      clear hlt heq hB
      go_enter Try.func92, Try.ntmps92
      go_wp2_with fail
      go_ret
      exact ⟨rfl, Below.refl _ _⟩

set_option maxRecDepth 20000 in
theorem reals_any (x : Nat) (w : World) : Calls Try.prog 89 #[.float .f64 x, .float .f64 x] w fun e w' => e = .returned (.int .i64 0) ∧ Below w.heap.size w w' := by
  rcases order_self x with h | h
  · have hb : (FloatKind.f64.format.order x x != some Ordering.eq) = true := by rw [h]; rfl
    clear h
    go_enter Try.func89, Try.ntmps89
    go_wp2_with fail
    go_ret
    exact ⟨rfl, Below.refl _ _⟩
  · have hb : (FloatKind.f64.format.order x x != some Ordering.eq) = false := by rw [h]; rfl
    have hb2 : (FloatKind.f64.format.order x x == some Ordering.eq) = true := by rw [h]; rfl
    have hb3 : (FloatKind.f64.format.order x x == some Ordering.lt) = false := by rw [h]; rfl
    have hb4 : (FloatKind.f64.format.order x x == some Ordering.gt) = false := by rw [h]; rfl
    clear h
    have hB := fun W => below_any x W
    generalize belowB x = t at hB
    have HB := Lib.hid hB
    clear hB
    cases t
    · go_enter Try.func89, Try.ntmps89
      go_wp2_with fail
      refine (HB.out _).mono ?_
      rintro e w1 ⟨rfl, hb1⟩
      go_wp2_with fail
      refine (HB.out _).mono ?_
      rintro e w2 ⟨rfl, hb2⟩
      go_wp2_with fail
      go_ret
      exact ⟨rfl, hb1.trans (hb2.mono hb1.size)⟩
    · go_enter Try.func89, Try.ntmps89
      go_wp2_with fail
      refine (HB.out _).mono ?_
      rintro e w1 ⟨rfl, hb1⟩
      go_wp2_with fail
      refine (HB.out _).mono ?_
      rintro e w2 ⟨rfl, hb2⟩
      have h12 := hb1.trans (hb2.mono hb1.size)
      clear hb1 hb2
      go_wp2_with fail
      refine (HB.out _).mono ?_
      rintro e w3 ⟨rfl, hb3⟩
      have h13 := h12.trans (hb3.mono h12.size)
      clear h12 hb3
      go_wp2_with fail
      refine (HB.out _).mono ?_
      rintro e w4 ⟨rfl, hb4⟩
      go_wp2_with fail
      go_ret
      exact ⟨rfl, h13.trans (hb4.mono h13.size)⟩

/-! ### values -/
def vI (i : Int) : V := ⟨1, i, 0, (0, 0), ByteArray.empty⟩
def vR (x : Nat) : V := ⟨2, 0, x, (0, 0), ByteArray.empty⟩
def vC (x y : Nat) : V := ⟨3, 0, 0, (x, y), ByteArray.empty⟩
def vT (s : ByteArray) : V := ⟨4, 0, 0, (0, 0), s⟩
def Good (v : V) : Prop := (∃ i, v = vI i) ∨ (∃ x, fine x ∧ v = vR x) ∨ (∃ x y, fine x ∧ fine y ∧ v = vC x y) ∨ (∃ s, s.size ≤ 256 ∧ v = vT s)
/-- What a read value may look like before it is asked whether it may be. -/
def Shp (v : V) : Prop := (∃ i, v = vI i) ∨ (∃ x, v = vR x) ∨ (∃ x y, v = vC x y) ∨ (∃ s, v = vT s)
def mayB (v : V) : Bool := if v.k = 4 then decide (v.s.size ≤ 256) else true
theorem Good.shp {v : V} (h : Good v) : Shp v := by
  rcases h with ⟨i, h⟩ | ⟨x, _, h⟩ | ⟨x, y, _, _, h⟩ | ⟨s, _, h⟩
  · exact .inl ⟨i, h⟩
  · exact .inr (.inl ⟨x, h⟩)
  · exact .inr (.inr (.inl ⟨x, y, h⟩))
  · exact .inr (.inr (.inr ⟨s, h⟩))
theorem Good.may {v : V} (h : Good v) : mayB v = true := by
  rcases h with ⟨i, rfl⟩ | ⟨x, _, rfl⟩ | ⟨x, y, _, _, rfl⟩ | ⟨s, h, rfl⟩
  · rfl
  · rfl
  · rfl
  · simp [mayB, vT, h]
set_option maxRecDepth 20000 in
theorem may_any (v : V) (hk : Shp v) (w : World) : Calls Try.prog 54 #[ag v] w fun e w' => e = .returned (.bool (mayB v)) ∧ Below w.heap.size w w' := by
  rcases hk with ⟨i, rfl⟩ | ⟨x, rfl⟩ | ⟨x, y, rfl⟩ | ⟨s, rfl⟩
  · show Calls Try.prog 54 #[.agg #[.int .i64 1, .int .i64 i, .float .f64 0, .complex .f64 0 0, .string ByteArray.empty]] w fun e w' => e = .returned (.bool true) ∧ Below w.heap.size w w'
    go_enter Try.func54, Try.ntmps54
    go_wp2_with fail
    go_ret
    exact ⟨rfl, (Below.refl _ _).alloc (Nat.le_refl _) _⟩
  · show Calls Try.prog 54 #[.agg #[.int .i64 2, .int .i64 0, .float .f64 x, .complex .f64 0 0, .string ByteArray.empty]] w fun e w' => e = .returned (.bool true) ∧ Below w.heap.size w w'
    go_enter Try.func54, Try.ntmps54
    go_wp2_with fail
    go_ret
    exact ⟨rfl, (Below.refl _ _).alloc (Nat.le_refl _) _⟩
  · show Calls Try.prog 54 #[.agg #[.int .i64 3, .int .i64 0, .float .f64 0, .complex .f64 x y, .string ByteArray.empty]] w fun e w' => e = .returned (.bool true) ∧ Below w.heap.size w w'
    go_enter Try.func54, Try.ntmps54
    go_wp2_with fail
    go_ret
    exact ⟨rfl, (Below.refl _ _).alloc (Nat.le_refl _) _⟩
  · show Calls Try.prog 54 #[.agg #[.int .i64 4, .int .i64 0, .float .f64 0, .complex .f64 0 0, .string s]] w fun e w' => e = .returned (.bool (decide (s.size ≤ 256))) ∧ Below w.heap.size w w'
    go_enter Try.func54, Try.ntmps54
    go_wp2_with fail
    go_ret
    exact ⟨by simp; omega, (Below.refl _ _).alloc (Nat.le_refl _) _⟩
set_option maxRecDepth 20000 in
theorem rmay_any (v : V) (hk : Shp v) (w : World) : Calls Try.prog 76 #[ag v] w fun e w' => e = .returned (.bool (mayB v)) ∧ Below w.heap.size w w' := by
  rcases hk with ⟨i, rfl⟩ | ⟨x, rfl⟩ | ⟨x, y, rfl⟩ | ⟨s, rfl⟩
  · show Calls Try.prog 76 #[.agg #[.int .i64 1, .int .i64 i, .float .f64 0, .complex .f64 0 0, .string ByteArray.empty]] w fun e w' => e = .returned (.bool true) ∧ Below w.heap.size w w'
    go_enter Try.func76, Try.ntmps76
    go_wp2_with fail
    go_ret
    exact ⟨rfl, (Below.refl _ _).alloc (Nat.le_refl _) _⟩
  · show Calls Try.prog 76 #[.agg #[.int .i64 2, .int .i64 0, .float .f64 x, .complex .f64 0 0, .string ByteArray.empty]] w fun e w' => e = .returned (.bool true) ∧ Below w.heap.size w w'
    go_enter Try.func76, Try.ntmps76
    go_wp2_with fail
    go_ret
    exact ⟨rfl, (Below.refl _ _).alloc (Nat.le_refl _) _⟩
  · show Calls Try.prog 76 #[.agg #[.int .i64 3, .int .i64 0, .float .f64 0, .complex .f64 x y, .string ByteArray.empty]] w fun e w' => e = .returned (.bool true) ∧ Below w.heap.size w w'
    go_enter Try.func76, Try.ntmps76
    go_wp2_with fail
    go_ret
    exact ⟨rfl, (Below.refl _ _).alloc (Nat.le_refl _) _⟩
  · show Calls Try.prog 76 #[.agg #[.int .i64 4, .int .i64 0, .float .f64 0, .complex .f64 0 0, .string s]] w fun e w' => e = .returned (.bool (decide (s.size ≤ 256))) ∧ Below w.heap.size w w'
    go_enter Try.func76, Try.ntmps76
    go_wp2_with fail
    go_ret
    exact ⟨by simp; omega, (Below.refl _ _).alloc (Nat.le_refl _) _⟩
end Go.Proofs.Ytlbfnnngemonoaa.Wir
