import Derived.Test.YtfflfhkbnmoalaaPolTop
import Derived.Maps.Ext
import Derived.Maps.RangeWalk
import Derived.Maps.Own
namespace Go.Proofs.Ytfflfhkbnmoalaa.Pol
open Go.RowKit Go.Maps
set_option maxRecDepth 20000 in
theorem lits3 (n : Nat) (u : Value) (l : List Lit) (h : Try.prog.keyLits (n + 1) 3 [u] = some l) : ∃ x, u = .int .i64 x ∧ (Lit.int .i64 x).wf = true ∧ l = [.int .i64 x] := by
  unfold Program.keyLits at h
  rw [Try.underlying3] at h
  cases u
  case int q x =>
    simp only at h
    split at h
    · rename_i hq
      obtain ⟨rfl, hw⟩ := hq
      exact ⟨x, rfl, hw, (Option.some.inj h).symm⟩
    · cases h
  all_goals (simp at h)
set_option maxRecDepth 20000 in
theorem keyOf128_inv {key : Value} {kl : Lit} (h : keyOf Try.prog 128 key = some kl) : ∃ x : Int × Int, key = .agg #[.int .i64 x.1, .int .i64 x.2] ∧ (Lit.int .i64 x.1).wf = true ∧ (Lit.int .i64 x.2).wf = true ∧ kl = keyLit x.1 x.2 := by
  obtain ⟨n, hn⟩ := typeSize
  have hu := Try.underlying128
  have h0 := h
  unfold keyOf at h
  rw [hu] at h
  simp only at h
  split at h
  · rename_i hc
    rw [Bool.and_eq_true] at hc
    have hf := hc.2
    cases key
    case agg cs =>
      have hs : cs.size = 2 := by
        simp only [Value.formed, hu, cells128, beq_iff_eq] at hf
        exact hf
      obtain ⟨l⟩ := cs
      match l, hs with
      | [u0, u1], _ =>
        rw [hn] at h
        have e0 : (Value.agg #[u0, u1]).cells.toList = [u0, u1] := rfl
        rw [e0] at h
        unfold Program.keyLits at h
        rw [hu] at h
        simp only [cells128, cells3, List.length_cons, List.length_nil, if_true] at h
        have er : List.range 2 = [0, 1] := rfl
        rw [er] at h
        simp only [List.mapM_cons, List.mapM_nil, Nat.zero_mul, Nat.one_mul, List.drop_zero, List.drop_succ_cons, List.take_succ_cons, List.take_zero] at h
        cases k0 : Try.prog.keyLits (n + 1) 3 [u0] with
        | none => simp [k0] at h
        | some l0 =>
          cases k1 : Try.prog.keyLits (n + 1) 3 [u1] with
          | none => simp [k0, k1] at h
          | some l1 =>
            obtain ⟨x, rfl, hx, rfl⟩ := lits3 n u0 l0 k0
            obtain ⟨y, rfl, hy, rfl⟩ := lits3 n u1 l1 k1
            exact ⟨(x, y), rfl, hx, hy, Option.some.inj (h0.symm.trans (keyOf128 x y hx hy))⟩
    all_goals (simp [Value.formed, hu] at hf)
  · cases h
end Go.Proofs.Ytfflfhkbnmoalaa.Pol
