/- One append of a whole row of ints to an empty slice, as a step of a region whose order is drawn. -/
import Derived.Test.YtfflfhkbnmoalaaWayLaw1
namespace Go.Proofs.Ytfflfhkbnmoalaa.Way
open Go.RowKit Go.Proofs.Ytfflfhkbnmoalaa.Pol Go.Proofs.Ytfflfhkbnmoalaa.PExploreWays
open Go.Proofs.YtfflfhkbnmoalaaW.PrintWords Go.Proofs.YtfflfhkbnmoalaaW.PrintLast Go.Proofs.YtfflfhkbnmoalaaW.PrintMore

theorem empty_R {W : World} {base g : Nat} (h : Blk W g 3 #[]) (hg : base ≤ g) : Kd.R (Kd.int .i64) 3 W base (fun _ => True) (.slice (some ⟨g, 0, none⟩) 0 0) [] :=
  ⟨fun _ _ => trivial, [], ⟨rfl, .inr ⟨g, 0, #[], rfl, hg, h, Nat.le_refl _, by unfold maxLen; omega, rfl, rfl⟩⟩, Reps.none _ _⟩

theorem step_app {ops : Array Oper} {Q : Exit → Act → World → Prop} {o : Oper} {a : Act} {W : World} {Kc : Act → World → Prop} (w0 : World) (hw : Region.wanted o (yielded ops a.tmps) = true) (s x : Operand)
    (ho : o.op = .call { callee := .builtin .append, args := #[s, x], argTypes := #[36, 36] }) (g : Nat) (A : Option Addr) (q : List Int) (c : Nat) (hs : a.eval s = .slice (some ⟨g, 0, none⟩) 0 0) (hx : a.eval x = .slice A q.length c)
    (hB : Blk W g 3 #[]) (hg : w0.heap.size ≤ g) (hC : Kd.C (Kd.int .i64) W A q.length q) (hl : q.length * 8 ≤ 140737488355328) (HB : Below w0.heap.size w0 W)
    (h : ∀ A1 k1 w1, Kd.R (Kd.int .i64) 3 w1 w0.heap.size (fun _ => True) (.slice A1 q.length k1) q → Below w0.heap.size w0 w1 → W.grownBy w1 (some g) → (∀ b, (Value.slice A1 q.length k1).ownBlock = some b → b = g ∨ W.heap.size ≤ b) → Kc (a.put o.dst (.slice A1 q.length k1)) w1) :
    if Region.wanted o (yielded ops a.tmps) = true then Oper.wp Try.prog o a W Kc Q else Kc (a.put o.dst undef) W := by
  refine Kd.R_append_rows_step (Kd.int .i64) (w0 := w0) w0.heap.size hw s x 36 3 (.int .i64 0) 8 ho Try.underlying36 info3 rfl (by decide) (by omega) (.slice (some ⟨g, 0, none⟩) 0 0) [] q A q.length c (fun _ => True) (fun _ => False) hs hx (empty_R hB hg) hC (fun x cs hc => hc) (fun _ hk => hk.elim) (fun _ _ => trivial) HB HB.size (by simpa using hl) ?_
  intro v1 w1 hR hB1 hg1 hat
  obtain ⟨A1, k1, rfl⟩ := Kd.R_slice hR
  refine h A1 k1 w1 hR hB1 hg1 (fun b hb => ?_)
  rcases hat with hat | ⟨b2, h1, h2⟩
  · have h2 : (Value.slice A1 q.length k1).ownBlock = some g := hat
    exact .inl (Option.some.inj (hb.symm.trans h2))
  · exact .inr (by
      have : b2 = b := Option.some.inj (h1.symm.trans hb)
      omega)
end Go.Proofs.Ytfflfhkbnmoalaa.Way
