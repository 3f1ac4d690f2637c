/- A region whose order is drawn, walked in a round of a range over a function: what the plain walk shows, holds there too. -/
import Derived.Test.YtlbfnnngemonoaaWirVals
import Derived.RangeFuncFrom
import Derived.RangeFuncCalls
import Derived.OrdersIn
namespace Go.Proofs.Ytlbfnnngemonoaa.Wir
open Go.RowKit Go.Proofs.YtlbfnnngemonoaaW.PrintWords Go.Proofs.YtlbfnnngemonoaaW.PrintLast
set_option linter.unusedVariables false
set_option linter.unusedSimpArgs false

section
variable {P : Program} {ops : Array Oper} {Q : Exit → Act → World → Prop} {md : Region.Mode}
theorem uponIn_of_upon {o : Oper} {a : Act} {K : Act → World → Prop} {r : Result Next} (l n : Nat) (h : o.upon P a K Q r) : o.uponIn (Fence.wide.inRound l) n P a K Q r := by
  cases r with
  | ok x w' =>
    cases x <;> simp only [Oper.upon, Oper.uponIn] at h ⊢ <;>
      first
        | exact h
        | exact ⟨fun _ => by simp_all [Fence.wide], CallsIn.mono (callsIn_wide.2 h) (fun e w'' he => by cases e <;> exact he)⟩
        | exact ⟨fun hd => by simp [Fence.wide] at hd, CallsIn.mono (callsIn_wide.2 h) (fun e w'' he => by cases e <;> exact he)⟩
        | exact ⟨fun hd => by simp [Fence.wide] at hd, fun c cs _ => let ⟨v, w', hr, hs⟩ := h c cs; ⟨v, w', hr, stepsIn_wide.2 hs⟩⟩
        | exact h.elim
  | halt x w' => cases x <;> simp only [Oper.upon, Oper.uponIn] at h ⊢ <;> exact h
def plainOp : Op → Bool
  | .defer _ => false
  | _ => true
theorem wpOpIn_of_wpOp {i l n : Nat} {K K' : Act → World → Prop} {a : Act} {w : World} (hd : (ops.all fun o => plainOp o.op) = true) (hL : ¬ LetsOut Q) (hK : ∀ a w, K a w → K' a w) (h : wpOp P ops Q i K a w) : wpOpIn (Fence.wide.inRound l) n P ops Q i K' a w := by
  unfold wpOp at h
  refine wpOpIn_mono hK ?_
  unfold wpOpIn
  split
  · rename_i e; rw [e] at h; exact h
  · rename_i o e
    rw [e] at h
    simp only at h
    have hnd : ∀ c, o.op ≠ .defer c := by
      intro c hc
      have h2 := Array.all_eq_true'.1 hd o (Array.mem_of_getElem? e)
      rw [hc] at h2
      cases h2
    split
    · rename_i hw
      rw [if_pos hw] at h
      rcases h with h | h
      · refine ⟨fun _ _ => trivial, ?_⟩
        have e2 : o.semAt (Fence.wide.inRound l).round a.eval = execOp a.eval o := Oper.semAt_some l a.eval o hnd
        rw [e2]
        exact uponIn_of_upon l n h
      · exact absurd h.2 hL
    · rename_i hw
      rw [if_neg hw] at h
      exact ⟨fun _ _ => trivial, h⟩
theorem wpAnyIn_of_wpAny (l n : Nat) (hd : (ops.all fun o => plainOp o.op) = true) (hL : ¬ LetsOut Q) : ∀ (fuel : Nat) (listed : Array Bool) (a : Act) (w : World), wpAny P md ops Q fuel listed a w → wpAnyIn (Fence.wide.inRound l) n P md ops Q fuel listed a w := by
  intro fuel
  induction fuel with
  | zero => intro listed a w h; exact h
  | succ fuel ih =>
    intro listed a w h
    exact ⟨h.1, fun i hi => wpOpIn_of_wpOp hd hL (fun a w h => ih _ a w h) (h.2 i hi)⟩
theorem startIn_ {S : World → Prop} {ds : List Nat} {id n lp m : Nat} {a : Act} {w : World} (l : Array Bool) (hm : P.follows .mixedOrders = true) (hd : (ops.all fun o => plainOp o.op) = true) (hL : ¬ LetsOut Q) (hn : ops.size = n) (hl : Array.replicate n false = l) (hS : S w.drew)
    (h : S w.drew → wpAnyLast P .any ops Q S ds n l a w.drew) : (Code.region id ops true).wpIn (Fence.wide.inRound lp) m P Q a w := by
  subst hn
  subst hl
  exact wpIn_region_any hm (wpAnyIn_of_wpAny lp m hd hL _ _ _ _ (wpAny_of_last _ _ _ _ (h hS)))
end
end Go.Proofs.Ytlbfnnngemonoaa.Wir
