/- shell.New: the map of commands. -/
import Derived.Test.YtmgnkhpaaghmkaaGreatDoorShnBase
namespace Go.Proofs.YtmgnkhpaaghmkaaGreatDoor.Shn
open Go.RowKit Go.Proofs.YtmgnkhpaaghmkaaGreatDoorW.PrintWords
set_option linter.unusedVariables false
set_option linter.unusedSimpArgs false

set_option maxRecDepth 20000 in
theorem upon_put {o : Oper} {a : Act} {K : Act → World → Prop} {Q : Exit → Act → World → Prop} {w W : World} {m n : Nat} {key : ByteArray} {v : Value} (hC : Cmds W m n) (hB : Below w.heap.size w W) (hm : w.heap.size ≤ m) (hn : n < maxLen) (hs : key.size ≤ maxLen)
    (h : ∀ W', Cmds W' m (n + 1) → Below w.heap.size w W' → Oper.upon Tryz.prog o a K Q (Result.ok Next.skip W')) :
    Oper.upon Tryz.prog o a K Q ((Sem.run Tryz.prog (Instr.mapUpdate 35 (.map (some m)) (.string key) v) W).andThen fun _ w' => Result.ok Next.skip w') := by
  obtain ⟨w', hrun, hc, hg⟩ := hC.put hn key hs v
  rw [hrun]
  exact h w' hc (hB.grown hg hB.size (fun k e => by injection e with e; omega))
set_option maxRecDepth 20000 in
set_option maxHeartbeats 4000000 in
theorem all_any (p : Value) (w : World) : Calls Tryz.prog 12 #[p] w fun e w' => ∃ m, e = .returned (.map (some m)) ∧ Cmds w' m 16 ∧ w.heap.size ≤ m ∧ Below w.heap.size w w' := by
  have hmf : ∀ (fn : Fn) (first cap : Array Value) (w : World), (Instr.makeFunc fn first cap).run Tryz.prog w = .ok (.func fn first cap) w := fun _ _ _ _ => rfl
  have hmm := @run_makeMap Tryz.prog
  have HC := Lib.hid (Cmds.made w)
  have HB := Lib.hid ((Below.refl w.heap.size w).alloc (Nat.le_refl _) (.map #[] 0))
  obtain ⟨m, hm⟩ : ∃ m, m = w.heap.size := ⟨_, rfl⟩
  have HM := Lib.hid (Nat.le_of_eq hm.symm)
  go_enter Tryz.func12, Tryz.ntmps12
  go_wp2_with fail
  rw [← hm] at HC ⊢
  clear hm
  refine upon_put (w := w) HC.out HB.out HM.out (by decide) (by decide) ?_
  clear HC HB
  intro W0 hC hB
  have HC := Lib.hid hC
  have HB := Lib.hid hB
  clear hC hB
  go_wp2_with fail
  refine upon_put (w := w) HC.out HB.out HM.out (by decide) (by decide) ?_
  clear HC HB
  intro W1 hC hB
  have HC := Lib.hid hC
  have HB := Lib.hid hB
  clear hC hB
  go_wp2_with fail
  refine upon_put (w := w) HC.out HB.out HM.out (by decide) (by decide) ?_
  clear HC HB
  intro W2 hC hB
  have HC := Lib.hid hC
  have HB := Lib.hid hB
  clear hC hB
  go_wp2_with fail
  refine upon_put (w := w) HC.out HB.out HM.out (by decide) (by decide) ?_
  clear HC HB
  intro W3 hC hB
  have HC := Lib.hid hC
  have HB := Lib.hid hB
  clear hC hB
  go_wp2_with fail
  refine upon_put (w := w) HC.out HB.out HM.out (by decide) (by decide) ?_
  clear HC HB
  intro W4 hC hB
  have HC := Lib.hid hC
  have HB := Lib.hid hB
  clear hC hB
  go_wp2_with fail
  refine upon_put (w := w) HC.out HB.out HM.out (by decide) (by decide) ?_
  clear HC HB
  intro W5 hC hB
  have HC := Lib.hid hC
  have HB := Lib.hid hB
  clear hC hB
  go_wp2_with fail
  refine upon_put (w := w) HC.out HB.out HM.out (by decide) (by decide) ?_
  clear HC HB
  intro W6 hC hB
  have HC := Lib.hid hC
  have HB := Lib.hid hB
  clear hC hB
  go_wp2_with fail
  refine upon_put (w := w) HC.out HB.out HM.out (by decide) (by decide) ?_
  clear HC HB
  intro W7 hC hB
  have HC := Lib.hid hC
  have HB := Lib.hid hB
  clear hC hB
  go_wp2_with fail
  refine upon_put (w := w) HC.out HB.out HM.out (by decide) (by decide) ?_
  clear HC HB
  intro W8 hC hB
  have HC := Lib.hid hC
  have HB := Lib.hid hB
  clear hC hB
  go_wp2_with fail
  refine upon_put (w := w) HC.out HB.out HM.out (by decide) (by decide) ?_
  clear HC HB
  intro W9 hC hB
  have HC := Lib.hid hC
  have HB := Lib.hid hB
  clear hC hB
  go_wp2_with fail
  refine upon_put (w := w) HC.out HB.out HM.out (by decide) (by decide) ?_
  clear HC HB
  intro W10 hC hB
  have HC := Lib.hid hC
  have HB := Lib.hid hB
  clear hC hB
  go_wp2_with fail
  refine upon_put (w := w) HC.out HB.out HM.out (by decide) (by decide) ?_
  clear HC HB
  intro W11 hC hB
  have HC := Lib.hid hC
  have HB := Lib.hid hB
  clear hC hB
  go_wp2_with fail
  refine upon_put (w := w) HC.out HB.out HM.out (by decide) (by decide) ?_
  clear HC HB
  intro W12 hC hB
  have HC := Lib.hid hC
  have HB := Lib.hid hB
  clear hC hB
  go_wp2_with fail
  refine upon_put (w := w) HC.out HB.out HM.out (by decide) (by decide) ?_
  clear HC HB
  intro W13 hC hB
  have HC := Lib.hid hC
  have HB := Lib.hid hB
  clear hC hB
  go_wp2_with fail
  refine upon_put (w := w) HC.out HB.out HM.out (by decide) (by decide) ?_
  clear HC HB
  intro W14 hC hB
  have HC := Lib.hid hC
  have HB := Lib.hid hB
  clear hC hB
  go_wp2_with fail
  refine upon_put (w := w) HC.out HB.out HM.out (by decide) (by decide) ?_
  clear HC HB
  intro W15 hC hB
  have HC := Lib.hid hC
  have HB := Lib.hid hB
  clear hC hB
  go_wp2_with fail
  go_returns
  exact ⟨m, rfl, HC.out, HM.out, HB.out⟩
set_option maxRecDepth 20000 in
set_option maxHeartbeats 1000000 in
theorem new_any (w : World) : Calls Tryz.prog 6 #[] w fun e w' => ∃ s m, e = .returned (.pointer (some ⟨s, 0, none⟩)) ∧ Sh w' s false m ∧ w.heap.size ≤ s ∧ w.heap.size ≤ m ∧ Below w.heap.size w w' := by
  have hb := Blk.new w 37 #[.slice none 0 0, .slice none 0 0, .pointer none, .bool false, .slice none 0 0, .map none]
  have HB := Lib.hid hb
  have HW := Lib.hid ((Below.refl w.heap.size w).alloc (Nat.le_refl _) (.cells #[.slice none 0 0, .slice none 0 0, .pointer none, .bool false, .slice none 0 0, .map none] 37))
  clear hb
  go_enter Tryz.func6, Tryz.ntmps6
  go_wp2_with fail
  refine (all_any _ _).mono ?_
  rintro e w1 ⟨m, rfl, hC, hm, hb⟩
  have hB1 := HB.out.below hb HB.out.lt
  have HB1 := Lib.hid hB1
  have HC := Lib.hid hC
  have HM := Lib.hid hm
  have HW1 := Lib.hid (HW.out.trans (hb.mono HW.out.size))
  have f5 := hB1.frozen 5
  have x5 := hB1.cell 5
  simp at x5
  clear hC hm hb hB1 HB HW
  go_wp2_with fail
  go_returns
  have hm : w.heap.size + 1 ≤ m := by simpa using HM.out
  refine ⟨_, m, rfl, ⟨HB1.out.set_ 5 _, HC.out.chg (S := [w.heap.size]) ((Chg.refl _ _).setCell (.inl (by simp)) _) (by simp; omega), by omega⟩, Nat.le_refl _, by omega, HW1.out.setCell (Nat.le_refl _) _⟩
end Go.Proofs.YtmgnkhpaaghmkaaGreatDoor.Shn
