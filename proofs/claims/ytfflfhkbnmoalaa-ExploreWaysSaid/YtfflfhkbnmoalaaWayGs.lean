/- What the law of ExploreWays keeps while it works: its own report (one struct, three rows of its own), the argument. -/
import Derived.Test.YtfflfhkbnmoalaaWayApp
namespace Go.Proofs.Ytfflfhkbnmoalaa.Way
open Go.RowKit Go.Proofs.Ytfflfhkbnmoalaa.Pol Go.Proofs.Ytfflfhkbnmoalaa.PExploreWays
open Go.Proofs.YtfflfhkbnmoalaaW.PrintWords Go.Proofs.YtfflfhkbnmoalaaW.PrintLast Go.Proofs.YtfflfhkbnmoalaaW.PrintMore

theorem blk_grown {W w1 : World} {g t : Nat} {cs : Array Value} {row : Option Nat} (h : Blk W g t cs) (hg : W.grownBy w1 row) (hne : some g ≠ row) : Blk w1 g t cs := (hg.block g h.lt hne).trans h

theorem R_apart {α β : Type} {d : Kd α} {d' : Kd β} {e e' base base' : Nat} {ok ok' : Nat → Prop} {w : World} {v v' : Value} {xs : List α} {ys : List β} (h : d.R e w base ok v xs) (h' : d'.R e' w base' ok' v' ys) (he : e' ≠ e) : ∀ k, v.ownBlock = some k → some k ≠ v'.ownBlock := by
  intro k hk
  obtain ⟨inner, ho⟩ := Kd.R_own h
  obtain ⟨cells, hc⟩ := own_typed ho k hk
  exact Kd.R_ne h' hc he

/-- u stands in the slot of the steps, v is the row that is there (u is a part of v). -/
structure GS (w W : World) (b5 : Nat) (a : Int) (q2 q3 : List Int) (A32 : Option Addr) (k32 : Nat) (A36 : Option Addr) (k36 : Nat) (bx : Array Value) (u v : Value) (rs : List S56) : Prop where
  l5 : w.heap.size < b5
  h5 : Blk W b5 53 #[.int .i64 a, u, .slice A32 q2.length k32, .slice A36 q3.length k36]
  R : Kd.R k56 56 W w.heap.size (fun _ => True) v rs
  R32 : Kd.R (Kd.int .i64) 3 W w.heap.size (fun _ => True) (.slice A32 q2.length k32) q2
  R36 : Kd.R (Kd.int .i64) 3 W w.heap.size (fun _ => True) (.slice A36 q3.length k36) q3
  b : Below w.heap.size w W
  X : Blk W w.heap.size 50 bx

namespace GS
variable {w W : World} {b5 : Nat} {a : Int} {q2 q3 : List Int} {A32 : Option Addr} {k32 : Nat} {A36 : Option Addr} {k36 : Nat} {bx : Array Value} {u v : Value} {rs : List S56}
theorem below {W' : World} (h : GS w W b5 a q2 q3 A32 k32 A36 k36 bx u v rs) (hb : Below W.heap.size W W') : GS w W' b5 a q2 q3 A32 k32 A36 k36 bx u v rs :=
  ⟨h.l5, h.h5.below hb h.h5.lt, Kd.R_below h.R hb, Kd.R_below h.R32 hb, Kd.R_below h.R36 hb, h.b.trans (hb.mono h.b.size), h.X.below hb h.X.lt⟩
theorem drew (h : GS w W b5 a q2 q3 A32 k32 A36 k36 bx u v rs) : GS w W.drew b5 a q2 q3 A32 k32 A36 k36 bx u v rs := h.below (Below.refl _ _).drew
theorem drewN (h : GS w W b5 a q2 q3 A32 k32 A36 k36 bx u v rs) (n : Nat) : GS w (W.drewN n) b5 a q2 q3 A32 k32 A36 k36 bx u v rs := h.below (pw_below_drewN (Below.refl _ _) n)
theorem alloc (h : GS w W b5 a q2 q3 A32 k32 A36 k36 bx u v rs) (o : Obj) : GS w (W.alloc o) b5 a q2 q3 A32 k32 A36 k36 bx u v rs := h.below ((Below.refl _ _).alloc (Nat.le_refl _) _)
/-- The row has grown: its old value still stands in the slot. -/
theorem grown {w1 : World} {v1 : Value} {rs1 : List S56} (h : GS w W b5 a q2 q3 A32 k32 A36 k36 bx u v rs) (hg : W.grownBy w1 v.ownBlock) (hR : Kd.R k56 56 w1 w.heap.size (fun _ => True) v1 rs1) (hb : Below w.heap.size w w1) : GS w w1 b5 a q2 q3 A32 k32 A36 k36 bx u v1 rs1 :=
  ⟨h.l5, blk_grown h.h5 hg (Kd.R_ne h.R h.h5 (by decide)), hR, Kd.R_grown2 h.R32 rfl hg (R_apart h.R h.R32 (by decide)), Kd.R_grown2 h.R36 rfl hg (R_apart h.R h.R36 (by decide)), hb, blk_grown h.X hg (Kd.R_ne h.R h.X (by decide))⟩
/-- Another value stands in the slot. -/
theorem store {v' : Value} (h : GS w W b5 a q2 q3 A32 k32 A36 k36 bx u v rs) : GS w (W.setCell ⟨b5, 1, none⟩ v') b5 a q2 q3 A32 k32 A36 k36 bx v' v rs := by
  have h53 : ∀ q, q ∈ 56 :: k56.E → q ≠ 53 := by
    intro q hq
    have hE : k56.E = [] := rfl
    rw [hE] at hq
    simp at hq
    omega
  have h33 : ∀ q, q ∈ 3 :: (Kd.int .i64).E → q ≠ 53 := by
    intro q hq
    have hE : (Kd.int .i64).E = [] := rfl
    rw [hE] at hq
    simp at hq
    omega
  refine ⟨h.l5, ?_, Kd.R_set h.R h.h5 h53 _ _, Kd.R_set h.R32 h.h5 h33 _ _, Kd.R_set h.R36 h.h5 h33 _ _, ?_, ?_⟩
  · have := h.h5.set_ 1 v'
    simpa using this
  · have hc : Chg [b5] W (W.setCell ⟨b5, 1, none⟩ v') := (Chg.refl _ _).setCell (.inl (by simp)) _
    exact h.b.trans (hc.below h.b.size (by have := h.l5; simp; omega))
  · exact h.X.far (by have := h.l5; simp; omega) _
/-- A row of another's is written. -/
theorem other {w1 : World} {row : Option Nat} (h : GS w W b5 a q2 q3 A32 k32 A36 k36 bx u v rs) (hg : W.grownBy w1 row) (hr : ∀ k, row = some k → w.heap.size < k ∧ k ≠ b5 ∧ some k ≠ v.ownBlock ∧ some k ≠ (Value.slice A32 q2.length k32).ownBlock ∧ some k ≠ (Value.slice A36 q3.length k36).ownBlock) : GS w w1 b5 a q2 q3 A32 k32 A36 k36 bx u v rs := by
  refine ⟨h.l5, blk_grown h.h5 hg (fun e => (hr b5 e.symm).2.1 rfl), Kd.R_grown2 h.R rfl hg (fun k e => (hr k e).2.2.1), Kd.R_grown2 h.R32 rfl hg (fun k e => (hr k e).2.2.2.1), Kd.R_grown2 h.R36 rfl hg (fun k e => (hr k e).2.2.2.2), ?_, blk_grown h.X hg (fun e => by have := (hr _ e.symm).1; omega)⟩
  exact h.b.trans ⟨hg.os, hg.tape, hg.output, hg.size, fun k hk => hg.block k (Nat.lt_of_lt_of_le hk h.b.size) (fun e => by have := (hr k e.symm).1; omega)⟩
/-- The mark behind the row. -/
theorem mark {m : List S55} {g8 k8 : Nat} (h : GS w W b5 a q2 q3 A32 k32 A36 k36 bx u (.slice (some ⟨g8, 0, none⟩) (m.length + 1) k8) (m.map conv ++ [⟨-77, 0, 0, 0⟩])) : W.cell? ⟨g8, m.length * 4, none⟩ = some (.int .i64 (-77)) := by
  have h0 := (row_at (Kd.R_reads' h.R).2.2 m.length (by simp)).1
  rw [List.getElem_append_right (by simp)] at h0
  simpa using h0
theorem rows {m : List S55} {g8 k8 : Nat} (h : GS w W b5 a q2 q3 A32 k32 A36 k36 bx u (.slice (some ⟨g8, 0, none⟩) (m.length + 1) k8) (m.map conv ++ [⟨-77, 0, 0, 0⟩])) : Kd.C k56 W (some ⟨g8, 0, none⟩) (m.map conv).length (m.map conv) := by
  have h := Kd.C_take (Kd.R_reads' h.R).2.2 (show m.length ≤ _ by simp)
  rw [List.take_append_of_le_length (by simp), List.take_of_length_le (by simp)] at h
  exact h
theorem cmp {m : List S55} {g8 k8 : Nat} {A1 : Option Addr} {c1 : Nat} (h : GS w W b5 a q2 q3 A32 k32 A36 k36 bx u (.slice (some ⟨g8, 0, none⟩) (m.length + 1) k8) (m.map conv ++ [⟨-77, 0, 0, 0⟩])) (hC : Kd.C k55 w A1 m.length m) (hcc : m.length ≤ c1) (hm : m.length ≤ 65536) (hk : m.length ≤ k8) :
    Calls Try.prog 18 #[.slice (some ⟨g8, 0, none⟩) m.length k8, .slice A1 m.length c1] W fun e w' => e = .returned (.bool true) ∧ Drawn0 W w' := by
  obtain ⟨k, hf⟩ := steps_ok m hm
  have hc := chordmaillaw27_steps.calls k (some ⟨g8, 0, none⟩) k8 (m.map conv) A1 c1 m true W h.rows (by rw [List.length_map]; exact hk) (Kd.C_below hC h.b) hcc hf
  rw [List.length_map] at hc
  exact hc
theorem int2 {A2 : Option Addr} {c2 : Nat} (h : GS w W b5 a q2 q3 A32 k32 A36 k36 bx u v rs) (hC : Kd.C (Kd.int .i64) w A2 q2.length q2) (hl : q2.length ≤ c2) (hb : q2.length * 8 ≤ 140737488355328) :
    Calls Try.prog 19 #[.slice A32 q2.length k32, .slice A2 q2.length c2] W fun e w' => e = .returned (.bool true) ∧ Drawn0 W w' := by
  obtain ⟨k, hf⟩ := ints_ok q2 (by omega)
  exact chordmaillaw27_ints.calls k A32 k32 q2 A2 c2 q2 true W (Kd.R_reads' h.R32).2.2 (Kd.R_reads' h.R32).2.1 (Kd.C_below hC h.b) hl hf
theorem int3 {A3 : Option Addr} {c3 : Nat} (h : GS w W b5 a q2 q3 A32 k32 A36 k36 bx u v rs) (hC : Kd.C (Kd.int .i64) w A3 q3.length q3) (hl : q3.length ≤ c3) (hb : q3.length * 8 ≤ 140737488355328) :
    Calls Try.prog 19 #[.slice A36 q3.length k36, .slice A3 q3.length c3] W fun e w' => e = .returned (.bool true) ∧ Drawn0 W w' := by
  obtain ⟨k, hf⟩ := ints_ok q3 (by omega)
  exact chordmaillaw27_ints.calls k A36 k36 q3 A3 c3 q3 true W (Kd.R_reads' h.R36).2.2 (Kd.R_reads' h.R36).2.1 (Kd.C_below hC h.b) hl hf
end GS
theorem size56 : (Try.prog.info? 56).map (·.size) = some [(.int .i64 (-9) : Value), .int .i64 0, .int .i64 0, .int .i64 0].length := by kernel_rfl
end Go.Proofs.Ytfflfhkbnmoalaa.Way
