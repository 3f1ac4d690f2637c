/- A line of 32768 zeros is no command. -/
import Derived.Test.YtmgnkhpaaghmkaaGreatDoorShnLine
namespace Go.Proofs.YtmgnkhpaaghmkaaGreatDoor.Shn
open Go.RowKit Go.Proofs.YtmgnkhpaaghmkaaGreatDoorW.PrintWords
set_option linter.unusedVariables false
set_option linter.unusedSimpArgs false

theorem str_size (xs : List Int) : (strOfNums xs).size = xs.length := by
  show (strOfNums xs).data.size = _
  simp [strOfNums]
theorem str_zeros (n j : Nat) : bt (strOfNums (List.replicate n (0 : Int))) j = 0 := by
  unfold bt
  split
  · rename_i h
    show (((strOfNums (List.replicate n (0 : Int))).data[(j : Int).toNat]'h).toNat : Int) = 0
    simp [strOfNums]
  · rfl
theorem line_zeros (n s m : Nat) (A : Option Addr) (c : Nat) (w : World) (h0 : 8 ≤ n) (hn : n ≤ 32768) (hT : Tab w) (hS : Sh w s false m) (hx : Kd.C (Kd.int .u8) w A (List.replicate n (0 : Int)).length (List.replicate n (0 : Int))) :
    Calls Tryz.prog 4 #[.pointer (some ⟨s, 0, none⟩), .slice A n c] w fun e w' => ∃ v, e = .returned (.tuple #[v, .int .i64 0]) ∧ Told w w' v b280 ∧ Below w.heap.size w w' := by
  have hsz : (strOfNums (List.replicate n (0 : Int))).size = n := by rw [str_size, List.length_replicate]
  have h := line_280 s m A c (List.replicate n (0 : Int)) (strOfNums (List.replicate n (0 : Int))) [] w hT hS hx (by rw [List.length_replicate]; exact hn) (str_size _) (fun j _ => by rw [str_zeros]; decide)
    (wds_one (fun j _ => by rw [str_zeros]; decide) (by omega)) (by omega) (by omega) (by have := str_zeros n 0; simp at this; rw [this]; decide) (by
      rw [Go.ByteArray.toList_eq]
      rw [beq_eq_false_iff_ne]
      intro e
      have := congrArg List.length e
      have hz : (strOfNums (List.replicate n (0 : Int))).data.toList.length = n := by rw [data_length]; exact hsz
      rw [hz] at this
      simp at this
      omega)
  rw [List.length_replicate] at h
  exact h
end Go.Proofs.YtmgnkhpaaghmkaaGreatDoor.Shn
