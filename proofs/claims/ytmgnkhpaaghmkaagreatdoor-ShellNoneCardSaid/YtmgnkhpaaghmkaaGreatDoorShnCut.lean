/- bytes.Cut at one byte that is there. -/
import Derived.Test.YtmgnkhpaaghmkaaGreatDoorShnBase
import Derived.Shelf.Bytes.SlIndexAt
namespace Go.Proofs.YtmgnkhpaaghmkaaGreatDoor.Shn
open Go.RowKit Go.Proofs.YtmgnkhpaaghmkaaGreatDoorW.PrintWords
set_option linter.unusedVariables false
set_option linter.unusedSimpArgs false

set_option maxRecDepth 20000 in
set_option maxHeartbeats 1000000 in
theorem index_byte (a : Addr) (n c : Nat) (xs : List Int) (cv : Int) (w : World) (hx : xs.length = n) (hc : ∀ i, i < n → w.cell? (a.add i) = some (.int .u8 (xs.getD i 0))) :
    Calls Tryz.prog 42 #[.slice (some a) n c, .int .u8 cv] w fun e w' => e = .returned (.int .i64 (Lib.indexByte (Lib.bytesOf xs) cv.toNat.toUInt8)) ∧ w' = w := by
  go_enter Tryz.func42, Tryz.ntmps42
  go_wp2
  rw [run_callFunc_extern Tryz.func92 (by kernel_rfl) (by kernel_rfl) (by kernel_rfl) (e := Extern.BytealgIndexByte.indexByte) (by kernel_rfl), Lib.run_indexByteAt w a n c xs hx hc cv]
  simp only [Result.andThen]
  rw [Oper.upon_value]
  go_wp2
  go_ret
  exact ⟨rfl, rfl⟩
set_option maxRecDepth 20000 in
set_option maxHeartbeats 1000000 in
theorem index_one (a : Addr) (n c b d : Nat) (xs : List Int) (cv : Int) (w : World) (hx : xs.length = n) (hc : ∀ i, i < n → w.cell? (a.add i) = some (.int .u8 (xs.getD i 0))) (hb : w.cell? ⟨b, 0, none⟩ = some (.int .u8 cv)) :
    Calls Tryz.prog 17 #[.slice (some a) n c, .slice (some ⟨b, 0, none⟩) 1 d] w fun e w' => e = .returned (.int .i64 (Lib.indexByte (Lib.bytesOf xs) cv.toNat.toUInt8)) ∧ w' = w := by
  have HI := Lib.hid (index_byte a n c xs cv w hx hc)
  clear hc hx
  go_enter Tryz.func17, Tryz.ntmps17
  go_wp2_with fail
  refine HI.out.mono ?_
  rintro e w1 ⟨rfl, rfl⟩
  go_wp2_with fail
  go_ret
  exact ⟨rfl, rfl⟩
set_option maxRecDepth 20000 in
set_option maxHeartbeats 1000000 in
theorem cut_hit (tb k n : Nat) (b d i : Nat) (xs : List Int) (w : World) (hx : xs.length = n) (hi : Lib.indexByte (Lib.bytesOf xs) 10 = (i : Int)) (hin : i < n) (hn : n ≤ 32768) (hc : ∀ i, i < n → w.cell? ((⟨tb, k, none⟩ : Addr).add i) = some (.int .u8 (xs.getD i 0))) (hb : w.cell? ⟨b, 0, none⟩ = some (.int .u8 10)) :
    Calls Tryz.prog 11 #[.slice (some ⟨tb, k, none⟩) n n, .slice (some ⟨b, 0, none⟩) 1 d] w fun e w' => (∃ A, e = .returned (.tuple #[.slice (some ⟨tb, k, none⟩) i n, .slice A (n - (i + 1)) (n - (i + 1)), .bool true]) ∧ (i + 1 < n → A = some ((⟨tb, k, none⟩ : Addr).add (i + 1)))) ∧ ∃ q, w' = w.drewN q := by
  have HI := Lib.hid (index_one ⟨tb, k, none⟩ n n b d xs 10 w hx hc hb)
  rw [show (10 : Int).toNat.toUInt8 = 10 from rfl, hi] at HI
  have b0 : decide ((i : Int) ≥ 0) = true := by simp
  have b1 : decide ((0 : Int) ≤ (i : Int)) = true := by simp
  obtain ⟨i5, hi5, he5⟩ := Option.map_eq_some_iff.1 (show (Tryz.prog.info? 5).map (·.size) = some 1 by kernel_rfl)
  have hs1 : ∀ W : World, (Instr.slice 23 (.slice (some ⟨tb, k, none⟩) n n) none (some (.int .i64 (i : Int))) none).run Tryz.prog W = .ok (.slice (some ⟨tb, k, none⟩) i n) W := fun W => by
    have h := cut_to (P := Tryz.prog) 23 5 .i64 Tryz.underlying23 hi5 (some ⟨tb, k, none⟩) n n (i : Int) (by omega) (by omega) (Nat.le_refl _) W
    simpa using h
  obtain ⟨A, hA⟩ : ∃ A : Option Addr, A = if n = i + 1 then some ⟨tb, k, none⟩ else some ((⟨tb, k, none⟩ : Addr).add (i + 1)) := ⟨_, rfl⟩
  have hs2 : ∀ W : World, (Instr.slice 23 (.slice (some ⟨tb, k, none⟩) n n) (some (.int .i64 ((i : Int) + 1))) none none).run Tryz.prog W = .ok (.slice A (n - (i + 1)) (n - (i + 1))) W := fun W => by
    have h := cut_from (P := Tryz.prog) 23 5 .i64 Tryz.underlying23 hi5 1 he5 (some ⟨tb, k, none⟩) n n ((i + 1 : Nat) : Int) (by omega) (by omega) W
    rw [hA]
    simpa using h
  have hAi : i + 1 < n → A = some ((⟨tb, k, none⟩ : Addr).add (i + 1)) := fun h => by rw [hA, if_neg (by omega)]
  have HAI := Lib.hid hAi
  clear hA hAi hi5 he5
  have hw : IntKind.i64.wrap ((i : Int) + 1) = (i : Int) + 1 := by rw [IntKind.wrap_i64]; omega
  clear hc hx hb hi
  go_enter Tryz.func11, Tryz.ntmps11
  go_wp2_with fail
  refine HI.out.mono ?_
  rintro e w1 ⟨rfl, rfl⟩
  clear hin hn
  go_wp2_with fail
  go_quiet (fail)
  go_wp2_with fail
  go_returns
  exact ⟨⟨A, rfl, HAI.out⟩, _, rfl⟩
end Go.Proofs.YtmgnkhpaaghmkaaGreatDoor.Shn
