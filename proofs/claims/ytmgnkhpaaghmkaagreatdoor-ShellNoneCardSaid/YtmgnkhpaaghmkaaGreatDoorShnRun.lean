/- shell.Run of a text of seven lines. -/
import Derived.Test.YtmgnkhpaaghmkaaGreatDoorShnLine
import Derived.Test.YtmgnkhpaaghmkaaGreatDoorShnNew
import Derived.Test.YtmgnkhpaaghmkaaGreatDoorShnCut
namespace Go.Proofs.YtmgnkhpaaghmkaaGreatDoor.Shn
open Go.RowKit Go.Proofs.YtmgnkhpaaghmkaaGreatDoorW.PrintWords
set_option linter.unusedVariables false
set_option linter.unusedSimpArgs false

/-- The text. -/
def TX : List Int := [35, 32, 97, 10, 10, 32, 32, 10, 10, 115, 112, 97, 119, 110, 32, 107, 10, 100, 101, 99, 108, 97, 114, 101, 10, 101, 110, 100, 10]
/-- Where its lines begin, how long they are, what they are answered. -/
def pos : Nat → Nat | 0 => 0 | 1 => 4 | 2 => 5 | 3 => 8 | 4 => 9 | 5 => 17 | 6 => 25 | _ => 29
def len : Nat → Nat | 0 => 3 | 1 => 0 | 2 => 2 | 3 => 0 | 4 => 7 | 5 => 7 | _ => 3
def dec : Nat → Bool | 6 => true | _ => false
def ans : Nat → List Int | 4 => b280 | 6 => b90 | _ => []
def lst : Nat → List Int | 5 => b280 | 6 => b280 | 7 => b280 ++ b90 | _ => []
def Text (w : World) (tb : Nat) : Prop := ∀ i, i < 29 → w.cell? ⟨tb, i, none⟩ = some (.int .u8 (TX.getD i 0))
theorem Text.below {w w' : World} {tb : Nat} (h : Text w tb) (hb : Below w.heap.size w w') : Text w' tb := fun i hi => (hb.cell (World.block_lt_of_cell? w _ (h i hi))).trans (h i hi)
theorem Text.chg {S : List Nat} {w w' : World} {tb : Nat} (h : Text w tb) (hc : Chg S w w') (hS : tb ∉ S) : Text w' tb := fun i hi => (World.cell?_of_block (hc.block tb (World.block_lt_of_cell? w _ (h i hi)) hS)).trans (h i hi)
theorem add_at (tb p j : Nat) : (⟨tb, p, none⟩ : Addr).add j = ⟨tb, p + j, none⟩ := by unfold Addr.add; split <;> simp_all
theorem Text.C {w : World} {tb : Nat} (h : Text w tb) (p : Nat) (xs : List Int) (hx : (TX.drop p).take xs.length = xs) (hp : p + xs.length ≤ 29) : Kd.C (Kd.int .u8) w (some ⟨tb, p, none⟩) xs.length xs := by
  refine Kd.C_of_reads (enc := Value.int .u8) (d := (0 : Int)) (h1 := fun _ => rfl) ⟨rfl, by omega, fun _ => ⟨_, rfl, fun j hj => ?_⟩⟩
  rw [add_at, h (p + j) (by omega)]
  have e : xs.getD j 0 = TX.getD (p + j) 0 := by
    rw [List.getD_eq_getElem?_getD, List.getD_eq_getElem?_getD, ← List.getElem?_drop]
    rw [← hx] at hj ⊢
    rw [List.getElem?_take_of_lt]
    rw [List.length_take] at hj
    omega
  rw [← e]
/-- What a line is answered: bytes that read so. -/
def Ans (w : World) (v : Value) (L : List Int) : Prop := ∃ A c, v = .slice A L.length c ∧ ReadsInt w .u8 A L.length L
theorem Told.ans {w w' : World} {v : Value} {L : List Int} (h : Told w w' v L) : Ans w' v L := by
  obtain ⟨r, c, h1, _, _, _, h5⟩ := h
  exact ⟨_, c, h1, Kd.reads_of_C (enc := Value.int .u8) (d := (0 : Int)) (h1 := fun _ => rfl) h5⟩
theorem ans_nil (w : World) : Ans w (.slice none 0 0) [] := ⟨none, 0, rfl, ReadsInt.nil w .u8⟩
set_option maxRecDepth 20000 in
theorem line_at (k : Nat) (hk : k < 7) (s m tb : Nat) (w : World) (hT : Tab w) (hX : Text w tb) (hS : Sh w s (dec k) m) (c : Nat) :
    Calls Tryz.prog 4 #[.pointer (some ⟨s, 0, none⟩), .slice (some ⟨tb, pos k, none⟩) (len k) c] w fun e w' => ∃ v, e = .returned (.tuple #[v, .int .i64 0]) ∧ Ans w' v (ans k) ∧ Sh w' s (dec (k + 1)) m ∧ Chg [s] w w' := by
  match k, hk with
  | 0, _ =>
    refine (line_hash s m _ c [35, 32, 97] ⟨#[35]⟩ [⟨#[97]⟩] w hS (hX.C 0 _ rfl (by decide)) (by decide) (by kernel_rfl) (by decide) (by kernel_rfl) (by decide) (by decide)).mono ?_
    rintro e w' ⟨rfl, hb⟩
    exact ⟨_, rfl, ans_nil w', hS.below hb, Chg.of_below hb _⟩
  | 1, _ =>
    refine (line_blank s m _ c [] w hS (hX.C 4 _ rfl (by decide)) (by decide) (by kernel_rfl) (by decide) (by kernel_rfl)).mono ?_
    rintro e w' ⟨rfl, hb⟩
    exact ⟨_, rfl, ans_nil w', hS.below hb, Chg.of_below hb _⟩
  | 2, _ =>
    refine (line_blank s m _ c [32, 32] w hS (hX.C 5 _ rfl (by decide)) (by decide) (by kernel_rfl) (by decide) (by kernel_rfl)).mono ?_
    rintro e w' ⟨rfl, hb⟩
    exact ⟨_, rfl, ans_nil w', hS.below hb, Chg.of_below hb _⟩
  | 3, _ =>
    refine (line_blank s m _ c [] w hS (hX.C 8 _ rfl (by decide)) (by decide) (by kernel_rfl) (by decide) (by kernel_rfl)).mono ?_
    rintro e w' ⟨rfl, hb⟩
    exact ⟨_, rfl, ans_nil w', hS.below hb, Chg.of_below hb _⟩
  | 4, _ =>
    refine (line_280 s m _ c [115, 112, 97, 119, 110, 32, 107] ⟨#[115, 112, 97, 119, 110]⟩ [⟨#[107]⟩] w hT hS (hX.C 9 _ rfl (by decide)) (by decide) (by kernel_rfl) (by decide) (by kernel_rfl) (by decide) (by decide) (by decide) (by rw [Go.ByteArray.toList_eq]; decide)).mono ?_
    rintro e w' ⟨v, rfl, ht, hb⟩
    exact ⟨v, rfl, ht.ans, hS.below hb, Chg.of_below hb _⟩
  | 5, _ =>
    refine (line_declare s m _ c [100, 101, 99, 108, 97, 114, 101] w hS (hX.C 17 _ rfl (by decide)) (by decide) (by kernel_rfl) (by decide) (by kernel_rfl)).mono ?_
    rintro e w' ⟨rfl, hS', hc⟩
    exact ⟨_, rfl, ans_nil w', hS', hc⟩
  | 6, _ =>
    refine (line_end s m _ c w hS (hX.C 25 _ rfl (by decide))).mono ?_
    rintro e w' ⟨v, rfl, ht, hS', hc⟩
    exact ⟨v, rfl, ht.ans, hS', hc⟩
  | n + 7, h => exact absurd h (by omega)
set_option maxRecDepth 20000 in
theorem run_long (A : Option Addr) (n c : Nat) (hn : 32768 < n) (w : World) : Calls Tryz.prog 5 #[.slice A n c] w fun e w' => e = .returned (.tuple #[.slice none 0 0, .int .i64 3]) ∧ w' = w := by
  have b0 : decide ((n : Int) > 32768) = true := by simp; omega
  have b1 : decide ((32768 : Int) < (n : Int)) = true := by simp; omega
  have b2 : decide (32768 < n) = true := by simp; omega
  go_enter Tryz.func5, Tryz.ntmps5
  go_wp2_with fail
  go_returns
  exact ⟨rfl, rfl⟩
theorem table (k : Nat) (hk : k < 7) : pos (k + 1) = pos k + len k + 1 ∧ pos k + len k < 29 ∧ Lib.indexByte (Lib.bytesOf (TX.drop (pos k))) 10 = (len k : Int) ∧ lst (k + 1) = lst k ++ ans k ∧ (lst k).length ≤ 19 ∧ (ans k).length ≤ 10 := by
  match k, hk with
  | 0, _ => exact ⟨rfl, by decide, by kernel_rfl, rfl, by decide, by decide⟩
  | 1, _ => exact ⟨rfl, by decide, by kernel_rfl, rfl, by decide, by decide⟩
  | 2, _ => exact ⟨rfl, by decide, by kernel_rfl, rfl, by decide, by decide⟩
  | 3, _ => exact ⟨rfl, by decide, by kernel_rfl, rfl, by decide, by decide⟩
  | 4, _ => exact ⟨rfl, by decide, by kernel_rfl, rfl, by decide, by decide⟩
  | 5, _ => exact ⟨rfl, by decide, by kernel_rfl, rfl, by decide, by decide⟩
  | 6, _ => exact ⟨rfl, by decide, by kernel_rfl, rfl, by decide, by decide⟩
  | n + 7, h => exact absurd h (by omega)
/-- Behind k lines. -/
def RSt (w wr : World) (tb s m k : Nat) (rest out : Value) : Prop :=
  (∃ A, rest = .slice A (29 - pos k) (29 - pos k) ∧ (pos k < 29 → A = some ⟨tb, pos k, none⟩)) ∧ wr.ownsRow w.heap.size 5 1 out (lst k).length (nums .u8 (lst k)) ∧ Sh wr s (dec k) m ∧ Text wr tb ∧ Tab wr ∧ Below w.heap.size w wr
theorem Cmds.grown {w w' : World} {m n : Nat} {row : Option Nat} (h : Cmds w m n) (hg : w.grownBy w' row) (h2 : some m ≠ row) : Cmds w' m n := by
  obtain ⟨D, ⟨es, clock, hb, F, hs, hD⟩⟩ := h
  exact ⟨D, ⟨es, clock, (hg.block m (Array.getElem?_eq_some_iff.1 hb).1 h2).trans hb, F, hs, hD⟩⟩
theorem Sh.grown {w w' : World} {s m : Nat} {d : Bool} {row : Option Nat} (h : Sh w s d m) (hg : w.grownBy w' row) (h1 : some s ≠ row) (h2 : some m ≠ row) : Sh w' s d m := ⟨blk_grown h.1 hg h1, h.2.1.grown hg h2, h.2.2⟩
theorem own_not_map {w : World} {base n m k : Nat} {e : TypeId} {v : Value} {xs : List Value} (h : w.ownsRow base e 1 v n xs) (hm : Cmds w m k) : some m ≠ v.ownBlock := by
  obtain ⟨D, ⟨es, clock, hb, _⟩⟩ := hm
  rcases h.2 with ⟨rfl, _⟩ | ⟨g', cap, cur, rfl, _, hh, _⟩
  · simp [Value.ownBlock]
  · intro he
    have : m = g' := by simpa [Value.ownBlock] using he
    subst this
    rw [hb] at hh
    injection hh with hh
    cases hh
theorem chg_grown {s : Nat} {w w' : World} (h : Chg [s] w w') : w.grownBy w' (some s) := ⟨h.os, h.tape, h.output, h.size, fun k hk hne => h.block k hk (by simpa using hne)⟩
def lenOf : Value → Nat | .slice _ n _ => n | _ => 0
theorem info5' : (Tryz.prog.info? 5).map (fun i => (i.zero, i.size, i.bytes)) = some (some (.int .u8 0), 1, 1) := by kernel_rfl
set_option maxRecDepth 20000 in
set_option maxHeartbeats 4000000 in
theorem run_text (tb : Nat) (w : World) (hT : Tab w) (hX : Text w tb) :
    Calls Tryz.prog 5 #[.slice (some ⟨tb, 0, none⟩) 29 29] w fun e w' => ∃ v, e = .returned (.tuple #[v, .int .i64 0]) ∧ Ans w' v (b280 ++ b90) ∧ Below w.heap.size w w' := by
  have HT := Lib.hid hT
  have HX := Lib.hid hX
  clear hT hX
  go_enter Tryz.func5, Tryz.ntmps5
  go_wp2_with fail
  refine (new_any _).mono ?_
  rintro e w1 ⟨s, m, rfl, hS, hs, hm, hb⟩
  have HT1 := Lib.hid (HT.out.below hb)
  have HX1 := Lib.hid (HX.out.below hb)
  have HS := Lib.hid hS
  have HM := Lib.hid (And.intro hs hm)
  have HB := Lib.hid hb
  clear hS hs hm hb
  go_wp2_with fail
  have HTB := Lib.hid (And.intro (World.block_lt_of_cell? w _ (HX.out 0 (by omega))) (World.block_lt_of_cell? w _ HT.out))
  clear HT HX
  go_loopw [5, 6] (fun out rest wr => ∃ k, k < 8 ∧ RSt w wr tb s m k rest out) (fun _ rest _ => lenOf rest)
  case atStart => exact ⟨0, by omega, ⟨⟨_, rfl, fun _ => rfl⟩, own_nil _ _ _ _, HS.out, HX1.out, HT1.out, HB.out⟩⟩
  case round =>
    obtain ⟨k, hk, ⟨A, rfl, hA⟩, hO, hS, hX, hT, hB⟩ := hrel
    by_cases h7 : k = 7
    · subst h7
      obtain ⟨Ao, co, rfl⟩ := own_slice hO
      have HO := Lib.hid hO
      have HBX := Lib.hid hB
      clear hO hS hX hT hB hA HB HX1 HT1 HS
      simp only [pos, Nat.sub_self]
      go_wp2_with fail
      go_returns
      exact ⟨_, rfl, ⟨Ao, co, rfl, own_reads' HO.out⟩, HBX.out⟩
    · obtain ⟨t1, t2, t3, t4, t5, t6⟩ := table k (by omega)
      have HL := Lib.hid (fun (W : World) (c : Nat) (hT : Tab W) (hX : Text W tb) (hS : Sh W s (dec k) m) => line_at k (by omega) s m tb W hT hX hS c)
      obtain rfl := hA (by omega)
      have HK := Lib.hid (And.intro t1 (And.intro t4 (show k + 1 < 8 by omega)))
      obtain ⟨p, hp⟩ : ∃ p, p = pos k := ⟨_, rfl⟩
      obtain ⟨i, hi⟩ : ∃ i, i = len k := ⟨_, rfl⟩
      obtain ⟨d, hd⟩ : ∃ d, d = dec k := ⟨_, rfl⟩
      have HPI := Lib.hid (And.intro hp hi)
      rw [← hp, ← hi] at HL t2 t3
      rw [← hp] 
      rw [← hd] at HL hS
      clear hp hi hd t1 t4 hA h7 HB HX1 HT1 HS
      obtain ⟨Ao, co, rfl⟩ := own_slice hO
      have HO := Lib.hid hO
      have HS := Lib.hid hS
      have HX := Lib.hid hX
      have HT := Lib.hid hT
      have HB := Lib.hid hB
      clear hO hS hX hT hB
      have b0 : decide (((29 - p : Nat) : Int) > 0) = true := by simp; omega
      have b1 : decide ((0 : Int) < ((29 - p : Nat) : Int)) = true := by simp; omega
      have b2 : decide (0 < 29 - p) = true := by simp; omega
      go_wp2_with fail
      have hbn := below_alloc (Below.refl wr.heap.size wr) (.cells #[.int .u8 10] 5)
      have hXn := HX.out.below hbn
      have hcn : (wr.alloc (.cells #[.int .u8 10] 5)).cell? ⟨wr.heap.size, 0, none⟩ = some (.int .u8 10) := by simp
      refine (cut_hit tb p (29 - p) wr.heap.size 1 i (TX.drop p) _ (by rw [List.length_drop]; rfl) t3 (by omega) (by omega) (fun j hj => by
        rw [add_at, hXn (p + j) (by omega), List.getD_eq_getElem?_getD, List.getD_eq_getElem?_getD, List.getElem?_drop]) hcn).mono ?_
      rintro e w2 ⟨⟨A2, rfl, hA2⟩, q, rfl⟩
      have hb2 := pw_below_drewN hbn q
      generalize (wr.alloc (.cells #[.int .u8 10] 5)).drewN q = w2 at hb2 ⊢
      have HA2 := Lib.hid hA2
      have HO2 := Lib.hid (pw_own_below HO.out hb2)
      have HS2 := Lib.hid (HS.out.below hb2)
      have HX2 := Lib.hid (HX.out.below hb2)
      have HT2 := Lib.hid (HT.out.below hb2)
      have HB2 := Lib.hid (HB.out.trans (hb2.mono HB.out.size))
      clear hbn hXn hcn hb2 hA2 HO HS HX HT HB b0 b1 b2 t3
      go_wp2_with fail
      refine (HL.out _ _ HT2.out HX2.out HS2.out).mono ?_
      rintro e w3 ⟨v, rfl, ⟨Av, cv, rfl, hR⟩, hS3, hc3⟩
      have hne := own_ne HO2.out HS2.out.1 (by decide)
      have HO3 := Lib.hid (own_other HO2.out (chg_grown hc3) (.inr hne.symm))
      have HX3 := Lib.hid (HX2.out.chg hc3 (by have := HTB.out.1; have := HM.out.1; simp at *; omega))
      have HT3 := Lib.hid (HT2.out.chg hc3 (by have := HTB.out.2; have := HM.out.1; simp at *; omega))
      have HB3 := Lib.hid (HB2.out.trans (hc3.below HB2.out.size (by have := HM.out.1; simp; omega)))
      have HS3 := Lib.hid hS3
      have HR3 := Lib.hid hR
      have hw : IntKind.i64.wrap (((lst k).length : Int) + ((ans k).length : Int)) = ((lst k).length : Int) + ((ans k).length : Int) := by rw [IntKind.wrap_i64]; omega
      have b0 : decide (((lst k).length : Int) + ((ans k).length : Int) > 1048576) = false := by simp; omega
      have b1 : decide ((1048576 : Int) < ((lst k).length : Int) + ((ans k).length : Int)) = false := by simp; omega
      clear hS3 hR hc3 hne HO2 HS2 HX2 HT2 HB2 HL
      go_wp2_with (at_builtin; refine print_append_row (w0 := w) w.heap.size rfl _ _ 23 5 .u8 1 rfl Tryz.underlying23 info5' (by decide) (.slice Ao (lst k).length co) (lst k) (ans k) Av (ans k).length cv rfl rfl HO3.out HR3.out HB3.out HB3.out.size (by omega) ?_; intro v1 w4 hO4 hB4 hg4 hat4; have HH4 := Lib.hid (And.intro hO4 (And.intro hB4 hg4)); clear hO4 hB4 hg4 hat4)
      go_roundw
      case rel =>
        obtain ⟨hO4, hB4, hg4⟩ := HH4.out
        obtain ⟨hp, hi⟩ := HPI.out
        have hpos : pos (k + 1) = p + i + 1 := by rw [HK.out.1, ← hp, ← hi]
        have hne := own_ne HO3.out HS3.out.1 (by decide)
        have hnm := own_not_map HO3.out HS3.out.2.1
        refine ⟨k + 1, HK.out.2.2, ⟨⟨A2, ?_, fun h => ?_⟩, ?_, HS3.out.grown hg4 hne hnm, fun j hj => ?_, ?_, hB4⟩⟩
        · rw [hpos, show 29 - (p + i + 1) = 29 - p - (i + 1) by omega]
        · rw [HA2.out (by omega), add_at, hpos, Nat.add_assoc]
        · rw [HK.out.2.1]; exact hO4
        · exact (World.cell?_of_block (hg4.block tb (Nat.lt_of_lt_of_le HTB.out.1 HB3.out.size) (fun e => by
            rcases own_base' HO3.out with h0 | ⟨b, h0, h1⟩
            · rw [h0] at e; cases e
            · rw [h0] at e
              injection e with e
              have := HTB.out.1
              omega))).trans (HX3.out j hj)
        · exact (World.cell?_of_block (hg4.block 2 (Nat.lt_of_lt_of_le HTB.out.2 HB3.out.size) (fun e => by
            rcases own_base' HO3.out with h0 | ⟨b, h0, h1⟩
            · rw [h0] at e; cases e
            · rw [h0] at e
              injection e with e
              have := HTB.out.2
              omega))).trans HT3.out
      case measure => simp [lenOf]; omega
end Go.Proofs.YtmgnkhpaaghmkaaGreatDoor.Shn
