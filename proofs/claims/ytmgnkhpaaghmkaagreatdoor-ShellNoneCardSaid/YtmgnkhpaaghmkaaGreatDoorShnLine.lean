/- shell.Line of a shell without a tape. -/
import Derived.Test.YtmgnkhpaaghmkaaGreatDoorShnWords
import Derived.Test.YtmgnkhpaaghmkaaGreatDoorShnNum
import Derived.Test.YtmgnkhpaaghmkaaGreatDoorShnParse
namespace Go.Proofs.YtmgnkhpaaghmkaaGreatDoor.Shn
open Go.RowKit Go.Proofs.YtmgnkhpaaghmkaaGreatDoorW.PrintWords
set_option linter.unusedVariables false
set_option linter.unusedSimpArgs false

theorem Chg.then_ {S : List Nat} {w w1 w2 : World} (h : Chg S w w1) (hb : Below w1.heap.size w1 w2) : Chg S w w2 := h.trans (Chg.of_below hb S)

set_option maxRecDepth 20000 in
theorem line_nil (A : Option Addr) (n c : Nat) (w : World) : Calls Tryz.prog 4 #[.pointer none, .slice A n c] w fun e w' => e = .returned (.tuple #[.slice none 0 0, .int .i64 1]) ∧ w' = w := by
  go_enter Tryz.func4, Tryz.ntmps4
  go_wp2_with fail
  go_returns
  exact ⟨rfl, rfl⟩
set_option maxRecDepth 20000 in
theorem line_long (s : Nat) (A : Option Addr) (n c : Nat) (hn : 32768 < n) (w : World) : Calls Tryz.prog 4 #[.pointer (some ⟨s, 0, none⟩), .slice A n c] w fun e w' => e = .returned (.tuple #[.slice none 0 0, .int .i64 3]) ∧ w' = w := by
  have b0 : decide ((n : Int) > 32768) = true := by simp; omega
  have b1 : decide ((32768 : Int) < (n : Int)) = true := by simp; omega
  have b2 : decide (32768 < n) = true := by simp; omega
  go_enter Tryz.func4, Tryz.ntmps4
  go_wp2_with fail
  go_returns
  exact ⟨rfl, rfl⟩
set_option maxRecDepth 20000 in
set_option maxHeartbeats 1000000 in
theorem declared_end (s m : Nat) (A : Option Addr) (c : Nat) (w : World) (hS : Sh w s true m) (hx : Kd.C (Kd.int .u8) w A [101, 110, 100].length [101, 110, 100]) :
    Calls Tryz.prog 8 #[.pointer (some ⟨s, 0, none⟩), .slice A 3 c] w fun e w' => e = .returned (.string e90) ∧ Sh w' s false m ∧ Chg [s] w w' := by
  have hs : (convert 23 9 (.slice A 3 c)).run Tryz.prog w = .ok (.string ⟨#[101, 110, 100]⟩) w := str_C hx
  have HS := Lib.hid hS
  have x2 := hS.1.cell 2
  have x3 := hS.1.cell 3
  have x4 := hS.1.cell 4
  have f3 := hS.1.frozen 3
  simp at x2 x3 x4
  clear hS hx
  go_enter Tryz.func8, Tryz.ntmps8
  go_wp2_with fail
  have hS1 : Sh (w.setCell ⟨s, 3, none⟩ (.bool false)) s false m := ⟨HS.out.1.set_ 3 _, HS.out.2.1.chg (S := [s]) ((Chg.refl _ _).setCell (.inl (by simp)) _) (by simpa using HS.out.2.2), HS.out.2.2⟩
  have hc1 : Chg [s] w (w.setCell ⟨s, 3, none⟩ (.bool false)) := (Chg.refl _ _).setCell (.inl (by simp)) _
  generalize w.setCell ⟨s, 3, none⟩ (.bool false) = w1 at hS1 hc1 ⊢
  clear x2 x3 x4 f3 HS hs
  have HS1 := Lib.hid hS1
  have HC1 := Lib.hid hc1
  clear hS1 hc1
  refine (parse_none _).mono ?_
  rintro e w2 ⟨rfl, hb⟩
  have HS2 := Lib.hid (HS1.out.below hb)
  have HC2 := Lib.hid (HC1.out.then_ hb)
  have HN := Lib.hid (Blk.new w2 33 #[.slice none 0 0, .slice none 0 0])
  have HA := Lib.hid ((Below.refl w2.heap.size w2).alloc (Nat.le_refl _) (.cells #[.slice none 0 0, .slice none 0 0] 33))
  clear hb HS1 HC1
  have HT := Lib.hid tapenew_none
  unfold prog0 at HT ⊢
  go_wp2_with fail
  refine (HT.out _).mono ?_
  rintro e w3 ⟨rfl, hb⟩
  have hb3 := HA.out.trans (hb.mono HA.out.size)
  have HS3 := Lib.hid (HS2.out.below hb3)
  have HC3 := Lib.hid (HC2.out.then_ hb3)
  clear hb hb3 HS2 HC2 HA HN HT
  go_wp2_with fail
  refine (refused_90 _).mono ?_
  rintro e w4 ⟨rfl, hb⟩
  have HS4 := Lib.hid (HS3.out.below hb)
  have HC4 := Lib.hid (HC3.out.then_ hb)
  clear hb HS3 HC3
  go_wp2_with fail
  go_returns
  exact ⟨rfl, HS4.out, HC4.out⟩

/-- Bytes of one's own: what a line is answered. -/
def Told (w w' : World) (v : Value) (L : List Int) : Prop := ∃ r c, v = .slice (some ⟨r, 0, none⟩) L.length c ∧ L.length ≤ c ∧ w.heap.size ≤ r ∧ r < w'.heap.size ∧ Kd.C (Kd.int .u8) w' (some ⟨r, 0, none⟩) L.length L
def b280 : List Int := [101, 114, 114, 111, 114, 32, 50, 56, 48, 10]
def b90 : List Int := [101, 114, 114, 111, 114, 32, 57, 48, 10]
theorem told_bytes (w : World) (s : ByteArray) (L : List Int) (hL : bytesOf s = L) (hs : s.size ≤ 100) (v : Value) (hv : v = .slice (some ⟨w.heap.size, 0, none⟩) s.size (grownCap w s.size 0 5)) : Told w (Lib.bytesWorld w 5 s) v L := by
  have hl : L.length = s.size := by rw [← hL, bytesOf_length]
  refine ⟨w.heap.size, _, by rw [hl]; exact hv, by rw [hl]; exact grownCap_ge _ _ _ _, Nat.le_refl _, by rw [Lib.bytesWorld_size]; omega, ?_⟩
  have h := bytes_reads w 5 s (by omega)
  rw [hL, ← hl] at h
  exact Kd.C_of_reads (enc := Value.int .u8) (d := (0 : Int)) (h1 := fun _ => rfl) h
theorem bytes_below' (w : World) (s : ByteArray) : Below w.heap.size w (Lib.bytesWorld w 5 s) :=
  ⟨rfl, rfl, rfl, by rw [Lib.bytesWorld_size]; omega, fun k hk => Lib.bytesWorld_at_old w 5 s k hk⟩
theorem Told.later {w0 w w' : World} {v : Value} {L : List Int} (h : Told w w' v L) (hs : w0.heap.size ≤ w.heap.size) : Told w0 w' v L := by
  obtain ⟨r, c, h1, h2, h3, h4⟩ := h
  exact ⟨r, c, h1, h2, Nat.le_trans hs h3, h4⟩
theorem Told.below {w w' w2 : World} {v : Value} {L : List Int} (h : Told w w' v L) (hb : Below w'.heap.size w' w2) : Told w w2 v L := by
  obtain ⟨r, c, h1, h2, h3, h4, h5⟩ := h
  exact ⟨r, c, h1, h2, h3, Nat.lt_of_lt_of_le h4 hb.size, Kd.C_below h5 hb⟩
set_option maxRecDepth 20000 in
set_option maxHeartbeats 1000000 in
theorem line_end (s m : Nat) (A : Option Addr) (c : Nat) (w : World) (hS : Sh w s true m) (hx : Kd.C (Kd.int .u8) w A [101, 110, 100].length [101, 110, 100]) :
    Calls Tryz.prog 4 #[.pointer (some ⟨s, 0, none⟩), .slice A 3 c] w fun e w' => ∃ v, e = .returned (.tuple #[v, .int .i64 0]) ∧ Told w w' v b90 ∧ Sh w' s false m ∧ Chg [s] w w' := by
  have HD := Lib.hid (declared_end s m A c w hS hx)
  have x3 := hS.1.cell 3
  simp at x3
  have hlt := hS.1.lt
  have HCV := Lib.hid (fun W : World => Lib.run_convert_string_bytes (P := Tryz.prog) W 9 23 5 e90 Tryz.underlying9 Tryz.underlying23 Tryz.underlying5)
  clear hS hx
  go_enter Tryz.func4, Tryz.ntmps4
  go_wp2_with fail
  refine HD.out.mono ?_
  rintro e w1 ⟨rfl, hS1, hc1⟩
  have hcv := HCV.out w1
  have HS1 := Lib.hid hS1
  have HC1 := Lib.hid hc1
  clear hS1 hc1 HD HCV
  go_wp2_with fail
  go_returns
  exact ⟨_, rfl, (told_bytes w1 e90 b90 rfl (by decide) _ rfl).later HC1.out.size, HS1.out.below (bytes_below' w1 e90), HC1.out.then_ (bytes_below' w1 e90)⟩
/-- What the words of a line bring about. -/
def Quiet (ws : List ByteArray) : Prop := ws = [] ∨ ∃ x rest, ws = x :: rest ∧ 0 < x.size ∧ bt x 0 = 35
set_option maxRecDepth 20000 in
set_option maxHeartbeats 1000000 in
theorem line_blank (s m : Nat) (A : Option Addr) (c : Nat) (xs : List Int) (w : World) (hS : Sh w s false m) (hx : Kd.C (Kd.int .u8) w A xs.length xs) (hl : xs.length ≤ 32768) (hz : (strOfNums xs).size = xs.length)
    (hq : ∀ j : Nat, j < (strOfNums xs).size → bt (strOfNums xs) j ≠ 34) (hw : wds (strOfNums xs) ((strOfNums xs).size + 1) 0 = []) :
    Calls Tryz.prog 4 #[.pointer (some ⟨s, 0, none⟩), .slice A xs.length c] w fun e w' => e = .returned (.tuple #[.slice none 0 0, .int .i64 0]) ∧ Below w.heap.size w w' := by
  have hs := str_C (c := c) hx
  have HW := Lib.hid (words_empty (strOfNums xs) w hq (by rw [hz]; exact hl) hw)
  have x3 := hS.1.cell 3
  simp at x3
  have b1 : decide ((32768 : Int) < (xs.length : Int)) = false := by simp; omega
  have b2 : decide (32768 < xs.length) = false := by simp; omega
  clear hS hx hq hw hl hz
  generalize strOfNums xs = S at hs HW
  go_enter Tryz.func4, Tryz.ntmps4
  go_wp2_with fail
  refine HW.out.mono ?_
  rintro e w1 ⟨A1, c1, rfl, hb⟩
  have HB := Lib.hid hb
  clear hb HW
  go_wp2_with fail
  go_returns
  exact ⟨rfl, HB.out⟩
theorem nat1 (n : Nat) : (((n + 1 : Nat) : Int) == 0) = false := by simp; omega
set_option maxRecDepth 20000 in
set_option maxHeartbeats 1000000 in
theorem line_hash (s m : Nat) (A : Option Addr) (c : Nat) (xs : List Int) (x : ByteArray) (rest : List ByteArray) (w : World) (hS : Sh w s false m) (hx : Kd.C (Kd.int .u8) w A xs.length xs) (hl : xs.length ≤ 32768) (hz : (strOfNums xs).size = xs.length)
    (hq : ∀ j : Nat, j < (strOfNums xs).size → bt (strOfNums xs) j ≠ 34) (hw : wds (strOfNums xs) ((strOfNums xs).size + 1) 0 = x :: rest) (h0 : 0 < x.size) (hb : bt x 0 = 35) :
    Calls Tryz.prog 4 #[.pointer (some ⟨s, 0, none⟩), .slice A xs.length c] w fun e w' => e = .returned (.tuple #[.slice none 0 0, .int .i64 0]) ∧ Below w.heap.size w w' := by
  have hs := str_C (c := c) hx
  have HW := Lib.hid (words_first (strOfNums xs) x rest w hq (by rw [hz]; exact hl) hw)
  have x3 := hS.1.cell 3
  simp at x3
  have b1 : decide ((32768 : Int) < (xs.length : Int)) = false := by simp; omega
  have b2 : decide (32768 < xs.length) = false := by simp; omega
  have b3 : (((rest.length : Int) + 1) == 0) = false := by simp; omega
  have hbe : ((x[0]'h0).toNat : Int) = bt x 0 := bt_at x 0 h0
  have b4 : (((x[0]'h0).toNat : Int) == 35) = true := by rw [hbe]; simp [hb]
  clear hS hx hq hw hl hz hbe hb
  generalize strOfNums xs = S at hs HW
  go_enter Tryz.func4, Tryz.ntmps4
  go_wp2_with fail
  refine HW.out.mono ?_
  rintro e w1 ⟨g, c1, rfl, y0, hb⟩
  have HB := Lib.hid hb
  clear hb HW
  go_wp2_with fail
  go_returns
  exact ⟨rfl, HB.out⟩
set_option maxRecDepth 20000 in
set_option maxHeartbeats 1000000 in
theorem line_declare (s m : Nat) (A : Option Addr) (c : Nat) (xs : List Int) (w : World) (hS : Sh w s false m) (hx : Kd.C (Kd.int .u8) w A xs.length xs) (hl : xs.length ≤ 32768) (hz : (strOfNums xs).size = xs.length)
    (hq : ∀ j : Nat, j < (strOfNums xs).size → bt (strOfNums xs) j ≠ 34) (hw : wds (strOfNums xs) ((strOfNums xs).size + 1) 0 = [⟨#[100, 101, 99, 108, 97, 114, 101]⟩]) :
    Calls Tryz.prog 4 #[.pointer (some ⟨s, 0, none⟩), .slice A xs.length c] w fun e w' => e = .returned (.tuple #[.slice none 0 0, .int .i64 0]) ∧ Sh w' s true m ∧ Chg [s] w w' := by
  have hs := str_C (c := c) hx
  have HW := Lib.hid (words_first (strOfNums xs) _ [] w hq (by rw [hz]; exact hl) hw)
  have HS := Lib.hid hS
  have x3 := hS.1.cell 3
  simp at x3
  have b1 : decide ((32768 : Int) < (xs.length : Int)) = false := by simp; omega
  have b2 : decide (32768 < xs.length) = false := by simp; omega
  clear hS hx hq hw hl hz
  generalize strOfNums xs = S at hs HW
  go_enter Tryz.func4, Tryz.ntmps4
  go_wp2_with fail
  refine HW.out.mono ?_
  rintro e w1 ⟨g, c1, rfl, y0, hb⟩
  have hS1 := HS.out.below hb
  have HS1 := Lib.hid hS1
  have HB := Lib.hid hb
  clear x3
  have x3 := hS1.1.cell 3
  have x4 := hS1.1.cell 4
  have f3 := hS1.1.frozen 3
  have f4 := hS1.1.frozen 4
  simp at x3 x4
  clear hb HW HS hS1
  go_wp2_with fail
  go_returns
  exact ⟨rfl, ⟨(HS1.out.1.set_ 3 _).set_ 4 _, HS1.out.2.1.chg (S := [s]) (((Chg.refl _ _).setCell (.inl (by simp)) _).setCell (.inl (by simp)) _) (by simpa using HS1.out.2.2), HS1.out.2.2⟩,
    ((Chg.of_below HB.out [s]).setCell (.inl (by simp)) _).setCell (.inl (by simp)) _⟩
set_option maxRecDepth 20000 in
set_option maxHeartbeats 1000000 in
theorem line_280 (s m : Nat) (A : Option Addr) (c : Nat) (xs : List Int) (x : ByteArray) (rest : List ByteArray) (w : World) (hT : Tab w) (hS : Sh w s false m) (hx : Kd.C (Kd.int .u8) w A xs.length xs) (hl : xs.length ≤ 32768) (hz : (strOfNums xs).size = xs.length)
    (hq : ∀ j : Nat, j < (strOfNums xs).size → bt (strOfNums xs) j ≠ 34) (hw : wds (strOfNums xs) ((strOfNums xs).size + 1) 0 = x :: rest) (h0 : 0 < x.size) (hxl : x.size ≤ 32768) (hb : bt x 0 ≠ 35) (hd : (x.toList == [100, 101, 99, 108, 97, 114, 101]) = false) :
    Calls Tryz.prog 4 #[.pointer (some ⟨s, 0, none⟩), .slice A xs.length c] w fun e w' => ∃ v, e = .returned (.tuple #[v, .int .i64 0]) ∧ Told w w' v b280 ∧ Below w.heap.size w w' := by
  have hs := str_C (c := c) hx
  have HW := Lib.hid (words_first (strOfNums xs) x rest w hq (by rw [hz]; exact hl) hw)
  have HS := Lib.hid hS
  have HT := Lib.hid hT
  clear hT
  have x3 := hS.1.cell 3
  simp at x3
  have b1 : decide ((32768 : Int) < (xs.length : Int)) = false := by simp; omega
  have b2 : decide (32768 < xs.length) = false := by simp; omega
  have b3 : (((rest.length : Int) + 1) == 0) = false := by simp; omega
  have hbe : ((x[0]'h0).toNat : Int) = bt x 0 := bt_at x 0 h0
  have b4 : (((x[0]'h0).toNat : Int) == 35) = false := by rw [hbe]; simp [hb]
  have HXL := Lib.hid (show x.size ≤ maxLen from Nat.le_trans hxl (by decide))
  clear hS hx hq hw hl hz hbe hb hxl
  have HCV := Lib.hid (fun W : World => Lib.run_convert_string_bytes (P := Tryz.prog) W 9 23 5 e280 Tryz.underlying9 Tryz.underlying23 Tryz.underlying5)
  generalize strOfNums xs = S at hs HW
  go_enter Tryz.func4, Tryz.ntmps4
  go_wp2_with fail
  refine HW.out.mono ?_
  rintro e w1 ⟨g, c1, rfl, y0, hb⟩
  have hS1 := HS.out.below hb
  have HB := Lib.hid hb
  clear x3
  have x2 := hS1.1.cell 2
  have x5 := hS1.1.cell 5
  simp at x2 x5
  obtain ⟨cv, cb, hlook⟩ := hS1.2.1.looks x HXL.out
  have hlook0 := hlook 0
  clear hb HW HS hS1 HXL
  cases cb
  all_goals
    go_wp2_with fail
    go_quiet (fail)
    go_wp2_with fail
    have hb1 := pw_below_drewN HB.out nq
    generalize w1.drewN nq = w2 at hb1 ⊢
    refine (refused_280 _ (HT.out.below hb1)).mono ?_
    rintro e w3 ⟨rfl, hb2⟩
    have hb3 := hb1.trans (hb2.mono hb1.size)
    have hcv := HCV.out w3
    have HB3 := Lib.hid hb3
    clear hb1 hb2 hb3 hlook hlook0 y0 x2 x5 HB HCV
    go_wp2_with fail
    go_returns
    exact ⟨_, rfl, (told_bytes w3 e280 b280 rfl (by decide) _ rfl).later HB3.out.size, HB3.out.trans ((bytes_below' w3 e280).mono HB3.out.size)⟩
end Go.Proofs.YtmgnkhpaaghmkaaGreatDoor.Shn
