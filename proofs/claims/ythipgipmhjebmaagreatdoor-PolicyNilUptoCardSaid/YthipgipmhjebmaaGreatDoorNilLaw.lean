/- The walk through chordmaillaw25.PolicyNil. -/
import Derived.Test.YthipgipmhjebmaaGreatDoorNilRun
import Derived.Test.YthipgipmhjebmaaGreatDoorNilLots
namespace Go.Proofs.YthipgipmhjebmaaGreatDoor.Pol
open Go.RowKit Go.Proofs.YthipgipmhjebmaaGreatDoorW.PrintWords
set_option linter.unusedVariables false
set_option linter.unusedSimpArgs false
open Lots (lent_any)

theorem new_int (kind seed : Int) (w : World) (h1 : 1 ≤ kind) (h5 : kind ≤ 5) : Calls Tryz.prog 7 #[.int .i64 kind, .int .u64 seed] w fun e w' =>
    ∃ (p : Nat) (S : List Nat) (st : PS), e = .returned (.tuple #[.pointer (some ⟨p, 0, none⟩), .int .i64 0]) ∧ Pl w' p S st ∧ (∀ x ∈ S, w.heap.size ≤ x) ∧ Below w.heap.size w w' := by
  obtain ⟨k, rfl⟩ : ∃ k : Nat, kind = k := ⟨kind.toNat, by omega⟩
  refine (new_any k seed w (by omega) (by omega)).mono ?_
  rintro e w' ⟨p, S, he, hP, hS, hb⟩
  exact ⟨p, S, _, he, hP, hS, hb⟩
theorem Pl.below {w w' : World} {p : Nat} {S : List Nat} {st : PS} (h : Pl w p S st) (hb : Below w.heap.size w w') : Pl w' p S st := by
  cases st with
  | first => exact ⟨h.1, h.2.below hb h.2.lt⟩
  | last => exact ⟨h.1, h.2.below hb h.2.lt⟩
  | turns a => obtain ⟨t, h1, h2, h3, h4⟩ := h; exact ⟨t, h1, h2, h3.below hb h3.lt, h4.below hb h4.lt⟩
  | lot x => obtain ⟨t, h1, h2, h3, h4⟩ := h; exact ⟨t, h1, h2, h3.below hb h3.lt, h4.below hb h4.lt⟩
  | old n f =>
    obtain ⟨t, m, h1, h2, h3, h4, h5, h6, h7⟩ := h
    exact ⟨t, m, h1, h2, h3, h4, h5.below hb h5.lt, h6.below hb h6.lt, h7.chg (S := []) (Chg.of_below hb _) (by simp)⟩
theorem C_below' {w w' : World} {A : Option Addr} {n : Nat} {xs : List (Int × Int)} (h : kP.C w A n xs) (hb : Below w.heap.size w w') : kP.C w' A n xs := Kd.C_below h hb

def LPost (w : World) (e : Ending) (w' : World) : Prop := e = .returned (.bool true) ∧ Below w.heap.size w w'
def askC (kind seed most : Int) (A : Option Addr) (n c : Nat) : Array Value := #[.int .i64 kind, .int .u64 seed, .slice A n c, .int .i64 most]
set_option maxRecDepth 100000 in
set_option maxHeartbeats 4000000 in
theorem law_low (kind seed most : Int) (A : Option Addr) (c : Nat) (xs : List (Int × Int)) (w : World) (hx : kP.C w A xs.length xs) (hc : xs.length ≤ c) (hm : xs.length ≤ 1048576) (hk : kind < 1) :
    Calls Tryz.prog 3 #[.agg #[.int .i64 kind, .int .u64 seed, .slice A xs.length c, .int .i64 most]] w (LPost w) := by
  have HX := Lib.hid hx
  obtain ⟨n, hn⟩ : ∃ n, xs.length = n := ⟨_, rfl⟩
  have HL := Lib.hid (fun W (hb : Below w.heap.size w W) => lent_any A c xs W (C_below' HX.out hb) hc hm)
  rw [hn] at HL ⊢
  have HK := Lib.hid (show kind < 1 ∨ 5 < kind by omega)
  clear hx hc hm hn
  have b0 := Blk.new w 25 #[.int .i64 kind, .int .u64 seed, .slice A n c, .int .i64 most]
  have HB0 := Lib.hid b0
  have HB := Lib.hid (show Below w.heap.size w (w.alloc (.cells #[.int .i64 kind, .int .u64 seed, .slice A n c, .int .i64 most] 25)) from by go_grown)
  have g1 : decide (kind ≥ 1) = false := decide_eq_false (by omega)
  have g1b : decide (1 ≤ kind) = false := decide_eq_false (by omega)
  clear hk
  clear b0
  go_enter Tryz.func3, Tryz.ntmps3
  go_wp2_with fail
  refine (awake_any _).mono ?_
  rintro e w1 ⟨rfl, hb1⟩
  have c0 := HB0.out.below hb1 HB0.out.lt
  have HB1 := Lib.hid (HB.out.trans (hb1.mono HB.out.size))
  have x0 := c0.cell 0
  have x1 := c0.cell 1
  have x2 := c0.cell 2
  have x3 := c0.cell 3
  simp at x0 x1 x2 x3
  clear c0 hb1 HB0 HB
  go_wp2_with fail
  refine (HL.out _ HB1.out).mono ?_
  rintro e w2 ⟨A2, c2, rfl, hb2⟩
  have HB2 := Lib.hid (HB1.out.trans (hb2.mono HB1.out.size))
  clear hb2 x0 x1 x2 x3 HB1
  go_wp2_with fail
  refine (next_nil _ _ _ _).mono ?_
  rintro e w3 ⟨rfl, hb3⟩
  have HB3 := Lib.hid (HB2.out.trans (hb3.mono HB2.out.size))
  clear hb3 HB2
  go_wp2_with fail
  refine (new_bad _ _ _ HK.out).mono ?_
  rintro e w4 ⟨rfl, hb4⟩
  have HB4 := Lib.hid (HB3.out.trans (hb4.mono HB3.out.size))
  clear hb4 HB3
  go_wp2_with fail
  refine (run_nil1 _ _ _).mono ?_
  rintro e w5 ⟨rfl, hb5⟩
  have HB5 := Lib.hid (HB4.out.trans (hb5.mono HB4.out.size))
  clear hb5 HB4
  go_wp2_with fail
  refine (copy_nil _).mono ?_
  rintro e w6 ⟨rfl, rfl⟩
  go_wp2_with fail
  have HP := Lib.hid (show Pr ((w6.alloc (.cells #[.string ⟨#[97]⟩, .slice none 0 0] 44)).alloc (.cells #[.string ⟨#[107]⟩, .slice none 0 0] 48)) w6.heap.size (w6.heap.size + 1) from ⟨by simp, by simp, by simp, by simp⟩)
  have HB6 := Lib.hid (show Below w.heap.size w ((w6.alloc (.cells #[.string ⟨#[97]⟩, .slice none 0 0] 44)).alloc (.cells #[.string ⟨#[107]⟩, .slice none 0 0] 48)) from (HB5.out.alloc HB5.out.size _).alloc (by have := HB5.out.size; simp; omega) _)
  have HN := Lib.hid (sysnew_any w6.heap.size 1 (w6.heap.size + 1) 1 _ HP.out)
  unfold prV at HN
  refine HN.out.mono ?_
  rintro e w7 ⟨s, rfl, hs, hS, hb7⟩
  have HS := Lib.hid hS
  have HB7 := Lib.hid (HB6.out.trans (hb7.mono HB6.out.size))
  clear hS hs
  clear hb7 HN HP HB6 HB5
  go_wp2_with fail
  refine (run_nil2 _ _ _).mono ?_
  rintro e w8 ⟨rfl, hb8⟩
  have HB8 := Lib.hid (HB7.out.trans (hb8.mono HB7.out.size))
  clear hb8
  go_wp2_with fail
  go_returns
  exact ⟨rfl, HB8.out⟩
set_option maxRecDepth 100000 in
set_option maxHeartbeats 4000000 in
theorem law_high (kind seed most : Int) (A : Option Addr) (c : Nat) (xs : List (Int × Int)) (w : World) (hx : kP.C w A xs.length xs) (hc : xs.length ≤ c) (hm : xs.length ≤ 1048576) (hk : 5 < kind) :
    Calls Tryz.prog 3 #[.agg #[.int .i64 kind, .int .u64 seed, .slice A xs.length c, .int .i64 most]] w (LPost w) := by
  have HX := Lib.hid hx
  obtain ⟨n, hn⟩ : ∃ n, xs.length = n := ⟨_, rfl⟩
  have HL := Lib.hid (fun W (hb : Below w.heap.size w W) => lent_any A c xs W (C_below' HX.out hb) hc hm)
  rw [hn] at HL ⊢
  have HK := Lib.hid (show kind < 1 ∨ 5 < kind by omega)
  clear hx hc hm hn
  have b0 := Blk.new w 25 #[.int .i64 kind, .int .u64 seed, .slice A n c, .int .i64 most]
  have HB0 := Lib.hid b0
  have HB := Lib.hid (show Below w.heap.size w (w.alloc (.cells #[.int .i64 kind, .int .u64 seed, .slice A n c, .int .i64 most] 25)) from by go_grown)
  have g1 : decide (kind ≥ 1) = true := decide_eq_true (by omega)
  have g1b : decide (1 ≤ kind) = true := decide_eq_true (by omega)
  have g2 : decide (kind ≤ 5) = false := decide_eq_false (by omega)
  clear hk
  clear b0
  go_enter Tryz.func3, Tryz.ntmps3
  go_wp2_with fail
  refine (awake_any _).mono ?_
  rintro e w1 ⟨rfl, hb1⟩
  have c0 := HB0.out.below hb1 HB0.out.lt
  have HB1 := Lib.hid (HB.out.trans (hb1.mono HB.out.size))
  have x0 := c0.cell 0
  have x1 := c0.cell 1
  have x2 := c0.cell 2
  have x3 := c0.cell 3
  simp at x0 x1 x2 x3
  clear c0 hb1 HB0 HB
  go_wp2_with fail
  refine (HL.out _ HB1.out).mono ?_
  rintro e w2 ⟨A2, c2, rfl, hb2⟩
  have HB2 := Lib.hid (HB1.out.trans (hb2.mono HB1.out.size))
  clear hb2 x0 x1 x2 x3 HB1
  go_wp2_with fail
  refine (next_nil _ _ _ _).mono ?_
  rintro e w3 ⟨rfl, hb3⟩
  have HB3 := Lib.hid (HB2.out.trans (hb3.mono HB2.out.size))
  clear hb3 HB2
  go_wp2_with fail
  refine (new_bad _ _ _ HK.out).mono ?_
  rintro e w4 ⟨rfl, hb4⟩
  have HB4 := Lib.hid (HB3.out.trans (hb4.mono HB3.out.size))
  clear hb4 HB3
  go_wp2_with fail
  refine (run_nil1 _ _ _).mono ?_
  rintro e w5 ⟨rfl, hb5⟩
  have HB5 := Lib.hid (HB4.out.trans (hb5.mono HB4.out.size))
  clear hb5 HB4
  go_wp2_with fail
  refine (copy_nil _).mono ?_
  rintro e w6 ⟨rfl, rfl⟩
  go_wp2_with fail
  have HP := Lib.hid (show Pr ((w6.alloc (.cells #[.string ⟨#[97]⟩, .slice none 0 0] 44)).alloc (.cells #[.string ⟨#[107]⟩, .slice none 0 0] 48)) w6.heap.size (w6.heap.size + 1) from ⟨by simp, by simp, by simp, by simp⟩)
  have HB6 := Lib.hid (show Below w.heap.size w ((w6.alloc (.cells #[.string ⟨#[97]⟩, .slice none 0 0] 44)).alloc (.cells #[.string ⟨#[107]⟩, .slice none 0 0] 48)) from (HB5.out.alloc HB5.out.size _).alloc (by have := HB5.out.size; simp; omega) _)
  have HN := Lib.hid (sysnew_any w6.heap.size 1 (w6.heap.size + 1) 1 _ HP.out)
  unfold prV at HN
  refine HN.out.mono ?_
  rintro e w7 ⟨s, rfl, hs, hS, hb7⟩
  have HS := Lib.hid hS
  have HB7 := Lib.hid (HB6.out.trans (hb7.mono HB6.out.size))
  clear hS hs
  clear hb7 HN HP HB6 HB5
  go_wp2_with fail
  refine (run_nil2 _ _ _).mono ?_
  rintro e w8 ⟨rfl, hb8⟩
  have HB8 := Lib.hid (HB7.out.trans (hb8.mono HB7.out.size))
  clear hb8
  go_wp2_with fail
  go_returns
  exact ⟨rfl, HB8.out⟩
set_option maxRecDepth 100000 in
set_option maxHeartbeats 4000000 in
theorem law_neg (kind seed most : Int) (A : Option Addr) (c : Nat) (xs : List (Int × Int)) (w : World) (hx : kP.C w A xs.length xs) (hc : xs.length ≤ c) (hm : xs.length ≤ 1048576) (hk : 1 ≤ kind ∧ kind ≤ 5) (ho : most < 0) :
    Calls Tryz.prog 3 #[.agg #[.int .i64 kind, .int .u64 seed, .slice A xs.length c, .int .i64 most]] w (LPost w) := by
  have HX := Lib.hid hx
  obtain ⟨n, hn⟩ : ∃ n, xs.length = n := ⟨_, rfl⟩
  have HL := Lib.hid (fun W (hb : Below w.heap.size w W) => lent_any A c xs W (C_below' HX.out hb) hc hm)
  rw [hn] at HL ⊢
  have HK := Lib.hid hk
  clear hx hc hm hn
  have b0 := Blk.new w 25 #[.int .i64 kind, .int .u64 seed, .slice A n c, .int .i64 most]
  have HB0 := Lib.hid b0
  have HB := Lib.hid (show Below w.heap.size w (w.alloc (.cells #[.int .i64 kind, .int .u64 seed, .slice A n c, .int .i64 most] 25)) from by go_grown)
  have m1 : decide (most < 0) = true := decide_eq_true ho
  have g1 : decide (kind ≥ 1) = true := decide_eq_true (by omega)
  have g1b : decide (1 ≤ kind) = true := decide_eq_true (by omega)
  have g2 : decide (kind ≤ 5) = true := decide_eq_true (by omega)
  have HO := Lib.hid ho
  clear hk ho
  clear b0
  go_enter Tryz.func3, Tryz.ntmps3
  go_wp2_with fail
  refine (awake_any _).mono ?_
  rintro e w1 ⟨rfl, hb1⟩
  have c0 := HB0.out.below hb1 HB0.out.lt
  have HB1 := Lib.hid (HB.out.trans (hb1.mono HB.out.size))
  have x0 := c0.cell 0
  have x1 := c0.cell 1
  have x2 := c0.cell 2
  have x3 := c0.cell 3
  simp at x0 x1 x2 x3
  clear c0 hb1 HB0 HB
  go_wp2_with fail
  refine (HL.out _ HB1.out).mono ?_
  rintro e w2 ⟨A2, c2, rfl, hb2⟩
  have HB2 := Lib.hid (HB1.out.trans (hb2.mono HB1.out.size))
  clear hb2 x0 x1 x2 x3 HB1
  go_wp2_with fail
  refine (next_nil _ _ _ _).mono ?_
  rintro e w3 ⟨rfl, hb3⟩
  have HB3 := Lib.hid (HB2.out.trans (hb3.mono HB2.out.size))
  clear hb3 HB2
  go_wp2_with fail
  refine (new_int _ _ _ HK.out.1 HK.out.2).mono ?_
  rintro e w4 ⟨p, S, st, rfl, hP, _, hb4⟩
  have HB4 := Lib.hid (HB3.out.trans (hb4.mono HB3.out.size))
  have HPl := Lib.hid hP
  clear hb4 HB3 hP
  go_wp2_with fail
  refine (run_nil1 _ _ _).mono ?_
  rintro e w5 ⟨rfl, hb5⟩
  have HB5 := Lib.hid (HB4.out.trans (hb5.mono HB4.out.size))
  have HPl5 := Lib.hid (HPl.out.below hb5)
  clear hb5 HB4 HPl
  go_wp2_with fail
  refine (copy_nil _).mono ?_
  rintro e w6 ⟨rfl, rfl⟩
  go_wp2_with fail
  have HP := Lib.hid (show Pr ((w6.alloc (.cells #[.string ⟨#[97]⟩, .slice none 0 0] 44)).alloc (.cells #[.string ⟨#[107]⟩, .slice none 0 0] 48)) w6.heap.size (w6.heap.size + 1) from ⟨by simp, by simp, by simp, by simp⟩)
  have HB6 := Lib.hid (show Below w.heap.size w ((w6.alloc (.cells #[.string ⟨#[97]⟩, .slice none 0 0] 44)).alloc (.cells #[.string ⟨#[107]⟩, .slice none 0 0] 48)) from (HB5.out.alloc HB5.out.size _).alloc (by have := HB5.out.size; simp; omega) _)
  have HN := Lib.hid (sysnew_any w6.heap.size 1 (w6.heap.size + 1) 1 _ HP.out)
  unfold prV at HN
  refine HN.out.mono ?_
  rintro e w7 ⟨s, rfl, hs, hS, hb7⟩
  have HS := Lib.hid hS
  have HB7 := Lib.hid (HB6.out.trans (hb7.mono HB6.out.size))
  clear hS hs
  have HPl7 := Lib.hid (HPl5.out.below (((Below.refl w6.heap.size w6).alloc (Nat.le_refl _) (.cells #[.string ⟨#[97]⟩, .slice none 0 0] 44)).alloc (by simp) (.cells #[.string ⟨#[107]⟩, .slice none 0 0] 48) |>.trans (hb7.mono (by simp; omega))))
  clear hb7 HN HP HB6 HB5 HPl5
  go_wp2_with fail
  refine (run_out _ _ _ _ (.inl HO.out)).mono ?_
  rintro e w8 ⟨rfl, hb8⟩
  have HB8 := Lib.hid (HB7.out.trans (hb8.mono HB7.out.size))
  clear hb8
  go_wp2_with fail
  go_returns
  exact ⟨rfl, HB8.out⟩
set_option maxRecDepth 100000 in
set_option maxHeartbeats 4000000 in
theorem law_big (kind seed most : Int) (A : Option Addr) (c : Nat) (xs : List (Int × Int)) (w : World) (hx : kP.C w A xs.length xs) (hc : xs.length ≤ c) (hm : xs.length ≤ 1048576) (hk : 1 ≤ kind ∧ kind ≤ 5) (ho : 4096 < most) :
    Calls Tryz.prog 3 #[.agg #[.int .i64 kind, .int .u64 seed, .slice A xs.length c, .int .i64 most]] w (LPost w) := by
  have HX := Lib.hid hx
  obtain ⟨n, hn⟩ : ∃ n, xs.length = n := ⟨_, rfl⟩
  have HL := Lib.hid (fun W (hb : Below w.heap.size w W) => lent_any A c xs W (C_below' HX.out hb) hc hm)
  rw [hn] at HL ⊢
  have HK := Lib.hid hk
  clear hx hc hm hn
  have b0 := Blk.new w 25 #[.int .i64 kind, .int .u64 seed, .slice A n c, .int .i64 most]
  have HB0 := Lib.hid b0
  have HB := Lib.hid (show Below w.heap.size w (w.alloc (.cells #[.int .i64 kind, .int .u64 seed, .slice A n c, .int .i64 most] 25)) from by go_grown)
  have m1 : decide (most < 0) = false := decide_eq_false (by omega)
  have m2 : decide (most > 4096) = true := decide_eq_true ho
  have m3 : decide (4096 < most) = true := decide_eq_true ho
  have g1 : decide (kind ≥ 1) = true := decide_eq_true (by omega)
  have g1b : decide (1 ≤ kind) = true := decide_eq_true (by omega)
  have g2 : decide (kind ≤ 5) = true := decide_eq_true (by omega)
  have HO := Lib.hid ho
  clear hk ho
  clear b0
  go_enter Tryz.func3, Tryz.ntmps3
  go_wp2_with fail
  refine (awake_any _).mono ?_
  rintro e w1 ⟨rfl, hb1⟩
  have c0 := HB0.out.below hb1 HB0.out.lt
  have HB1 := Lib.hid (HB.out.trans (hb1.mono HB.out.size))
  have x0 := c0.cell 0
  have x1 := c0.cell 1
  have x2 := c0.cell 2
  have x3 := c0.cell 3
  simp at x0 x1 x2 x3
  clear c0 hb1 HB0 HB
  go_wp2_with fail
  refine (HL.out _ HB1.out).mono ?_
  rintro e w2 ⟨A2, c2, rfl, hb2⟩
  have HB2 := Lib.hid (HB1.out.trans (hb2.mono HB1.out.size))
  clear hb2 x0 x1 x2 x3 HB1
  go_wp2_with fail
  refine (next_nil _ _ _ _).mono ?_
  rintro e w3 ⟨rfl, hb3⟩
  have HB3 := Lib.hid (HB2.out.trans (hb3.mono HB2.out.size))
  clear hb3 HB2
  go_wp2_with fail
  refine (new_int _ _ _ HK.out.1 HK.out.2).mono ?_
  rintro e w4 ⟨p, S, st, rfl, hP, _, hb4⟩
  have HB4 := Lib.hid (HB3.out.trans (hb4.mono HB3.out.size))
  have HPl := Lib.hid hP
  clear hb4 HB3 hP
  go_wp2_with fail
  refine (run_nil1 _ _ _).mono ?_
  rintro e w5 ⟨rfl, hb5⟩
  have HB5 := Lib.hid (HB4.out.trans (hb5.mono HB4.out.size))
  have HPl5 := Lib.hid (HPl.out.below hb5)
  clear hb5 HB4 HPl
  go_wp2_with fail
  refine (copy_nil _).mono ?_
  rintro e w6 ⟨rfl, rfl⟩
  go_wp2_with fail
  have HP := Lib.hid (show Pr ((w6.alloc (.cells #[.string ⟨#[97]⟩, .slice none 0 0] 44)).alloc (.cells #[.string ⟨#[107]⟩, .slice none 0 0] 48)) w6.heap.size (w6.heap.size + 1) from ⟨by simp, by simp, by simp, by simp⟩)
  have HB6 := Lib.hid (show Below w.heap.size w ((w6.alloc (.cells #[.string ⟨#[97]⟩, .slice none 0 0] 44)).alloc (.cells #[.string ⟨#[107]⟩, .slice none 0 0] 48)) from (HB5.out.alloc HB5.out.size _).alloc (by have := HB5.out.size; simp; omega) _)
  have HN := Lib.hid (sysnew_any w6.heap.size 1 (w6.heap.size + 1) 1 _ HP.out)
  unfold prV at HN
  refine HN.out.mono ?_
  rintro e w7 ⟨s, rfl, hs, hS, hb7⟩
  have HS := Lib.hid hS
  have HB7 := Lib.hid (HB6.out.trans (hb7.mono HB6.out.size))
  clear hS hs
  have HPl7 := Lib.hid (HPl5.out.below (((Below.refl w6.heap.size w6).alloc (Nat.le_refl _) (.cells #[.string ⟨#[97]⟩, .slice none 0 0] 44)).alloc (by simp) (.cells #[.string ⟨#[107]⟩, .slice none 0 0] 48) |>.trans (hb7.mono (by simp; omega))))
  clear hb7 HN HP HB6 HB5 HPl5
  go_wp2_with fail
  refine (run_out _ _ _ _ (.inr HO.out)).mono ?_
  rintro e w8 ⟨rfl, hb8⟩
  have HB8 := Lib.hid (HB7.out.trans (hb8.mono HB7.out.size))
  clear hb8
  go_wp2_with fail
  go_returns
  exact ⟨rfl, HB8.out⟩
set_option maxRecDepth 100000 in
set_option maxHeartbeats 4000000 in
theorem law_ok (kind seed most : Int) (A : Option Addr) (c : Nat) (xs : List (Int × Int)) (w : World) (hx : kP.C w A xs.length xs) (hc : xs.length ≤ c) (hm : xs.length ≤ 1048576) (hk : 1 ≤ kind ∧ kind ≤ 5) (ho : 0 ≤ most ∧ most ≤ 4096) :
    Calls Tryz.prog 3 #[.agg #[.int .i64 kind, .int .u64 seed, .slice A xs.length c, .int .i64 most]] w (LPost w) := by
  have HX := Lib.hid hx
  obtain ⟨n, hn⟩ : ∃ n, xs.length = n := ⟨_, rfl⟩
  have HL := Lib.hid (fun W (hb : Below w.heap.size w W) => lent_any A c xs W (C_below' HX.out hb) hc hm)
  rw [hn] at HL ⊢
  have HK := Lib.hid hk
  clear hx hc hm hn
  have b0 := Blk.new w 25 #[.int .i64 kind, .int .u64 seed, .slice A n c, .int .i64 most]
  have HB0 := Lib.hid b0
  have HB := Lib.hid (show Below w.heap.size w (w.alloc (.cells #[.int .i64 kind, .int .u64 seed, .slice A n c, .int .i64 most] 25)) from by go_grown)
  have m1 : decide (most < 0) = false := decide_eq_false (by omega)
  have m2 : decide (most > 4096) = false := decide_eq_false (by omega)
  have m3 : decide (4096 < most) = false := decide_eq_false (by omega)
  have g1 : decide (kind ≥ 1) = true := decide_eq_true (by omega)
  have g1b : decide (1 ≤ kind) = true := decide_eq_true (by omega)
  have g2 : decide (kind ≤ 5) = true := decide_eq_true (by omega)
  have HO := Lib.hid ho
  clear hk ho
  clear b0
  go_enter Tryz.func3, Tryz.ntmps3
  go_wp2_with fail
  refine (awake_any _).mono ?_
  rintro e w1 ⟨rfl, hb1⟩
  have c0 := HB0.out.below hb1 HB0.out.lt
  have HB1 := Lib.hid (HB.out.trans (hb1.mono HB.out.size))
  have x0 := c0.cell 0
  have x1 := c0.cell 1
  have x2 := c0.cell 2
  have x3 := c0.cell 3
  simp at x0 x1 x2 x3
  clear c0 hb1 HB0 HB
  go_wp2_with fail
  refine (HL.out _ HB1.out).mono ?_
  rintro e w2 ⟨A2, c2, rfl, hb2⟩
  have HB2 := Lib.hid (HB1.out.trans (hb2.mono HB1.out.size))
  clear hb2 x0 x1 x2 x3 HB1
  go_wp2_with fail
  refine (next_nil _ _ _ _).mono ?_
  rintro e w3 ⟨rfl, hb3⟩
  have HB3 := Lib.hid (HB2.out.trans (hb3.mono HB2.out.size))
  clear hb3 HB2
  go_wp2_with fail
  refine (new_int _ _ _ HK.out.1 HK.out.2).mono ?_
  rintro e w4 ⟨p, S, st, rfl, hP, _, hb4⟩
  have HB4 := Lib.hid (HB3.out.trans (hb4.mono HB3.out.size))
  have HPl := Lib.hid hP
  clear hb4 HB3 hP
  go_wp2_with fail
  refine (run_nil1 _ _ _).mono ?_
  rintro e w5 ⟨rfl, hb5⟩
  have HB5 := Lib.hid (HB4.out.trans (hb5.mono HB4.out.size))
  have HPl5 := Lib.hid (HPl.out.below hb5)
  clear hb5 HB4 HPl
  go_wp2_with fail
  refine (copy_nil _).mono ?_
  rintro e w6 ⟨rfl, rfl⟩
  go_wp2_with fail
  have HP := Lib.hid (show Pr ((w6.alloc (.cells #[.string ⟨#[97]⟩, .slice none 0 0] 44)).alloc (.cells #[.string ⟨#[107]⟩, .slice none 0 0] 48)) w6.heap.size (w6.heap.size + 1) from ⟨by simp, by simp, by simp, by simp⟩)
  have HB6 := Lib.hid (show Below w.heap.size w ((w6.alloc (.cells #[.string ⟨#[97]⟩, .slice none 0 0] 44)).alloc (.cells #[.string ⟨#[107]⟩, .slice none 0 0] 48)) from (HB5.out.alloc HB5.out.size _).alloc (by have := HB5.out.size; simp; omega) _)
  have HN := Lib.hid (sysnew_any w6.heap.size 1 (w6.heap.size + 1) 1 _ HP.out)
  unfold prV at HN
  refine HN.out.mono ?_
  rintro e w7 ⟨s, rfl, hs, hS, hb7⟩
  have HS := Lib.hid hS
  have HB7 := Lib.hid (HB6.out.trans (hb7.mono HB6.out.size))
  clear hS hs
  have HPl7 := Lib.hid (HPl5.out.below (((Below.refl w6.heap.size w6).alloc (Nat.le_refl _) (.cells #[.string ⟨#[97]⟩, .slice none 0 0] 44)).alloc (by simp) (.cells #[.string ⟨#[107]⟩, .slice none 0 0] 48) |>.trans (hb7.mono (by simp; omega))))
  clear hb7 HN HP HB6 HB5 HPl5
  go_wp2_with fail
  refine (run_ok s p S st most w7 HPl7.out HS.out HO.out.1 HO.out.2).mono ?_
  rintro e w8 ⟨rfl, hb8⟩
  have HB8 := Lib.hid (HB7.out.trans (hb8.mono HB7.out.size))
  clear hb8
  go_wp2_with fail
  go_returns
  exact ⟨rfl, HB8.out⟩
theorem law_any (kind seed most : Int) (A : Option Addr) (c : Nat) (xs : List (Int × Int)) (w : World) (hx : kP.C w A xs.length xs) (hc : xs.length ≤ c) (hm : xs.length ≤ 1048576) :
    Calls Tryz.prog 3 #[.agg #[.int .i64 kind, .int .u64 seed, .slice A xs.length c, .int .i64 most]] w (LPost w) := by
  by_cases h1 : kind < 1
  · exact law_low kind seed most A c xs w hx hc hm h1
  by_cases h2 : 5 < kind
  · exact law_high kind seed most A c xs w hx hc hm h2
  by_cases h3 : most < 0
  · exact law_neg kind seed most A c xs w hx hc hm ⟨by omega, by omega⟩ h3
  by_cases h4 : 4096 < most
  · exact law_big kind seed most A c xs w hx hc hm ⟨by omega, by omega⟩ h4
  exact law_ok kind seed most A c xs w hx hc hm ⟨by omega, by omega⟩ ⟨by omega, by omega⟩
end Go.Proofs.YthipgipmhjebmaaGreatDoor.Pol
