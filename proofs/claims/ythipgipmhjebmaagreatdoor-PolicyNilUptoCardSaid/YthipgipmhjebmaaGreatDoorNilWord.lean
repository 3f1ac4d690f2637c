/- lex.Scan and valid.word at a word of one letter. -/
import Derived.Test.YthipgipmhjebmaaGreatDoorNilRange
namespace Go.Proofs.YthipgipmhjebmaaGreatDoor.Pol
open Go.RowKit Go.Proofs.YthipgipmhjebmaaGreatDoorW.PrintWords
attribute [local go_sem] run_store_float Oper.semAt_some
set_option linter.unusedVariables false
set_option linter.unusedSimpArgs false

theorem each_new (A : Option Addr) (n c : Nat) (w : World) : Calls Tryz.prog 134 #[.slice A n c] w fun e w' => e = .returned (.func (.func 171) #[] #[.pointer (some ⟨w.heap.size, 0, none⟩)]) ∧ w' = w.alloc (.cells #[.slice A n c] 238) := by
  go_enter Tryz.func134, Tryz.ntmps134
  go_wp2
  go_returns
  exact ⟨rfl, rfl⟩

theorem info240 : (Tryz.prog.info? 240).map (fun i => (i.zero, i.size, i.bytes)) = some (some (.agg #[.int .i64 0, .string { data := #[] }, .int .i64 0, .float .f64 0, .int .i64 0, .int .i64 0]), 6, 56) := by kernel_rfl
/-- A token's cells. -/
def tc (c : UInt8) : Array Value := #[.int .i64 1, .string ⟨#[c]⟩, .int .i64 0, .float .f64 0, .int .i64 0, .int .i64 1]
def rowOf (c : UInt8) (k : Nat) : List Value := if k = 0 then [] else (tc c).toList
/-- What Scan gives: one token, a name of one byte. -/
def ScanPost (w : World) (e : Ending) (w' : World) : Prop :=
  ∃ r rc, e = .returned (.tuple #[.slice (some ⟨r, 0, none⟩) 1 rc, .int .i64 0, .int .i64 0]) ∧ w'.cell? ⟨r, 0, none⟩ = some (.int .i64 1) ∧ w'.cell? ⟨r, 5, none⟩ = some (.int .i64 1) ∧ Below w.heap.size w w'
def SI (w : World) (c : UInt8) (k : Nat) (W : World) : Prop :=
  (Blk W w.heap.size 235 #[.slice none 0 0] ∧ Blk W (w.heap.size + 1) 3 #[.int .i64 0] ∧ Blk W (w.heap.size + 2) 32 #[.int .i64 0]) ∧ Below w.heap.size w W ∧
    ∃ v, Boxed W (w.heap.size + 3) 235 v ∧ W.ownsRow w.heap.size 240 6 v k (rowOf c k) ∧ (k = 0 → v = .slice none 0 0)
theorem SI_calm (w : World) (c : UInt8) (k : Nat) {B : Nat} (hB : w.heap.size + 3 ≤ B) : Calm B (SI w c k) := by
  rintro W W' row ⟨⟨h0, h1, h2⟩, hb, hv⟩ hg hr
  exact ⟨⟨blk_calm (by omega) W W' row h0 hg hr, blk_calm (by omega) W W' row h1 hg hr, blk_calm (by omega) W W' row h2 hg hr⟩, below_calm (Nat.le_refl _) (by omega) W W' row hb hg hr,
    holdsRow_own (β := Nat) w.heap.size (w.heap.size + 3) 235 240 6 id (rowOf c) (fun k v => k = 0 → v = .slice none 0 0) k W W' row hv hg (fun r e => (hr r e).2)⟩

set_option maxRecDepth 20000 in
set_option maxHeartbeats 4000000 in
theorem scan_any (c : UInt8) (h : c = 97 ∨ c = 107) (g cap : Nat) (hcap : 1 ≤ cap) (w : World) (hc : w.cell? ⟨g, 0, none⟩ = some (.int .u8 c.toNat)) :
    Calls Tryz.prog 87 #[.slice (some ⟨g, 0, none⟩) 1 cap] w (ScanPost w) := by
  have hlt := World.block_lt_of_cell? w _ hc
  obtain ⟨i0, hi, he⟩ := Option.map_eq_some_iff.1 info240
  simp only [Prod.mk.injEq] at he
  obtain ⟨hz0, hz1, hz2⟩ := he
  have HI := Lib.hid (And.intro hi (And.intro hz0 (And.intro hz1 hz2)))
  clear hi hz0 hz1 hz2
  refine (callsIn_wide (n := 1)).1 (callsIn_of_wp_marks Tryz.func87 rfl trivial (wpIn_wide.2 ?_) rfl)
  simp only [Tryz.ntmps87, List.size_toArray, List.length_cons, List.length_nil, Nat.reduceAdd, Nat.reduceSub, Array.replicate_succ, Array.replicate_zero, List.push_toArray, List.append_toArray, List.nil_append, List.cons_append]
  go_wp2_with fail
  refine (each_new _ _ _ _).mono ?_
  rintro e w1 ⟨rfl, rfl⟩
  go_wp2_with fail
  obtain ⟨W9, hW9⟩ : ∃ W9, W9 = ((((w.alloc (.cells #[.slice none 0 0] 235)).alloc (.cells #[.int .i64 0] 3)).alloc (.cells #[.int .i64 0] 32)).alloc (.cells #[.slice none 0 0] 235)).alloc (.cells #[.slice (some ⟨g, 0, none⟩) 1 cap] 238) := ⟨_, rfl⟩
  have B0 : Blk W9 w.heap.size 235 #[.slice none 0 0] := by rw [hW9]; exact ((((Blk.new w _ _).alloc _).alloc _).alloc _).alloc _
  have B1 : Blk W9 (w.heap.size + 1) 3 #[.int .i64 0] := by rw [hW9]; exact ((((by simpa using Blk.new (w.alloc (.cells #[.slice none 0 0] 235)) 3 #[.int .i64 0] : Blk _ (w.heap.size + 1) 3 #[.int .i64 0])).alloc _).alloc _).alloc _
  have B2 : Blk W9 (w.heap.size + 2) 32 #[.int .i64 0] := by rw [hW9]; exact ((by simpa using Blk.new ((w.alloc (.cells #[.slice none 0 0] 235)).alloc (.cells #[.int .i64 0] 3)) 32 #[.int .i64 0] : Blk _ (w.heap.size + 2) 32 #[.int .i64 0]).alloc _).alloc _
  have B3 : Blk W9 (w.heap.size + 3) 235 #[.slice none 0 0] := by rw [hW9]; exact (by simpa using Blk.new (((w.alloc (.cells #[.slice none 0 0] 235)).alloc (.cells #[.int .i64 0] 3)).alloc (.cells #[.int .i64 0] 32)) 235 #[.slice none 0 0] : Blk _ (w.heap.size + 3) 235 #[.slice none 0 0]).alloc _
  have B4 : Blk W9 (w.heap.size + 4) 238 #[.slice (some ⟨g, 0, none⟩) 1 cap] := by rw [hW9]; simpa using Blk.new ((((w.alloc (.cells #[.slice none 0 0] 235)).alloc (.cells #[.int .i64 0] 3)).alloc (.cells #[.int .i64 0] 32)).alloc (.cells #[.slice none 0 0] 235)) 238 #[.slice (some ⟨g, 0, none⟩) 1 cap]
  have hb9 : Below w.heap.size w W9 := by rw [hW9]; go_grown
  have hs9 : W9.heap.size = w.heap.size + 5 := by rw [hW9]; simp
  have hX : W9.cell? ⟨w.heap.size + 4, 0, none⟩ = some (.slice (some ⟨g, 0, none⟩) 1 cap) := (B4.cell 0).trans rfl
  have hG : W9.cell? ⟨g, 0, none⟩ = some (.int .u8 c.toNat) := (hb9.cell hlt).trans hc
  try simp only [World.size_alloc, Nat.add_assoc, Nat.reduceAdd]
  rw [← hW9]
  clear hW9
  have h0 : SI w c 0 W9 := ⟨⟨B0, B1, B2⟩, hb9, .slice none 0 0, B3, ⟨rfl, .inl ⟨rfl, rfl⟩⟩, fun _ => rfl⟩
  clear B0 B1 B2 B3 B4 hb9
  refine wpIn_wide.1 (range_tok c h 1 (w.heap.size + 4) g cap (w.heap.size + 3) hcap hX hG (by omega) (by omega) (by omega) rfl (SI w c) (fun k => SI_calm w c k (by omega)) h0 ?round ?done)
  case round =>
    intro l W hWs hS
    obtain ⟨hbs, hb, v, hv, hrow, hnil⟩ := hS
    obtain rfl := hnil rfl
    have HQ := Lib.hid (Blk.new W 240 (tc c))
    have HWq : Hid (Below W.heap.size W (W.alloc (.cells (tc c) 240))) := Lib.hid ((Below.refl _ _).alloc (Nat.le_refl _) _)
    have HBS := Lib.hid hbs
    have HB := Lib.hid hb
    have HV := Lib.hid hv
    have HR := Lib.hid hrow
    clear hbs hb hv hrow hnil
    unfold tokC
    simp only [List.setIfInBounds_toArray, List.set_cons_zero, List.set_cons_succ]
    gi_wp2_with fail
    refine ⟨HWq.out, fun W2 hT2 => ?_⟩
    have hq2 := hT2.blk HQ.out
    have hb2 := hT2.calm (below_calm (Nat.le_refl _) (by omega)) (HB.out.trans (HWq.out.mono HB.out.size))
    have hS2 := hT2.calm (SI_calm w c 0 (by omega)) ⟨⟨HBS.out.1.alloc _, HBS.out.2.1.alloc _, HBS.out.2.2.alloc _⟩, HB.out.trans (HWq.out.mono HB.out.size), _, HV.out.alloc _, HR.out.alloc _, fun _ => rfl⟩
    obtain ⟨q, hq⟩ : ∃ q, W.heap.size = q := ⟨_, rfl⟩
    rw [hq] at hq2 ⊢
    clear hT2 HWq HQ HBS HB HV HR
    obtain ⟨hbs, _, v, hv, hrow, hnil⟩ := hS2
    obtain rfl := hnil rfl
    clear hnil
    have zb := hv.cell
    have zf := hv.frozen
    have q0 := hq2.cell 0
    have q1 := hq2.cell 1
    have q2 := hq2.cell 2
    have q3 := hq2.cell 3
    have q4 := hq2.cell 4
    have q5 := hq2.cell 5
    unfold tc at q0 q1 q2 q3 q4 q5
    simp at q0 q1 q2 q3 q4 q5
    have HBS := Lib.hid hbs
    have HB := Lib.hid hb2
    have HV := Lib.hid hv
    have HR := Lib.hid hrow
    clear hbs hb2 hv hrow hq2 hq
    have hnew : ∀ j u, (tc c).toList[j]? = some u → (W2.alloc (.cells (tc c) 240)).cell? ((⟨W2.heap.size, 0, none⟩ : Addr).add j) = some u := by
      intro j u hu
      have h1 := (Blk.new W2 240 (tc c)).cell j
      rw [show (⟨W2.heap.size, 0, none⟩ : Addr).add j = ⟨W2.heap.size, j, none⟩ from by unfold Addr.add; by_cases hj : j = 0 <;> simp [hj], h1]
      simpa using hu
    have HNW := Lib.hid hnew
    clear hnew
    gi_wp2_with (gi_at_builtin; refine wpListIn_append_own _ rfl _ _ 235 rfl w.heap.size 240 i0 _ 6 56 Tryz.underlying235 HI.out.1 HI.out.2.1 HI.out.2.2.1 HI.out.2.2.2 rfl (by decide) (.slice none 0 0) 0 [] rfl (HR.out.alloc _) ⟨W2.heap.size, 0, none⟩ 1 1 (tc c).toList rfl rfl HNW.out (by simp [tc, Value.oneCell']) (by simp [maxLen]) (by omega) (by have := HB.out.size; simp; omega) ?_; intro v' w3 hown' hg3 hnil3; have HH := Lib.hid (Boxed.appended HV.out (by decide) HR.out HB.out.size (by omega) hown' hg3); have HG3 := Lib.hid hg3; obtain ⟨r, rc, rfl⟩ := ownsRow_succ hown'; have zc := HH.out.1.cell; have zd := HH.out.1.frozen; clear hown' hg3 hnil3 zb zf q0 q1 q2 q3 q4 q5)
    obtain ⟨g1, g2, g3, g4, g5⟩ := HH.out
    refine ⟨g4, ?_, ?_⟩
    · intro ad v hne hv
      have h1 := (World.cell?_alloc_lt W2 (.cells (tc c) 240) ad (World.block_lt_of_cell? W2 _ hv)).trans hv
      have h2 := cell_kept h1 HG3.out (fun q e => by cases e)
      exact (World.cell?_setCell_other w3 _ ad _ (fun e => hne (by subst e; rfl))).trans h2
    · have keep : ∀ {k t cs}, k ≠ w.heap.size + 3 → Blk W2 k t cs → Blk (w3.setCell ⟨w.heap.size + 3, 0, none⟩ (.slice (some ⟨r, 0, none⟩) 1 rc)) k t cs := fun {k t cs} hk hB =>
        Blk.far (show Blk w3 _ _ _ from (HG3.out.block k (Nat.lt_trans hB.lt (by simp)) (by simp [Value.ownBlock])).trans (hB.alloc _)) hk _
      exact ⟨⟨keep (by omega) HBS.out.1, keep (by omega) HBS.out.2.1, keep (by omega) HBS.out.2.2⟩, HB.out.trans g5, _, g2, g3, fun e => by cases e⟩
  case done =>
    intro D W hD hS hK
    obtain ⟨⟨b0, b1, b2⟩, hb, v, hv, hrow, hnil⟩ := hS
    obtain ⟨r, rc, rfl⟩ := ownsRow_succ hrow
    have zb := hv.cell
    have z0 := b0.cell 0
    have z1 := b1.cell 0
    have z2 := b2.cell 0
    have f0 := b0.frozen 0
    have f1 := b1.frozen 0
    have f2 := b2.frozen 0
    simp at z0 z1 z2
    have hr := hrow.cells (g := r) rfl
    have hrow0 := Lib.hid hr
    have hdl := (Array.getElem?_eq_some_iff.1 hK).1
    have HHK := Lib.hid hK
    have HHB := Lib.hid hb
    have HB0 := Lib.hid b0
    have HB1 := Lib.hid b1
    have HB2 := Lib.hid b2
    have hrg : w.heap.size ≤ r ∧ r ≠ w.heap.size ∧ r ≠ w.heap.size + 1 ∧ r ≠ w.heap.size + 2 ∧ r ≠ D := by
      rcases hrow.2 with ⟨e, _⟩ | ⟨g', cap', cur', e, hg1, hg2, _⟩
      · cases e
      · obtain rfl : r = g' := by injection e with e; injection e with e; injection e
        have n0 : w.heap[D]? = w.heap[D]? := rfl
        refine ⟨hg1, fun e => ?_, fun e => ?_, fun e => ?_, fun e => ?_⟩
        · rw [e] at hg2; rw [show W.heap[w.heap.size]? = _ from b0] at hg2; cases hg2
        · rw [e] at hg2; rw [show W.heap[w.heap.size + 1]? = _ from b1] at hg2; cases hg2
        · rw [e] at hg2; rw [show W.heap[w.heap.size + 2]? = _ from b2] at hg2; cases hg2
        · rw [e] at hg2; rw [hK] at hg2; cases hg2
    clear hr hb hv hrow hnil b0 b1 b2 hK
    go_wp2_with fail
    have c0 := ((HB0.out.set_ 0 (.slice (some ⟨r, 0, none⟩) 1 rc)).far (p := ⟨w.heap.size + 1, 0, none⟩) (by simp) (.int .i64 0)).far (p := ⟨w.heap.size + 2, 0, none⟩) (by simp) (.int .i64 0)
    have c1 := ((HB1.out.far (p := ⟨w.heap.size, 0, none⟩) (by simp) (.slice (some ⟨r, 0, none⟩) 1 rc)).set_ 0 (.int .i64 0)).far (p := ⟨w.heap.size + 2, 0, none⟩) (by simp) (.int .i64 0)
    have c2 := ((HB2.out.far (p := ⟨w.heap.size, 0, none⟩) (by simp) (.slice (some ⟨r, 0, none⟩) 1 rc)).far (p := ⟨w.heap.size + 1, 0, none⟩) (by simp) (.int .i64 0)).set_ 0 (.int .i64 0)
    have hK2 : (((W.setCell ⟨w.heap.size, 0, none⟩ (.slice (some ⟨r, 0, none⟩) 1 rc)).setCell ⟨w.heap.size + 1, 0, none⟩ (.int .i64 0)).setCell ⟨w.heap.size + 2, 0, none⟩ (.int .i64 0)).heap[D]? = some (.deferred (some [])) := by
      rw [Below.heap_setCell _ _ _ _ (by simp; omega), Below.heap_setCell _ _ _ _ (by simp; omega), Below.heap_setCell _ _ _ _ (by simp; omega)]
      exact HHK.out
    have hcell : ∀ j u, (tc c).toList[j]? = some u → (((W.setCell ⟨w.heap.size, 0, none⟩ (.slice (some ⟨r, 0, none⟩) 1 rc)).setCell ⟨w.heap.size + 1, 0, none⟩ (.int .i64 0)).setCell ⟨w.heap.size + 2, 0, none⟩ (.int .i64 0)).cell? ⟨r, j, none⟩ = some u := by
      intro j u hj
      obtain ⟨_, h1, h2, h3, _⟩ := hrg
      rw [World.cell?_setCell_other _ _ _ _ (fun e => by injection e with e; omega), World.cell?_setCell_other _ _ _ _ (fun e => by injection e with e; omega), World.cell?_setCell_other _ _ _ _ (fun e => by injection e with e; omega)]
      have := hrow0.out j u hj
      rw [show (⟨r, 0, none⟩ : Addr).add j = ⟨r, j, none⟩ from by unfold Addr.add; by_cases hj : j = 0 <;> simp [hj]] at this
      exact this
    have hbe : Below w.heap.size w (((W.setCell ⟨w.heap.size, 0, none⟩ (.slice (some ⟨r, 0, none⟩) 1 rc)).setCell ⟨w.heap.size + 1, 0, none⟩ (.int .i64 0)).setCell ⟨w.heap.size + 2, 0, none⟩ (.int .i64 0)) := by
      have := HHB.out
      go_grown
    generalize ((W.setCell _ _).setCell _ _).setCell _ _ = W5 at c0 c1 c2 hK2 hcell hbe ⊢
    refine ⟨by simp, .inl ⟨_, _, rfl, run_takeDeferred hK2, ?_⟩⟩
    have keepP : ∀ a v, W5.cell? a = some v → (W5.putObj D (.deferred none)).cell? a = some v := fun a v h => cell_kept h (grownBy_putObj' _ _ _) (fun q e => by injection e with e; subst e; exact ⟨_, hK2, rfl⟩)
    have d0 := keepP ⟨w.heap.size, 0, none⟩ (.slice (some ⟨r, 0, none⟩) 1 rc) ((c0.cell 0).trans rfl)
    have d1 := keepP ⟨w.heap.size + 1, 0, none⟩ (.int .i64 0) ((c1.cell 0).trans rfl)
    have d2 := keepP ⟨w.heap.size + 2, 0, none⟩ (.int .i64 0) ((c2.cell 0).trans rfl)
    refine ⟨_, ?_, r, rc, rfl, keepP _ _ (hcell 0 _ rfl), keepP _ _ (hcell 5 _ rfl), hbe.grown (grownBy_putObj' _ _ _) hbe.size (fun k e => by injection e with e; omega)⟩
    simp [results, Tryz.results87, go_sem, d0, d1, d2]

theorem bytes_below (w : World) (e : TypeId) (s : ByteArray) : Below w.heap.size w (Lib.bytesWorld w e s) :=
  ⟨rfl, rfl, rfl, by rw [Lib.bytesWorld_size]; omega, fun k hk => Lib.bytesWorld_at_old w e s k hk⟩
set_option maxRecDepth 20000 in
set_option maxHeartbeats 4000000 in
theorem word_any (c : UInt8) (h : c = 97 ∨ c = 107) (w : World) : Calls Tryz.prog 58 #[.string ⟨#[c]⟩] w fun e w' => e = .returned (.bool true) ∧ Below w.heap.size w w' := by
  have HK := Lib.hid (keyword_any c h)
  have HS := Lib.hid (scan_any c h)
  have HCV := Lib.hid (fun W : World => Lib.run_convert_string_bytes (P := Tryz.prog) W 9 238 5 ⟨#[c]⟩ Tryz.underlying9 Tryz.underlying238 Tryz.underlying5)
  go_enter Tryz.func58, Tryz.ntmps58
  go_wp2_with fail
  refine (HK.out _).mono ?_
  rintro e w1 ⟨rfl, hb1⟩
  have hcv := HCV.out w1
  have hcb := bytes_below w1 5 ⟨#[c]⟩
  have hcc : (Lib.bytesWorld w1 5 ⟨#[c]⟩).cell? ⟨w1.heap.size, 0, none⟩ = some (.int .u8 c.toNat) := Lib.bytesWorld_cell w1 5 ⟨#[c]⟩ 0 (by show 0 < 1; omega)
  have hcg : 1 ≤ grownCap w1 1 0 5 := grownCap_ge _ _ _ _
  rw [show ByteArray.size ⟨#[c]⟩ = 1 from rfl] at hcv
  generalize Lib.bytesWorld w1 5 ⟨#[c]⟩ = W2 at hcv hcb hcc
  generalize grownCap w1 1 0 5 = gc at hcv hcg
  have HC := Lib.hid hcc
  have HB := Lib.hid (hb1.trans (hcb.mono hb1.size))
  clear hcc hb1 hcb
  go_wp2_with fail
  refine (HS.out _ _ hcg _ HC.out).mono ?_
  rintro e w3 ⟨r, rc, rfl, y0, y5, hb3⟩
  have HB3 := Lib.hid (HB.out.trans (hb3.mono HB.out.size))
  clear hb3
  go_wp2_with fail
  go_returns
  exact ⟨rfl, HB3.out⟩
end Go.Proofs.YthipgipmhjebmaaGreatDoor.Pol
