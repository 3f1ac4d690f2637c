/- for t, e := range lex.Each(text): the statement, over a text of one letter. -/
import Derived.Test.YthipgipmhjebmaaGreatDoorNilScan
import Derived.RangeFuncFrom
namespace Go.Proofs.YthipgipmhjebmaaGreatDoor.Pol
open Go.RowKit Go.Proofs.YthipgipmhjebmaaGreatDoorW.PrintWords
set_option linter.unusedVariables false
set_option linter.unusedSimpArgs false

theorem grown_of_below {w w' : World} (h : Below w.heap.size w w') (row : Option Nat) : w.grownBy w' row := ⟨h.os, h.tape, h.output, h.size, fun k hk _ => h.block k hk⟩
theorem below_alloc' {B : Nat} {w w' : World} (h : Below B w w') (o : Obj) (hB : B ≤ w.heap.size) : Below B w (w'.alloc o) := h.alloc (Nat.le_trans hB h.size) o
theorem below_calm {β : World} {n₀ B : Nat} (hn : n₀ ≤ β.heap.size) (hB : n₀ ≤ B) : ∀ W W' row, Below n₀ β W → W.grownBy W' row → (∀ r, row = some r → B ≤ r ∧ ∃ o : Obj, W.heap[r]? = some o ∧ o.isCells = false) → Below n₀ β W' :=
  fun W W' row h hg hr => h.grown hg (Nat.le_trans hn h.size) (fun k e => Nat.le_trans hB (hr k e).1)
/-- A fact that abides new blocks, and turns of blocks from B on that hold no cells. -/
def Calm (B : Nat) (I : World → Prop) : Prop := ∀ W W' row, I W → W.grownBy W' row → (∀ r, row = some r → B ≤ r ∧ ∃ o : Obj, W.heap[r]? = some o ∧ o.isCells = false) → I W'
theorem Calm.put {B : Nat} {I : World → Prop} (h : Calm B I) {W : World} {r : Nat} {o : Obj} (o' : Obj) (hi : I W) (hr : B ≤ r) (ho : W.heap[r]? = some o) (hc : o.isCells = false) : I (W.putObj r o') :=
  h W _ (some r) hi (grownBy_putObj' W r o') (fun q e => by injection e with e; subst e; exact ⟨hr, o, ho, hc⟩)
theorem Calm.new {B : Nat} {I : World → Prop} (h : Calm B I) {W W' : World} (hi : I W) (hb : Below W.heap.size W W') : I W' :=
  h W W' none hi (grown_of_below hb none) (fun q e => by cases e)
theorem heap_lt' {W : World} {g : Nat} {o : Obj} (h : W.heap[g]? = some o) : g < W.heap.size := (Array.getElem?_eq_some_iff.1 h).1
/-- One block from B on that holds no cells has been turned. -/
def Turn (B : Nat) (W W' : World) : Prop := ∃ r, W.grownBy W' (some r) ∧ B ≤ r ∧ ∃ o : Obj, W.heap[r]? = some o ∧ o.isCells = false
theorem Turn.calm {B : Nat} {W W' : World} (h : Turn B W W') {I : World → Prop} (hI : Calm B I) (hi : I W) : I W' := by
  obtain ⟨r, hg, hr, o, ho, hc⟩ := h
  exact hI W W' (some r) hi hg (fun q e => by injection e with e; subst e; exact ⟨hr, o, ho, hc⟩)
theorem Turn.cell {B : Nat} {W W' : World} (h : Turn B W W') {a : Addr} {v : Value} (hv : W.cell? a = some v) : W'.cell? a = some v := by
  obtain ⟨r, hg, hr, o, ho, hc⟩ := h
  exact cell_kept hv hg (fun q e => by injection e with e; subst e; exact ⟨o, ho, hc⟩)
theorem Turn.blk {B : Nat} {W W' : World} (h : Turn B W W') {g : Nat} {t : TypeId} {cs : Array Value} (hb : Blk W g t cs) : Blk W' g t cs := by
  obtain ⟨r, hg, hr, o, ho, hc⟩ := h
  refine (hg.block g hb.lt (fun e => ?_)).trans hb
  injection e with e
  subst e
  have h2 : W.heap[g]? = some (.cells cs t (0, 0)) := hb
  rw [h2] at ho
  injection ho with ho
  subst ho
  cases hc
theorem chg_calm {G : List Nat} {W0 : World} {B : Nat} (hB : W0.heap.size ≤ B) : Calm B (fun W => Chg G W0 W) := fun W W' row h hg hr =>
  ⟨hg.os.trans h.os, hg.tape.trans h.tape, hg.output.trans h.output, Nat.le_trans h.size hg.size, fun i hi hx => (hg.block i (Nat.lt_of_lt_of_le hi h.size) (fun e => by
    obtain ⟨h1, _⟩ := hr i e.symm
    omega)).trans (h.block i hi hx)⟩
theorem blk_calm {B g : Nat} {t : TypeId} {cs : Array Value} (hg : g < B) : Calm B (fun W => Blk W g t cs) := fun W W' row h hgr hr =>
  (hgr.block g h.lt (fun e => by obtain ⟨h1, _⟩ := hr g e.symm; omega)).trans h
theorem Calm.and {B : Nat} {I J : World → Prop} (hI : Calm B I) (hJ : Calm B J) : Calm B (fun W => I W ∧ J W) := fun W W' row h hg hr => ⟨hI W W' row h.1 hg hr, hJ W W' row h.2 hg hr⟩
theorem Calm.const {B : Nat} (p : Prop) : Calm B (fun _ => p) := fun _ _ _ h _ _ => h
/-- How a round may leave its body. -/
def RPost (ob : Nat) (I : Nat → World → Prop) (W : World) : Exit → Act → World → Prop
  | .normal, _, W' => KeepsOthers W W' ∧ KeepC ob W W' ∧ I 1 W'
  | _, _, _ => False
theorem zip_two (ts : Array Value) (p1 p2 : Tmp) (x y : Value) : ((#[p1, p2] : Array Tmp).zip #[x, y]).foldl (fun t (p, v) => t.setIfInBounds p v) ts = (ts.setIfInBounds p1 x).setIfInBounds p2 y := by
  simp [Array.zip, Array.zipWith, Array.zipWithMAux]
theorem range_tok (c : UInt8) (h : c = 97 ∨ c = 107) (n bx g cap ob : Nat) (hcap : 1 ≤ cap) {go_ : Operand} {p1 p2 : Tmp} {assign body : Code} {Q : Exit → Act → World → Prop} {a : Act} {w : World}
    (hX : w.cell? ⟨bx, 0, none⟩ = some (.slice (some ⟨g, 0, none⟩) 1 cap)) (hc : w.cell? ⟨g, 0, none⟩ = some (.int .u8 c.toNat))
    (hob : ob < w.heap.size) (hbo : bx ≠ ob) (hgo : g ≠ ob) (hg : a.eval go_ = .func (.func 171) #[] #[.pointer (some ⟨bx, 0, none⟩)])
    (I : Nat → World → Prop) (hI : ∀ k, Calm w.heap.size (I k)) (h0 : I 0 w)
    (hround : ∀ (l : Nat) (W : World), w.heap.size ≤ W.heap.size → I 0 W →
      assign.wpIn (Fence.wide.inRound l) (n - 1 - 1) Tryz.prog (Exit.then (fun a₁ W' => Below W.heap.size W W' ∧ ∀ W2, Turn w.heap.size W' W2 → body.wpIn (Fence.wide.inRound l) (n - 1 - 1) Tryz.prog (RPost ob I W2) a₁ W2) (fun _ _ _ => False)) { tmps := (a.tmps.setIfInBounds p1 (tokC ⟨#[c]⟩ 0 1)).setIfInBounds p2 (.int .i64 0), defers := [] } W)
    (hdone : ∀ (D : Nat) (W : World), w.heap.size ≤ D → I 1 W → W.heap[D]? = some (.deferred (some [])) → Q .normal { a with defers := { target := .collected D, args := #[] } :: a.defers } W) :
    (Code.rangeFunc go_ #[p1, p2] assign body).wpIn Fence.wide n Tryz.prog Q a w := by
  refine wpIn_rangeFunc fun fn hfn => ?_
  -- the record, at the block behind the one for the rounds' deferred calls
  let rec_ : LoopState → Option Code → Obj := fun st pe => .loop { state := st, pending := pe, fn := fn, tmps := a.tmps, params := #[p1, p2], assign := assign, body := body, defers := w.heap.size }
  have hr0 : (Instr.enterLoop fn a.tmps #[p1, p2] assign body Fence.wide.round).run Tryz.prog w = .ok (w.heap.size + 1, [{ target := .collected w.heap.size, args := #[] }]) ((w.alloc (.deferred (some []))).alloc (rec_ .ready none)) := run_enterLoop_outer fn a.tmps #[p1, p2] assign body
  obtain ⟨W1, hW1⟩ : ∃ W1, (w.alloc (.deferred (some []))).alloc (rec_ .ready none) = W1 := ⟨_, rfl⟩
  rw [hW1] at hr0
  have hb1 : Below w.heap.size w W1 := by
    rw [← hW1]
    exact ((Below.refl _ w).alloc (Nat.le_refl _) _).alloc (by simp) _
  have hD1 : W1.heap[w.heap.size]? = some (.deferred (some [])) := by
    rw [← hW1]
    exact (Below.heap_alloc _ _ _ (by simp)).trans (World.alloc_heap_new w _)
  have hL1 : W1.heap[w.heap.size + 1]? = some (rec_ .ready none) := by
    rw [← hW1]
    have h := World.alloc_heap_new (w.alloc (.deferred (some []))) (rec_ .ready none)
    rwa [World.size_alloc] at h
  have hlt1 : w.heap.size + 1 < W1.heap.size := heap_lt' hL1
  refine ⟨w.heap.size + 1, _, W1, { target := .fn (.func 171) #[.pointer (some ⟨bx, 0, none⟩)], args := #[.func (.yield (w.heap.size + 1)) #[] #[]] }, W1, 171, #[.func (.yield (w.heap.size + 1)) #[] #[], .pointer (some ⟨bx, 0, none⟩)], W1, hr0, ?_, fun _ _ => trivial, ?_, fun hd => by simp [Fence.wide] at hd, ?_⟩
  · simp only [resolve, hg]
    simp [go_sem]
  · kernel_rfl
  -- the function's contract at: the caller's fact, and the two blocks
  let J : List Unit → World → Prop := fun pre W => I pre.length W ∧ W.heap[w.heap.size + 1]? = some (rec_ .ready none) ∧ W.heap[w.heap.size]? = some (.deferred (some []))
  have hJ : AbidesFrom W1.heap.size J := fun pre W W' row h hg hr => ⟨hI _ W W' row h.1 hg (fun r e => by
    obtain ⟨h1, o, ho, hw⟩ := hr r e
    exact ⟨Nat.le_trans hb1.size h1, o, ho, by cases o <;> simp_all [Obj.isWalk, Obj.isCells]⟩),
    (hg.block _ (heap_lt' h.2.1) (fun e => by obtain ⟨h1, _⟩ := hr _ e.symm; omega)).trans h.2.1,
    (hg.block _ (heap_lt' h.2.2) (fun e => by obtain ⟨h1, _⟩ := hr _ e.symm; omega)).trans h.2.2⟩
  have hY : ∀ (pre : List Unit) (x : Unit) (Wa : World), J pre Wa → pre.length < 1 → YieldAt Fence.wide (n - 1 - 1) Tryz.prog (w.heap.size + 1) #[tokC ⟨#[c]⟩ 0 1, .int .i64 0] Wa fun e W' =>
      (e = .returned (.bool true) ∧ J (pre ++ [x]) W' ∧ KeepC ob Wa W') ∨ (e = .returned (.bool false) ∧ (fun (_ : List Unit) (_ : World) => False) (pre ++ [x]) W') := by
    rintro pre x W ⟨hi, hL, hD⟩ hp
    obtain rfl : pre = [] := List.eq_nil_of_length_eq_zero (by omega)
    have hWs : w.heap.size ≤ W.heap.size := by have := heap_lt' hD; omega
    have hy := run_yield (P := Tryz.prog) (args := #[tokC ⟨#[c]⟩ 0 1, .int .i64 0]) hL rfl
    rw [zip_two] at hy
    refine ⟨fn, _, assign, body, hy, roundIn_of_wpIn trivial (wpIn_mono (hround (w.heap.size + 1) W hWs hi) ?_)⟩
    rintro e a₁ W2 hp
    cases e with
    | normal =>
      obtain ⟨hb2, hBk⟩ := hp
      have hL2 := (hb2.block _ (heap_lt' hL)).trans hL
      have hD2 := (hb2.block _ (heap_lt' hD)).trans hD
      refine ⟨_, run_beginRound (P := Tryz.prog) hL2 rfl, ?_⟩
      have hB3 : Turn w.heap.size W2 (W2.putObj (w.heap.size + 1) (rec_ .busy none)) := ⟨_, grownBy_putObj' W2 _ _, Nat.le_succ _, _, hL2, rfl⟩
      have hL3 : (W2.putObj (w.heap.size + 1) (rec_ .busy none)).heap[w.heap.size + 1]? = some (rec_ .busy none) := World.putObj_heap_same (heap_lt' hL2)
      have hD3 : (W2.putObj (w.heap.size + 1) (rec_ .busy none)).heap[w.heap.size]? = some (.deferred (some [])) := (World.putObj_heap_other (by omega)).trans hD2
      have hk3 : KeepC ob W (W2.putObj (w.heap.size + 1) (rec_ .busy none)) := fun ad v _ hv => hB3.cell ((hb2.cell (World.block_lt_of_cell? W _ hv)).trans hv)
      refine wpIn_mono (hBk _ hB3) ?_
      rintro e a3 W4 hp4
      cases e with
      | normal =>
        obtain ⟨hk4, hc4, hi4⟩ := hp4
        have hL4 := hk4.same _ _ hL3 rfl
        have hD4 := hk4.same _ _ hD3 rfl
        refine ⟨_, _, run_endRound (P := Tryz.prog) none hL4, .inl ⟨rfl, ⟨(hI _).put _ hi4 (Nat.le_succ _) hL4 rfl, World.putObj_heap_same (heap_lt' hL4), (World.putObj_heap_other (by omega)).trans hD4⟩, ?_⟩⟩
        exact fun ad v hne hv => cell_kept (hc4 ad v hne (hk3 ad v hne hv)) (grownBy_putObj' W4 _ _) (fun q e => by injection e with e; subst e; exact ⟨_, hL4, rfl⟩)
      | exit id => exact hp4.elim
      | ret => exact hp4.elim
      | goto t => exact hp4.elim
      | panic ch => exact hp4.elim
      | outgrown => exact hp4.elim
    | exit id => exact hp.elim
    | ret => exact hp.elim
    | goto t => exact hp.elim
    | panic ch => exact hp.elim
    | outgrown => exact hp.elim
  refine (each_stops c h (n - 1) bx g cap ob hcap w hX hc hob hbo hgo (w.heap.size + 1) J (fun _ _ => False) W1 hb1 hJ (fun _ _ _ _ h _ _ => h) hY ⟨(hI 0).new h0 hb1, hL1, hD1⟩).mono ?_
  rintro e W2 ⟨⟨v, rfl⟩, h | h⟩
  · obtain ⟨xs, rfl, hi, hL, hD⟩ := h
    exact ⟨none, _, run_endLoop (P := Tryz.prog) hL (by simp), hdone _ _ (Nat.le_refl _) ((hI _).put _ hi (Nat.le_succ _) hL rfl) ((World.putObj_heap_other (by omega)).trans hD)⟩
  · obtain ⟨pre, _, h⟩ := h
    exact h.elim
end Go.Proofs.YthipgipmhjebmaaGreatDoor.Pol
