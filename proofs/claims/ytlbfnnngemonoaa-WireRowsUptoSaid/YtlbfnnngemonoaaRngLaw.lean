/- for m, at := range wire.Rows(b): the statement, over a body that knows where each message's payload lies. -/
import Derived.Test.YtlbfnnngemonoaaRngIter
namespace Go.Proofs.Ytlbfnnngemonoaa.Wir
open Go.RowKit Go.Proofs.Ytlbfnnngemonoaa.PWireReads
open Go.Proofs.Ytlbfnnngemonoaa.Fat (Blk Chg Off chg_opt)
open Go.Proofs.YtlbfnnngemonoaaW.PrintWords Go.Proofs.YtlbfnnngemonoaaW.PrintLast Go.Proofs.YtlbfnnngemonoaaW.PrintMore
set_option linter.unusedVariables false
set_option linter.unusedSimpArgs false

/-- A fact that abides new blocks, and turns of blocks from B on that hold no cells. -/
def Calm (B : Nat) (I : World → Prop) : Prop := ∀ W W' row, I W → W.grownBy W' row → (∀ r, row = some r → B ≤ r ∧ ∃ o : Obj, W.heap[r]? = some o ∧ o.isCells = false) → I W'
theorem Calm.put {B : Nat} {I : World → Prop} (h : Calm B I) {W : World} {r : Nat} {o : Obj} (o' : Obj) (hi : I W) (hr : B ≤ r) (ho : W.heap[r]? = some o) (hc : o.isCells = false) : I (W.putObj r o') :=
  h W _ (some r) hi (grownBy_putObj' W r o') (fun q e => by injection e with e; subst e; exact ⟨hr, o, ho, hc⟩)
theorem Calm.new {B : Nat} {I : World → Prop} (h : Calm B I) {W W' : World} (hi : I W) (hb : Below W.heap.size W W') : I W' :=
  h W W' none hi (grown_of_below hb none) (fun q e => by cases e)
theorem heap_lt' {W : World} {g : Nat} {o : Obj} (h : W.heap[g]? = some o) : g < W.heap.size := (Array.getElem?_eq_some_iff.1 h).1
/-- One block from B on that holds no cells has been turned. -/
def Turn (B : Nat) (W W' : World) : Prop := ∃ r, W.grownBy W' (some r) ∧ B ≤ r ∧ ∃ o : Obj, W.heap[r]? = some o ∧ o.isCells = false
theorem Turn.calm {B : Nat} {W W' : World} (h : Turn B W W') {I : World → Prop} (hI : Calm B I) (hi : I W) : I W' := by
  obtain ⟨r, hg, hr, o, ho, hc⟩ := h
  exact hI W W' (some r) hi hg (fun q e => by injection e with e; subst e; exact ⟨hr, o, ho, hc⟩)
theorem Turn.cell {B : Nat} {W W' : World} (h : Turn B W W') {a : Addr} {v : Value} (hv : W.cell? a = some v) : W'.cell? a = some v := by
  obtain ⟨r, hg, hr, o, ho, hc⟩ := h
  exact cell_kept hv hg (fun q e => by injection e with e; subst e; exact ⟨o, ho, hc⟩)
theorem Turn.blk {B : Nat} {W W' : World} (h : Turn B W W') {g : Nat} {t : TypeId} {cs : Array Value} (hb : Blk W g t cs) : Blk W' g t cs := by
  obtain ⟨r, hg, hr, o, ho, hc⟩ := h
  refine (hg.block g hb.lt (fun e => ?_)).trans hb
  injection e with e
  subst e
  have h2 : W.heap[g]? = some (.cells cs t (0, 0)) := hb
  rw [h2] at ho
  injection ho with ho
  subst ho
  cases hc
theorem C_cells {W W' : World} {A : Option Addr} {n : Nat} {vs : List V} (h : Kd.C kV W A n vs) (hc : ∀ a v, W.cell? a = some v → W'.cell? a = some v) : Kd.C kV W' A n vs := by
  obtain ⟨h1, h2, h3⟩ := h
  refine ⟨h1, h2, fun hn => ?_⟩
  obtain ⟨ad, e, hr⟩ := h3 hn
  refine ⟨ad, e, fun j p hj => ?_⟩
  obtain ⟨cs, hl, hk, hu⟩ := hr j p hj
  exact ⟨cs, hl, hk, fun i u hi => hc _ _ (hu i u hi)⟩
theorem chg_calm {G : List Nat} {W0 : World} {B : Nat} (hB : W0.heap.size ≤ B) : Calm B (fun W => Chg G W0 W) := fun W W' row h hg hr =>
  ⟨hg.os.trans h.os, hg.tape.trans h.tape, hg.output.trans h.output, Nat.le_trans h.size hg.size, fun i hi hx => (hg.block i (Nat.lt_of_lt_of_le hi h.size) (fun e => by
    obtain ⟨h1, _⟩ := hr i e.symm
    omega)).trans (h.block i hi hx)⟩
theorem blk_calm {B g : Nat} {t : TypeId} {cs : Array Value} (hg : g < B) : Calm B (fun W => Blk W g t cs) := fun W W' row h hgr hr =>
  (hgr.block g h.lt (fun e => by obtain ⟨h1, _⟩ := hr g e.symm; omega)).trans h
theorem Calm.and {B : Nat} {I J : World → Prop} (hI : Calm B I) (hJ : Calm B J) : Calm B (fun W => I W ∧ J W) := fun W W' row h hg hr => ⟨hI W W' row h.1 hg hr, hJ W W' row h.2 hg hr⟩
theorem Calm.const {B : Nat} (p : Prop) : Calm B (fun _ => p) := fun _ _ _ h _ _ => h
/-- How a round may leave its body. -/
def RPost (n₁ : Nat) (I : Nat → World → Prop) (Ix : Code → World → Prop) (k : Nat) (W : World) : Exit → Act → World → Prop
  | .normal, _, W' => KeepsOthers W W' ∧ Below n₁ W W' ∧ I (k + 1) W'
  | .exit id, _, W' => KeepsOthers W W' ∧ Ix (.exit id) W'
  | _, _, _ => False
theorem zip_two (ts : Array Value) (p1 p2 : Tmp) (x y : Value) : ((#[p1, p2] : Array Tmp).zip #[x, y]).foldl (fun t (p, v) => t.setIfInBounds p v) ts = (ts.setIfInBounds p1 x).setIfInBounds p2 y := by
  simp [Array.zip, Array.zipWith, Array.zipWithMAux]
theorem range_msgs (n bx : Nat) (A : Option Addr) (c : Nat) (L : List Int) (w₁ : World) (hX : Blk w₁ bx 45 #[.slice A L.length c]) (hC : Kd.C (Kd.int .u8) w₁ A L.length L) (hc : L.length ≤ c) (hB : By L) (hl : L.length ≤ 140737488355328)
    {g : Operand} {p1 p2 : Tmp} {assign body : Code} {Q : Exit → Act → World → Prop} {a : Act} {w : World} (hg : a.eval g = .func (.func 63) #[] #[.pointer (some ⟨bx, 0, none⟩)]) (hw : Below w₁.heap.size w₁ w)
    (I : Nat → World → Prop) (Ix : Code → World → Prop) (hI : ∀ k, Calm w.heap.size (I k)) (hIx : ∀ c, Calm w.heap.size (Ix c)) (h0 : I 0 w)
    (hround : ∀ (l k : Nat) (m : M) (p : Nat) (Av : Option Addr) (cv : Nat) (W : World), w.heap.size ≤ W.heap.size → I k W → (allM L)[k]? = some (m, p) → Kd.C kV W Av m.pl.length m.pl → m.pl.length ≤ cv →
      assign.wpIn (Fence.wide.inRound l) (n - 1 - 1) Try.prog (Exit.then (fun a₁ W' => Below W.heap.size W W' ∧ ∀ W2, Turn w.heap.size W' W2 → body.wpIn (Fence.wide.inRound l) (n - 1 - 1) Try.prog (RPost w₁.heap.size I Ix k W2) a₁ W2) (fun _ _ _ => False)) { tmps := (a.tmps.setIfInBounds p1 (.agg #[.int .i64 m.id, .string m.tag, .slice Av m.pl.length cv])).setIfInBounds p2 (.int .i64 p), defers := [] } W)
    (hdone : ∀ (D : Nat) (W : World), w.heap.size ≤ D → I (allM L).length W → W.heap[D]? = some (.deferred (some [])) → Q .normal { a with defers := { target := .collected D, args := #[] } :: a.defers } W)
    (hstop : ∀ (D : Nat) (c : Code) (W : World), w.heap.size ≤ D → Ix c W → W.heap[D]? = some (.deferred (some [])) → c.wpIn Fence.wide n Try.prog Q { a with defers := { target := .collected D, args := #[] } :: a.defers } W) :
    (Code.rangeFunc g #[p1, p2] assign body).wpIn Fence.wide n Try.prog Q a w := by
  have hn1 : w₁.heap.size ≤ w.heap.size := hw.size
  refine wpIn_rangeFunc fun fn hfn => ?_
  -- the record, at the block behind the one for the rounds' deferred calls
  let rec_ : LoopState → Option Code → Obj := fun st pe => .loop { state := st, pending := pe, fn := fn, tmps := a.tmps, params := #[p1, p2], assign := assign, body := body, defers := w.heap.size }
  have hr0 : (Instr.enterLoop fn a.tmps #[p1, p2] assign body Fence.wide.round).run Try.prog w = .ok (w.heap.size + 1, [{ target := .collected w.heap.size, args := #[] }]) ((w.alloc (.deferred (some []))).alloc (rec_ .ready none)) := run_enterLoop_outer fn a.tmps #[p1, p2] assign body
  obtain ⟨W1, hW1⟩ : ∃ W1, (w.alloc (.deferred (some []))).alloc (rec_ .ready none) = W1 := ⟨_, rfl⟩
  rw [hW1] at hr0
  have hb1 : Below w.heap.size w W1 := by
    rw [← hW1]
    exact ((Below.refl _ w).alloc (Nat.le_refl _) _).alloc (by simp) _
  have hD1 : W1.heap[w.heap.size]? = some (.deferred (some [])) := by
    rw [← hW1]
    exact (Below.heap_alloc _ _ _ (by simp)).trans (World.alloc_heap_new w _)
  have hL1 : W1.heap[w.heap.size + 1]? = some (rec_ .ready none) := by
    rw [← hW1]
    have h := World.alloc_heap_new (w.alloc (.deferred (some []))) (rec_ .ready none)
    rwa [World.size_alloc] at h
  have hlt1 : w.heap.size + 1 < W1.heap.size := heap_lt' hL1
  refine ⟨w.heap.size + 1, _, W1, { target := .fn (.func 63) #[.pointer (some ⟨bx, 0, none⟩)], args := #[.func (.yield (w.heap.size + 1)) #[] #[]] }, W1, 63, #[.func (.yield (w.heap.size + 1)) #[] #[], .pointer (some ⟨bx, 0, none⟩)], W1, hr0, ?_, fun _ _ => trivial, ?_, fun hd => by simp [Fence.wide] at hd, ?_⟩
  · simp only [resolve, hg]
    simp [go_sem]
  · kernel_rfl
  -- the function's contract at: the caller's fact, and the two blocks
  let J : Nat → World → Prop := fun k W => I k W ∧ W.heap[w.heap.size + 1]? = some (rec_ .ready none) ∧ W.heap[w.heap.size]? = some (.deferred (some []))
  let Jx : World → Prop := fun W => ∃ c, Ix c W ∧ W.heap[w.heap.size + 1]? = some (rec_ .done (some c)) ∧ W.heap[w.heap.size]? = some (.deferred (some []))
  have hJ : ∀ k W W', J k W → Below W.heap.size W W' → J k W' := fun k W W' h hb => ⟨(hI k).new h.1 hb, (hb.block _ (heap_lt' h.2.1)).trans h.2.1, (hb.block _ (heap_lt' h.2.2)).trans h.2.2⟩
  have hY : Told (n - 1) (w.heap.size + 1) L w₁.heap.size J Jx := by
    rintro k m p Av cv W ⟨hi, hL, hD⟩ hT hCv hcv
    have hWs : w.heap.size ≤ W.heap.size := by have := heap_lt' hD; omega
    have hy := run_yield (P := Try.prog) (args := #[.agg #[.int .i64 m.id, .string m.tag, .slice Av m.pl.length cv], .int .i64 p]) hL rfl
    rw [zip_two] at hy
    refine ⟨fn, _, assign, body, hy, roundIn_of_wpIn trivial (wpIn_mono (hround (w.heap.size + 1) k m p Av cv W hWs hi hT hCv hcv) ?_)⟩
    rintro e a₁ W2 hp
    cases e with
    | normal =>
      obtain ⟨hb2, hBk⟩ := hp
      have hL2 := (hb2.block _ (heap_lt' hL)).trans hL
      have hD2 := (hb2.block _ (heap_lt' hD)).trans hD
      refine ⟨_, run_beginRound (P := Try.prog) hL2 rfl, ?_⟩
      have hB3 : Turn w.heap.size W2 (W2.putObj (w.heap.size + 1) (rec_ .busy none)) := ⟨_, grownBy_putObj' W2 _ _, Nat.le_succ _, _, hL2, rfl⟩
      have hL3 : (W2.putObj (w.heap.size + 1) (rec_ .busy none)).heap[w.heap.size + 1]? = some (rec_ .busy none) := World.putObj_heap_same (heap_lt' hL2)
      have hD3 : (W2.putObj (w.heap.size + 1) (rec_ .busy none)).heap[w.heap.size]? = some (.deferred (some [])) := (World.putObj_heap_other (by omega)).trans hD2
      have hw3 : Below w₁.heap.size W (W2.putObj (w.heap.size + 1) (rec_ .busy none)) := (hb2.mono (by omega)).trans ((Below.refl _ W2).grown (grownBy_putObj' W2 _ _) (by have := hb2.size; omega) (fun q e => by injection e with e; omega))
      refine wpIn_mono (hBk _ hB3) ?_
      rintro e a3 W4 hp4
      cases e with
      | normal =>
        obtain ⟨hk4, hb4, hi4⟩ := hp4
        have hL4 := hk4.same _ _ hL3 rfl
        have hD4 := hk4.same _ _ hD3 rfl
        refine ⟨_, _, run_endRound (P := Try.prog) none hL4, .inl ⟨rfl, ⟨(hI (k + 1)).put _ hi4 (Nat.le_succ _) hL4 rfl, World.putObj_heap_same (heap_lt' hL4), (World.putObj_heap_other (by omega)).trans hD4⟩, ?_⟩⟩
        exact (hw3.trans hb4).trans ((Below.refl _ W4).grown (grownBy_putObj' W4 _ _) (by have := heap_lt' hL4; omega) (fun q e => by injection e with e; omega))
      | exit id =>
        obtain ⟨hk4, hi4⟩ := hp4
        have hL4 := hk4.same _ _ hL3 rfl
        have hD4 := hk4.same _ _ hD3 rfl
        exact ⟨_, _, run_endRound (P := Try.prog) (some (.exit id)) hL4, .inr ⟨rfl, .exit id, (hIx _).put _ hi4 (Nat.le_succ _) hL4 rfl, World.putObj_heap_same (heap_lt' hL4), (World.putObj_heap_other (by omega)).trans hD4⟩⟩
      | ret => exact hp4.elim
      | goto t => exact hp4.elim
      | panic ch => exact hp4.elim
      | outgrown => exact hp4.elim
    | exit id => exact hp.elim
    | ret => exact hp.elim
    | goto t => exact hp.elim
    | panic ch => exact hp.elim
    | outgrown => exact hp.elim
  refine (rows63 (n - 1) bx A c L w₁ hX hC hc hB hl (w.heap.size + 1) J Jx W1 (hw.trans (hb1.mono hn1)) hJ hY ⟨(hI 0).new h0 hb1, hL1, hD1⟩).mono ?_
  rintro e W2 ⟨⟨v, rfl⟩, h | h⟩
  · obtain ⟨hi, hL, hD⟩ := h
    exact ⟨none, _, run_endLoop (P := Try.prog) hL (by simp), hdone _ _ (Nat.le_refl _) ((hI _).put _ hi (Nat.le_succ _) hL rfl) ((World.putObj_heap_other (by omega)).trans hD)⟩
  · obtain ⟨c, hi, hL, hD⟩ := h
    exact ⟨some c, _, run_endLoop (P := Try.prog) hL (by simp), hstop _ c _ (Nat.le_refl _) ((hIx c).put _ hi (Nat.le_succ _) hL rfl) ((World.putObj_heap_other (by omega)).trans hD)⟩
end Go.Proofs.Ytlbfnnngemonoaa.Wir
