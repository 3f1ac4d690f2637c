/- Nothing is scanned: lex.next, lex.Each, lex.Scan over no bytes. -/
import Derived.Test.YtmgnkhpaaghmkaaGreatDoorShnBase
import Derived.RangeFuncBox
import Derived.RangeFuncKeeps
import Derived.RangeFuncLeaves
import Derived.RangeFuncCalls
import Derived.RangeFuncFrom
import Derived.LoopIn
import Derived.Sort.CutIn
import Derived.OrdersIn
import Derived.OwnWalkIn
namespace Go.Proofs.YtmgnkhpaaghmkaaGreatDoor.Shn
open Go.RowKit Go.Proofs.YtmgnkhpaaghmkaaGreatDoorW.PrintWords
theorem run_store_float {P : Program} {w : World} {a : Addr} {m : Mode} (k : FloatKind) (b : Nat) : (store a (.float k b) m).run P w = stored P w a (.float k b) m := run_store P w a _ m rfl
attribute [local go_sem] run_store_float Oper.semAt_some
set_option linter.unusedVariables false
set_option linter.unusedSimpArgs false

/-- A scope with jumps forward: what stands behind the label is walked at each jump. -/
theorem wp_scope_fwd {P : Program} {a : Act} {w : World} {Q : Exit → Act → World → Prop} {c rest : Code} (l : Nat) (hf : findLabel c l = some rest)
    (first : c.wp P (Exit.jump l (fun a w => rest.wp P (Exit.jump l (fun _ _ => False) Q) a w) Q) a w) : (Code.scope c).wp P Q a w :=
  wp_scope_jumps l _ (fun _ _ => 0) hf first (fun a w h => Code.wp_mono (fun e a w h => by
    cases e with
    | goto l' => exact ⟨h.1, h.2.elim⟩
    | normal => exact h
    | exit id => exact h
    | ret => exact h
    | panic ch => exact h
    | outgrown => exact h) h)
theorem wide_call {n f : Nat} {P : Program} {args : Array Value} {w : World} {R : Ending → World → Prop} (h : CallsIn Fence.wide (n - 1) P f args w R) : Fence.wide.fn f ∧ (Fence.wide.depth.isSome = true → 1 ≤ n) ∧ CallsIn Fence.wide (n - 1) P f args w R := ⟨trivial, fun hd => by simp [Fence.wide] at hd, h⟩
def tok0 : Value := .agg #[.int .i64 0, .string { data := #[] }, .int .i64 0, .float .f64 0, .int .i64 0, .int .i64 0]
set_option maxRecDepth 20000 in
set_option maxHeartbeats 1000000 in
theorem lexnext_none (w : World) :
    Calls Tryz.prog 192 #[.slice none 0 0, .int .i64 0] w fun e w' => e = .returned (.tuple #[tok0, .bool false, .int .i64 0]) ∧ Below w.heap.size w w' := by
  unfold tok0
  go_enter Tryz.func192, Tryz.ntmps192
  go_wp2_with fail
  refine wp_scope_fwd 2 (by rfl) ?_
  go_wp2_with fail
  go_step3
  go_wp2_with fail
  simp only [Exit.jump]
  refine bodyPost_ret (results_ctt rfl _ _ w.heap.size 255 #[.int .i64 0, .string { data := #[] }, .int .i64 0, .float .f64 0, .int .i64 0, .int .i64 0] (0, 0) _ rfl (show Blk _ w.heap.size 255 _ from (Blk.new w _ _).alloc _) Tryz.underlying255 rfl (by kernel_rfl)) rfl ?_
  exact ⟨rfl, ((Below.refl _ _).alloc (Nat.le_refl _) _).alloc (by simp) _⟩
set_option maxRecDepth 20000 in
set_option maxHeartbeats 4000000 in
theorem each_none (n bx : Nat) (w0 : World) (hX : w0.cell? ⟨bx, 0, none⟩ = some (.slice none 0 0)) :
    SeqStopsK Fence.wide n Tryz.prog 191 #[.pointer (some ⟨bx, 0, none⟩)] (fun (_ : Unit) => #[tok0, .int .i64 0]) (fun _ _ => True) (fun xs => xs = []) (fun _ => False) 0 w0 := fun l J Jx W hW hJ hJx hY h0 => by
  have x0 := (hW.cell (World.block_lt_of_cell? w0 _ hX)).trans hX
  have HJ2 := Lib.hid (fun (A B : World) (ha : J [] A) (hb : Below A.heap.size A B) => hJ [] A B none ha ⟨hb.os, hb.tape, hb.output, hb.size, fun k hk _ => hb.block k hk⟩ (fun r e => by cases e))
  have HJ0 := Lib.hid h0
  have HX0 := Lib.hid x0
  clear hX hJ hJx hY h0 hW x0
  refine callsIn_of_wp Tryz.func191 rfl trivial ?_ rfl
  simp only [Tryz.ntmps191, List.size_toArray, List.length_cons, List.length_nil, Nat.reduceAdd, Nat.reduceSub, Array.replicate_succ, Array.replicate_zero, List.push_toArray, List.append_toArray, List.nil_append, List.cons_append]
  have x0 := HX0.out
  gi_wp2_with fail
  clear x0
  gi_loopw [3] (fun at_ wr => at_ = .int .i64 0 ∧ wr.cell? ⟨bx, 0, none⟩ = some (.slice none 0 0) ∧ Hid (J [] wr)) (fun _ _ => 0)
  case atStart => exact ⟨rfl, HX0.out, HJ0⟩
  case round =>
    clear HJ0 HX0
    obtain ⟨rfl, x0, HJk⟩ := hrel
    have HN := Lib.hid ((callsIn_wide (n := n - 1)).2 (lexnext_none wr))
    gi_wp2_with fail
    refine wide_call (HN.out.mono ?_)
    rintro e w2 ⟨rfl, hb2⟩
    have HJ5 := Lib.hid (HJ2.out _ _ HJk.out (hb2.alloc hb2.size (.cells #[.int .i64 0, .string { data := #[] }, .int .i64 0, .float .f64 0, .int .i64 0, .int .i64 0] 255)))
    unfold tok0
    gi_wp2_with fail
    refine ⟨fun f hf => (by cases hf), ?_⟩
    gi_wp2_with fail
    go_returns
    exact ⟨⟨_, rfl⟩, .inl ⟨_, rfl, HJ5.out⟩⟩

theorem grown_of_below {w w' : World} (h : Below w.heap.size w w') (row : Option Nat) : w.grownBy w' row := ⟨h.os, h.tape, h.output, h.size, fun k hk _ => h.block k hk⟩
theorem below_alloc' {B : Nat} {w w' : World} (h : Below B w w') (o : Obj) (hB : B ≤ w.heap.size) : Below B w (w'.alloc o) := h.alloc (Nat.le_trans hB h.size) o
theorem below_calm {β : World} {n₀ B : Nat} (hn : n₀ ≤ β.heap.size) (hB : n₀ ≤ B) : ∀ W W' row, Below n₀ β W → W.grownBy W' row → (∀ r, row = some r → B ≤ r ∧ ∃ o : Obj, W.heap[r]? = some o ∧ o.isCells = false) → Below n₀ β W' :=
  fun W W' row h hg hr => h.grown hg (Nat.le_trans hn h.size) (fun k e => Nat.le_trans hB (hr k e).1)
/-- A fact that abides new blocks, and turns of blocks from B on that hold no cells. -/
def Calm (B : Nat) (I : World → Prop) : Prop := ∀ W W' row, I W → W.grownBy W' row → (∀ r, row = some r → B ≤ r ∧ ∃ o : Obj, W.heap[r]? = some o ∧ o.isCells = false) → I W'
theorem Calm.put {B : Nat} {I : World → Prop} (h : Calm B I) {W : World} {r : Nat} {o : Obj} (o' : Obj) (hi : I W) (hr : B ≤ r) (ho : W.heap[r]? = some o) (hc : o.isCells = false) : I (W.putObj r o') :=
  h W _ (some r) hi (grownBy_putObj' W r o') (fun q e => by injection e with e; subst e; exact ⟨hr, o, ho, hc⟩)
theorem Calm.new {B : Nat} {I : World → Prop} (h : Calm B I) {W W' : World} (hi : I W) (hb : Below W.heap.size W W') : I W' :=
  h W W' none hi (grown_of_below hb none) (fun q e => by cases e)
theorem heap_lt' {W : World} {g : Nat} {o : Obj} (h : W.heap[g]? = some o) : g < W.heap.size := (Array.getElem?_eq_some_iff.1 h).1
/-- One block from B on that holds no cells has been turned. -/
def Turn (B : Nat) (W W' : World) : Prop := ∃ r, W.grownBy W' (some r) ∧ B ≤ r ∧ ∃ o : Obj, W.heap[r]? = some o ∧ o.isCells = false
theorem Turn.calm {B : Nat} {W W' : World} (h : Turn B W W') {I : World → Prop} (hI : Calm B I) (hi : I W) : I W' := by
  obtain ⟨r, hg, hr, o, ho, hc⟩ := h
  exact hI W W' (some r) hi hg (fun q e => by injection e with e; subst e; exact ⟨hr, o, ho, hc⟩)
theorem Turn.cell {B : Nat} {W W' : World} (h : Turn B W W') {a : Addr} {v : Value} (hv : W.cell? a = some v) : W'.cell? a = some v := by
  obtain ⟨r, hg, hr, o, ho, hc⟩ := h
  exact cell_kept hv hg (fun q e => by injection e with e; subst e; exact ⟨o, ho, hc⟩)
theorem Turn.blk {B : Nat} {W W' : World} (h : Turn B W W') {g : Nat} {t : TypeId} {cs : Array Value} (hb : Blk W g t cs) : Blk W' g t cs := by
  obtain ⟨r, hg, hr, o, ho, hc⟩ := h
  refine (hg.block g hb.lt (fun e => ?_)).trans hb
  injection e with e
  subst e
  have h2 : W.heap[g]? = some (.cells cs t (0, 0)) := hb
  rw [h2] at ho
  injection ho with ho
  subst ho
  cases hc
theorem chg_calm {G : List Nat} {W0 : World} {B : Nat} (hB : W0.heap.size ≤ B) : Calm B (fun W => Chg G W0 W) := fun W W' row h hg hr =>
  ⟨hg.os.trans h.os, hg.tape.trans h.tape, hg.output.trans h.output, Nat.le_trans h.size hg.size, fun i hi hx => (hg.block i (Nat.lt_of_lt_of_le hi h.size) (fun e => by
    obtain ⟨h1, _⟩ := hr i e.symm
    omega)).trans (h.block i hi hx)⟩
theorem blk_calm {B g : Nat} {t : TypeId} {cs : Array Value} (hg : g < B) : Calm B (fun W => Blk W g t cs) := fun W W' row h hgr hr =>
  (hgr.block g h.lt (fun e => by obtain ⟨h1, _⟩ := hr g e.symm; omega)).trans h
theorem Calm.and {B : Nat} {I J : World → Prop} (hI : Calm B I) (hJ : Calm B J) : Calm B (fun W => I W ∧ J W) := fun W W' row h hg hr => ⟨hI W W' row h.1 hg hr, hJ W W' row h.2 hg hr⟩
theorem Calm.const {B : Nat} (p : Prop) : Calm B (fun _ => p) := fun _ _ _ h _ _ => h
theorem zip_two (ts : Array Value) (p1 p2 : Tmp) (x y : Value) : ((#[p1, p2] : Array Tmp).zip #[x, y]).foldl (fun t (p, v) => t.setIfInBounds p v) ts = (ts.setIfInBounds p1 x).setIfInBounds p2 y := by
  simp [Array.zip, Array.zipWith, Array.zipWithMAux]
theorem range_none (n bx : Nat) {go_ : Operand} {p1 p2 : Tmp} {assign body : Code} {Q : Exit → Act → World → Prop} {a : Act} {w : World}
    (hX : w.cell? ⟨bx, 0, none⟩ = some (.slice none 0 0)) (hg : a.eval go_ = .func (.func 191) #[] #[.pointer (some ⟨bx, 0, none⟩)])
    (I : World → Prop) (hI : Calm w.heap.size I) (h0 : I w)
    (hdone : ∀ (D : Nat) (W : World), w.heap.size ≤ D → I W → W.heap[D]? = some (.deferred (some [])) → Q .normal { a with defers := { target := .collected D, args := #[] } :: a.defers } W) :
    (Code.rangeFunc go_ #[p1, p2] assign body).wpIn Fence.wide n Tryz.prog Q a w := by
  refine wpIn_rangeFunc fun fn hfn => ?_
  let rec_ : LoopState → Option Code → Obj := fun st pe => .loop { state := st, pending := pe, fn := fn, tmps := a.tmps, params := #[p1, p2], assign := assign, body := body, defers := w.heap.size }
  have hr0 : (Instr.enterLoop fn a.tmps #[p1, p2] assign body Fence.wide.round).run Tryz.prog w = .ok (w.heap.size + 1, [{ target := .collected w.heap.size, args := #[] }]) ((w.alloc (.deferred (some []))).alloc (rec_ .ready none)) := run_enterLoop_outer fn a.tmps #[p1, p2] assign body
  obtain ⟨W1, hW1⟩ : ∃ W1, (w.alloc (.deferred (some []))).alloc (rec_ .ready none) = W1 := ⟨_, rfl⟩
  rw [hW1] at hr0
  have hb1 : Below w.heap.size w W1 := by
    rw [← hW1]
    exact ((Below.refl _ w).alloc (Nat.le_refl _) _).alloc (by simp) _
  have hD1 : W1.heap[w.heap.size]? = some (.deferred (some [])) := by
    rw [← hW1]
    exact (Below.heap_alloc _ _ _ (by simp)).trans (World.alloc_heap_new w _)
  have hL1 : W1.heap[w.heap.size + 1]? = some (rec_ .ready none) := by
    rw [← hW1]
    have h := World.alloc_heap_new (w.alloc (.deferred (some []))) (rec_ .ready none)
    rwa [World.size_alloc] at h
  have hlt1 : w.heap.size + 1 < W1.heap.size := heap_lt' hL1
  refine ⟨w.heap.size + 1, _, W1, { target := .fn (.func 191) #[.pointer (some ⟨bx, 0, none⟩)], args := #[.func (.yield (w.heap.size + 1)) #[] #[]] }, W1, 191, #[.func (.yield (w.heap.size + 1)) #[] #[], .pointer (some ⟨bx, 0, none⟩)], W1, hr0, ?_, fun _ _ => trivial, ?_, fun hd => by simp [Fence.wide] at hd, ?_⟩
  · simp only [resolve, hg]
    simp [go_sem]
  · kernel_rfl
  let J : List Unit → World → Prop := fun pre W => I W ∧ W.heap[w.heap.size + 1]? = some (rec_ .ready none) ∧ W.heap[w.heap.size]? = some (.deferred (some []))
  have hJ : AbidesFrom W1.heap.size J := fun pre W W' row h hg hr => ⟨hI W W' row h.1 hg (fun r e => by
    obtain ⟨h1, o, ho, hw⟩ := hr r e
    exact ⟨Nat.le_trans hb1.size h1, o, ho, by cases o <;> simp_all [Obj.isWalk, Obj.isCells]⟩),
    (hg.block _ (heap_lt' h.2.1) (fun e => by obtain ⟨h1, _⟩ := hr _ e.symm; omega)).trans h.2.1,
    (hg.block _ (heap_lt' h.2.2) (fun e => by obtain ⟨h1, _⟩ := hr _ e.symm; omega)).trans h.2.2⟩
  refine (each_none (n - 1) bx w hX (w.heap.size + 1) J (fun _ _ => False) W1 hb1 hJ (fun _ _ _ _ h _ _ => h) (fun pre x W1 _ hp => absurd hp (Nat.not_lt_zero _)) ⟨hI.new h0 hb1, hL1, hD1⟩).mono ?_
  rintro e W2 ⟨⟨v, rfl⟩, h | h⟩
  · obtain ⟨xs, rfl, hi, hL, hD⟩ := h
    exact ⟨none, _, run_endLoop (P := Tryz.prog) hL (by simp), hdone _ _ (Nat.le_refl _) (hI.put _ hi (Nat.le_succ _) hL rfl) ((World.putObj_heap_other (by omega)).trans hD)⟩
  · obtain ⟨pre, _, h⟩ := h
    exact h.elim
theorem each_new (w : World) : Calls Tryz.prog 118 #[.slice none 0 0] w fun e w' => e = .returned (.func (.func 191) #[] #[.pointer (some ⟨w.heap.size, 0, none⟩)]) ∧ w' = w.alloc (.cells #[.slice none 0 0] 23) := by
  go_enter Tryz.func118, Tryz.ntmps118
  go_wp2
  go_returns
  exact ⟨rfl, rfl⟩
def SI (w : World) (W : World) : Prop :=
  (Blk W w.heap.size 139 #[.slice none 0 0] ∧ Blk W (w.heap.size + 1) 3 #[.int .i64 0] ∧ Blk W (w.heap.size + 2) 24 #[.int .i64 0]) ∧ Below w.heap.size w W ∧ Blk W (w.heap.size + 3) 139 #[.slice none 0 0]
theorem SI_calm (w : World) {B : Nat} (hB : w.heap.size + 4 ≤ B) : Calm B (SI w) := by
  rintro W W' row ⟨⟨h0, h1, h2⟩, hb, h3⟩ hg hr
  exact ⟨⟨blk_calm (by omega) W W' row h0 hg hr, blk_calm (by omega) W W' row h1 hg hr, blk_calm (by omega) W W' row h2 hg hr⟩, below_calm (Nat.le_refl _) (by omega) W W' row hb hg hr, blk_calm (by omega) W W' row h3 hg hr⟩
set_option maxRecDepth 20000 in
set_option maxHeartbeats 4000000 in
theorem scan_none (w : World) :
    Calls Tryz.prog 70 #[.slice none 0 0] w fun e w' => e = .returned (.tuple #[.slice none 0 0, .int .i64 0, .int .i64 0]) ∧ Below w.heap.size w w' := by
  refine (callsIn_wide (n := 1)).1 (callsIn_of_wp_marks Tryz.func70 rfl trivial (wpIn_wide.2 ?_) rfl)
  simp only [Tryz.ntmps70, List.size_toArray, List.length_cons, List.length_nil, Nat.reduceAdd, Nat.reduceSub, Array.replicate_succ, Array.replicate_zero, List.push_toArray, List.append_toArray, List.nil_append, List.cons_append]
  go_wp2_with fail
  refine (each_new _).mono ?_
  rintro e w1 ⟨rfl, rfl⟩
  go_wp2_with fail
  obtain ⟨W9, hW9⟩ : ∃ W9, W9 = ((((w.alloc (.cells #[.slice none 0 0] 139)).alloc (.cells #[.int .i64 0] 3)).alloc (.cells #[.int .i64 0] 24)).alloc (.cells #[.slice none 0 0] 139)).alloc (.cells #[.slice none 0 0] 23) := ⟨_, rfl⟩
  have B0 : Blk W9 w.heap.size 139 #[.slice none 0 0] := by rw [hW9]; exact ((((Blk.new w _ _).alloc _).alloc _).alloc _).alloc _
  have B1 : Blk W9 (w.heap.size + 1) 3 #[.int .i64 0] := by rw [hW9]; exact ((((by simpa using Blk.new (w.alloc (.cells #[.slice none 0 0] 139)) 3 #[.int .i64 0] : Blk _ (w.heap.size + 1) 3 #[.int .i64 0])).alloc _).alloc _).alloc _
  have B2 : Blk W9 (w.heap.size + 2) 24 #[.int .i64 0] := by rw [hW9]; exact ((by simpa using Blk.new ((w.alloc (.cells #[.slice none 0 0] 139)).alloc (.cells #[.int .i64 0] 3)) 24 #[.int .i64 0] : Blk _ (w.heap.size + 2) 24 #[.int .i64 0]).alloc _).alloc _
  have B3 : Blk W9 (w.heap.size + 3) 139 #[.slice none 0 0] := by rw [hW9]; exact (by simpa using Blk.new (((w.alloc (.cells #[.slice none 0 0] 139)).alloc (.cells #[.int .i64 0] 3)).alloc (.cells #[.int .i64 0] 24)) 139 #[.slice none 0 0] : Blk _ (w.heap.size + 3) 139 #[.slice none 0 0]).alloc _
  have B4 : Blk W9 (w.heap.size + 4) 23 #[.slice none 0 0] := by rw [hW9]; simpa using Blk.new ((((w.alloc (.cells #[.slice none 0 0] 139)).alloc (.cells #[.int .i64 0] 3)).alloc (.cells #[.int .i64 0] 24)).alloc (.cells #[.slice none 0 0] 139)) 23 #[.slice none 0 0]
  have hb9 : Below w.heap.size w W9 := by rw [hW9]; go_grown
  have hs9 : W9.heap.size = w.heap.size + 5 := by rw [hW9]; simp
  have hX : W9.cell? ⟨w.heap.size + 4, 0, none⟩ = some (.slice none 0 0) := (B4.cell 0).trans rfl
  try simp only [World.size_alloc, Nat.add_assoc, Nat.reduceAdd]
  rw [← hW9]
  clear hW9
  have h0 : SI w W9 := ⟨⟨B0, B1, B2⟩, hb9, B3⟩
  clear B0 B1 B2 B3 B4 hb9
  refine wpIn_wide.1 (range_none 1 (w.heap.size + 4) hX rfl (SI w) (SI_calm w (by omega)) h0 ?done)
  case done =>
    intro D W hD hS hK
    obtain ⟨⟨b0, b1, b2⟩, hb, b3⟩ := hS
    have zb := b3.cell 0
    have z0 := b0.cell 0
    have z1 := b1.cell 0
    have z2 := b2.cell 0
    have f0 := b0.frozen 0
    have f1 := b1.frozen 0
    have f2 := b2.frozen 0
    simp at zb z0 z1 z2
    have HHK := Lib.hid hK
    have HHB := Lib.hid hb
    have HB0 := Lib.hid b0
    have HB1 := Lib.hid b1
    have HB2 := Lib.hid b2
    clear hb b0 b1 b2 b3 hK
    go_wp2_with fail
    have c0 := ((HB0.out.set_ 0 (.slice none 0 0)).far (p := ⟨w.heap.size + 1, 0, none⟩) (by simp) (.int .i64 0)).far (p := ⟨w.heap.size + 2, 0, none⟩) (by simp) (.int .i64 0)
    have c1 := ((HB1.out.far (p := ⟨w.heap.size, 0, none⟩) (by simp) (.slice none 0 0)).set_ 0 (.int .i64 0)).far (p := ⟨w.heap.size + 2, 0, none⟩) (by simp) (.int .i64 0)
    have c2 := ((HB2.out.far (p := ⟨w.heap.size, 0, none⟩) (by simp) (.slice none 0 0)).far (p := ⟨w.heap.size + 1, 0, none⟩) (by simp) (.int .i64 0)).set_ 0 (.int .i64 0)
    have hK2 : (((W.setCell ⟨w.heap.size, 0, none⟩ (.slice none 0 0)).setCell ⟨w.heap.size + 1, 0, none⟩ (.int .i64 0)).setCell ⟨w.heap.size + 2, 0, none⟩ (.int .i64 0)).heap[D]? = some (.deferred (some [])) := by
      rw [Below.heap_setCell _ _ _ _ (by simp; omega), Below.heap_setCell _ _ _ _ (by simp; omega), Below.heap_setCell _ _ _ _ (by simp; omega)]
      exact HHK.out
    have hbe : Below w.heap.size w (((W.setCell ⟨w.heap.size, 0, none⟩ (.slice none 0 0)).setCell ⟨w.heap.size + 1, 0, none⟩ (.int .i64 0)).setCell ⟨w.heap.size + 2, 0, none⟩ (.int .i64 0)) := by
      have := HHB.out
      go_grown
    generalize ((W.setCell _ _).setCell _ _).setCell _ _ = W5 at c0 c1 c2 hK2 hbe ⊢
    refine ⟨by simp, .inl ⟨_, _, rfl, run_takeDeferred hK2, ?_⟩⟩
    have keepP : ∀ a v, W5.cell? a = some v → (W5.putObj D (.deferred none)).cell? a = some v := fun a v h => cell_kept h (grownBy_putObj' _ _ _) (fun q e => by injection e with e; subst e; exact ⟨_, hK2, rfl⟩)
    have d0 := keepP ⟨w.heap.size, 0, none⟩ (.slice none 0 0) ((c0.cell 0).trans rfl)
    have d1 := keepP ⟨w.heap.size + 1, 0, none⟩ (.int .i64 0) ((c1.cell 0).trans rfl)
    have d2 := keepP ⟨w.heap.size + 2, 0, none⟩ (.int .i64 0) ((c2.cell 0).trans rfl)
    refine ⟨_, ?_, rfl, hbe.grown (grownBy_putObj' _ _ _) hbe.size (fun k e => by injection e with e; omega)⟩
    simp [results, Tryz.results70, go_sem, d0, d1, d2]
end Go.Proofs.YtmgnkhpaaghmkaaGreatDoor.Shn
