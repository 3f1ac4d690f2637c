/- Words for the policies: blocks known whole, what a call may change, lists of choices, a map from pairs to numbers; what each rule answers, in plain Lean. -/
import Derived.Test.YthipgipmhjebmaaGreatDoorProg
import Derived.WalkKit
import Derived.WalkLawsBesides
import Derived.WalkSpells
import Derived.Below
import Derived.Deep.Draws
import Derived.Laws.OwnMore
import Derived.Laws.Rows
import Derived.Lib.Hide
import Derived.Maps.OwnOps
import Derived.Maps.Views
import Derived.DeepKeys4
import Derived.OpenShut
namespace Go.Proofs.YthipgipmhjebmaaGreatDoor.Pol
open Go.RowKit

/-! ### blocks -/
def Blk (w : World) (g : Nat) (t : TypeId) (cs : Array Value) : Prop := w.heap[g]? = some (.cells cs t (0, 0))
section
variable {w w' : World} {g : Nat} {t : TypeId} {cs : Array Value}
theorem Blk.lt (h : Blk w g t cs) : g < w.heap.size := by
  rcases Nat.lt_or_ge g w.heap.size with hlt | hge
  · exact hlt
  · unfold Blk at h; rw [Array.getElem?_eq_none hge] at h; cases h
theorem Blk.cell (h : Blk w g t cs) (i : Nat) : w.cell? ⟨g, i, none⟩ = cs[i]? := cell_of_row w g i cs t (0, 0) h
theorem Blk.frozen (h : Blk w g t cs) (i : Nat) : w.frozen? ⟨g, i, none⟩ = false := by
  unfold Blk at h
  simp [World.frozen?, h]
theorem Blk.new (w : World) (t : TypeId) (cs : Array Value) : Blk (w.alloc (.cells cs t)) w.heap.size t cs := heap_alloc_new w _
theorem Blk.drew (h : Blk w g t cs) : Blk w.drew g t cs := h
theorem Blk.drewN (h : Blk w g t cs) (n : Nat) : Blk (w.drewN n) g t cs := h
theorem Blk.alloc (h : Blk w g t cs) (o : Obj) : Blk (w.alloc o) g t cs := (Below.heap_alloc w o g h.lt).trans h
theorem Blk.set_ (h : Blk w g t cs) (i : Nat) (u : Value) : Blk (w.setCell ⟨g, i, none⟩ u) g t (cs.setIfInBounds i u) := by
  unfold Blk at h ⊢
  simp [World.setCell, Array.getElem?_modify, h]
theorem Blk.far (h : Blk w g t cs) {p : Addr} (hp : g ≠ p.block) (u : Value) : Blk (w.setCell p u) g t cs := (Below.heap_setCell w p u g hp).trans h
theorem Blk.below {B : Nat} (h : Blk w g t cs) (hb : Below B w w') (hg : g < B) : Blk w' g t cs := (hb.block g hg).trans h
end

/-! ### what may change -/
structure Chg (S : List Nat) (w w' : World) : Prop where
  os : w'.os = w.os
  tape : w'.tape = w.tape
  output : w'.output = w.output
  size : w.heap.size ≤ w'.heap.size
  block : ∀ k, k < w.heap.size → k ∉ S → w'.heap[k]? = w.heap[k]?
section
variable {S : List Nat} {a w w' : World}
theorem Chg.refl (S : List Nat) (w : World) : Chg S w w := ⟨rfl, rfl, rfl, Nat.le_refl _, fun _ _ _ => rfl⟩
theorem Chg.trans {b c : World} (h : Chg S a b) (k : Chg S b c) : Chg S a c :=
  ⟨k.os.trans h.os, k.tape.trans h.tape, k.output.trans h.output, Nat.le_trans h.size k.size, fun i hi hn => (k.block i (Nat.lt_of_lt_of_le hi h.size) hn).trans (h.block i hi hn)⟩
theorem Chg.mono {S' : List Nat} (h : Chg S a w) (hs : ∀ x ∈ S, x ∈ S') : Chg S' a w := ⟨h.os, h.tape, h.output, h.size, fun k hk hn => h.block k hk (fun hx => hn (hs k hx))⟩
theorem Chg.drewN (h : Chg S a w) (n : Nat) : Chg S a (w.drewN n) := ⟨h.os, h.tape, h.output, h.size, h.block⟩
theorem Chg.drew (h : Chg S a w) : Chg S a w.drew := ⟨h.os, h.tape, h.output, h.size, h.block⟩
theorem Chg.alloc (h : Chg S a w) (o : Obj) : Chg S a (w.alloc o) := h.trans ⟨rfl, rfl, rfl, by simp, fun k hk _ => Below.heap_alloc _ _ _ hk⟩
theorem Chg.setCell (h : Chg S a w) {p : Addr} (hp : p.block ∈ S ∨ a.heap.size ≤ p.block) (u : Value) : Chg S a (w.setCell p u) :=
  ⟨h.os, h.tape, h.output, by simpa [World.setCell] using h.size, fun i hi hn => (Below.heap_setCell w p u i (by
    rintro rfl
    rcases hp with hp | hp
    · exact hn hp
    · omega)).trans (h.block i hi hn)⟩
theorem Chg.of_below (h : Below a.heap.size a w) (S : List Nat) : Chg S a w := ⟨h.os, h.tape, h.output, h.size, fun i hi _ => h.block i hi⟩
theorem Chg.below {B : Nat} (h : Chg S a w) (hB : B ≤ a.heap.size) (hs : ∀ x ∈ S, B ≤ x) : Below B a w :=
  ⟨h.os, h.tape, h.output, h.size, fun k hk => h.block k (by omega) (fun hx => by have := hs k hx; omega)⟩
theorem Chg.grown (h : Chg S a w) {g : Nat} (hg : w.grownBy w' (some g)) (hS : g ∈ S) : Chg S a w' :=
  h.trans ⟨hg.os, hg.tape, hg.output, hg.size, fun k hk hn => hg.block k hk (fun e => by injection e with e; subst e; exact hn hS)⟩
theorem Blk.chg {g : Nat} {t : TypeId} {cs : Array Value} (h : Blk w g t cs) (hc : Chg S w w') (hg : g ∉ S) : Blk w' g t cs := (hc.block g h.lt hg).trans h
end

/-! ### lists of choices -/
/-- A list of choices (actor, chord) that a slice of Choice holds, in one block. -/
def Chs (w : World) (A : Option Addr) (xs : List (Int × Int)) : Prop :=
  ∀ i a c, xs[i]? = some (a, c) → ∃ b, A = some ⟨b, 0, none⟩ ∧ w.cell? ⟨b, i * 3, none⟩ = some (.int .i64 a) ∧ w.cell? ⟨b, i * 3 + 1, none⟩ = some (.int .i64 c) ∧ ∃ E m d, w.cell? ⟨b, i * 3 + 2, none⟩ = some (.slice E m d)

/-- The slice's block is none of these. -/
def Off (S : List Nat) (A : Option Addr) : Prop := ∀ ad, A = some ad → ad.block ∉ S

theorem Chs.chg {w w' : World} {S : List Nat} {A : Option Addr} {xs : List (Int × Int)} (h : Chs w A xs) (hc : Chg S w w') (ho : Off S A) : Chs w' A xs := by
  intro i a c hi
  obtain ⟨b, e, h0, h1, E, m, d, h2⟩ := h i a c hi
  have hb : b ∉ S := ho _ e
  have hlt : b < w.heap.size := World.block_lt_of_cell? w _ h0
  have hk : ∀ o, w'.cell? ⟨b, o, none⟩ = w.cell? ⟨b, o, none⟩ := fun o => World.cell?_of_block (hc.block b hlt hb)
  exact ⟨b, e, (hk _).trans h0, (hk _).trans h1, E, m, d, (hk _).trans h2⟩

/-! ### the rules, plain -/
/-- The first place whose actor is greater; else 0. -/
def turnAt (a : Int) (xs : List (Int × Int)) : Nat := (xs.findIdx? (fun p => decide (a < p.1))).getD 0
theorem turnAt_hit {a : Int} {xs : List (Int × Int)} {k : Nat} (hk : k < xs.length) (hg : a < xs[k].1) (hno : ∀ j y d, j < k → xs[j]? = some (y, d) → y ≤ a) : turnAt a xs = k := by
  unfold turnAt
  have : xs.findIdx? (fun p => decide (a < p.1)) = some k := by
    rw [List.findIdx?_eq_some_iff_getElem]
    refine ⟨hk, by simpa using hg, fun j hj => ?_⟩
    have := hno j xs[j].1 xs[j].2 hj (List.getElem?_eq_getElem (by omega))
    simpa using this
  rw [this]; rfl
theorem turnAt_none {a : Int} {xs : List (Int × Int)} (hno : ∀ j y d, j < xs.length → xs[j]? = some (y, d) → y ≤ a) : turnAt a xs = 0 := by
  unfold turnAt
  have : xs.findIdx? (fun p => decide (a < p.1)) = none := by
    rw [List.findIdx?_eq_none_iff]
    intro x hx
    obtain ⟨j, hj, rfl⟩ := List.getElem_of_mem hx
    have := hno j xs[j].1 xs[j].2 hj (List.getElem?_eq_getElem hj)
    simpa using this
  rw [this]; rfl
theorem turnAt_step {a : Int} {xs : List (Int × Int)} {k : Nat} (hk : k < xs.length) (hg : ¬ a < xs[k].1) (hno : ∀ j y d, j < k → xs[j]? = some (y, d) → y ≤ a) : ∀ j y d, j < k + 1 → xs[j]? = some (y, d) → y ≤ a := by
  intro j y d hj hx
  by_cases e : j = k
  · subst e
    rw [List.getElem?_eq_getElem hk] at hx
    injection hx with hx
    rw [hx] at hg
    exact Int.not_lt.1 hg
  · exact hno j y d (by omega) hx
theorem turnAt_lt {a : Int} {xs : List (Int × Int)} (h : 0 < xs.length) : turnAt a xs < xs.length := by
  unfold turnAt
  cases e : xs.findIdx? (fun p => decide (a < p.1)) with
  | none => exact h
  | some k =>
    rw [List.findIdx?_eq_some_iff_getElem] at e
    exact e.1

/-- The next number of a lot. -/
def lotNext (x : Int) : Int := IntKind.u64.wrap (IntKind.u64.wrap (x * 6364136223846793005) + 1442695040888963407)
/-- The place that it names among n. -/
def lotAt (x : Int) (n : Nat) : Nat := ((lotNext x / 8589934592) % (n : Int)).toNat

/-- Among the first k places the one of the least number, the first of equal ones. -/
def oldTo (f : Int → Int → Int) (xs : List (Int × Int)) : Nat → Nat
  | 0 => 0
  | k + 1 => if f (xs.getD k (0, 0)).1 (xs.getD k (0, 0)).2 < f (xs.getD (oldTo f xs k) (0, 0)).1 (xs.getD (oldTo f xs k) (0, 0)).2 then k else oldTo f xs k
theorem oldTo_lt (f : Int → Int → Int) (xs : List (Int × Int)) : ∀ k, k ≤ xs.length → 0 < xs.length → oldTo f xs k < xs.length
  | 0, _, h => h
  | k + 1, hk, h => by
    unfold oldTo
    split
    · omega
    · exact oldTo_lt f xs k (by omega) h

/-- What a policy keeps. -/
inductive PS where
  | first | last
  | turns (a : Int)
  | lot (x : Int)
  | old (n : Nat) (f : Int → Int → Int)

def PS.next : PS → List (Int × Int) → Nat × PS
  | .first, _ => (0, .first)
  | .last, xs => (xs.length - 1, .last)
  | .turns a, xs => (turnAt a xs, .turns (xs.getD (turnAt a xs) (0, 0)).1)
  | .lot x, xs => (lotAt x xs.length, .lot (lotNext x))
  | .old n f, xs => (oldTo f xs xs.length, .old (n + 1) (fun a c => if (a, c) = xs.getD (oldTo f xs xs.length) (0, 0) then ((n + 1 : Nat) : Int) else f a c))

/-! ### the map of pairs -/
theorem laidOut : laidOutB Tryz.prog = true := by kernel_rfl
theorem row522 : 522 < Tryz.prog.types.size := of_decide_eq_true (by kernel_rfl)
theorem law522 : Maps.Keyed Tryz.prog 522 := Maps.Keyed.of_law (deep_law_laid laidOut (m := 2) (by omega) row522 (by kernel_rfl) (by kernel_rfl))
/-- A pair as a key. -/
def keyLit (a c : Int) : Lit := .string (keyBytes [.int .i64 a, .int .i64 c])
theorem typeSize : ∃ n, Tryz.prog.types.size = n + 1 := ⟨524, by kernel_rfl⟩
theorem cells522 : Tryz.prog.cellsOf 522 = 2 := by kernel_rfl
theorem cells3 : Tryz.prog.cellsOf 3 = 1 := by kernel_rfl
theorem keyType522 : Tryz.prog.keyType 522 = true := by kernel_rfl
theorem keyOf522 (a c : Int) (ha : (Lit.int .i64 a).wf = true) (hc : (Lit.int .i64 c).wf = true) : keyOf Tryz.prog 522 (.agg #[.int .i64 a, .int .i64 c]) = some (keyLit a c) := by
  obtain ⟨n, hn⟩ := typeSize
  have hf : (Value.agg #[Value.int .i64 a, Value.int .i64 c]).formed Tryz.prog 522 = true := by
    simp [Value.formed, Tryz.underlying522, cells522]
  unfold keyOf
  rw [Tryz.underlying522]
  simp only [keyType522, hf, Bool.and_self, if_true, hn]
  simp [Program.keyLits, Tryz.underlying522, cells522, cells3, Value.cells, Tryz.underlying3, ha, hc, List.range, List.range.loop, keyLit]
theorem keyLit_inj {a c a' c' : Int} (ha : (Lit.int .i64 a).wf = true) (hc : (Lit.int .i64 c).wf = true) (ha' : (Lit.int .i64 a').wf = true) (hc' : (Lit.int .i64 c').wf = true) (h : keyLit a c = keyLit a' c') : a = a' ∧ c = c' := by
  have h1 := keyOf522 a c ha hc
  have h2 := keyOf522 a' c' ha' hc'
  rw [← h] at h2
  have := law522.inj h1 h2
  simpa using this

/-- Block m is a map whose entries are f, and 0 beside them. -/
def MapIs (w : World) (m n : Nat) (f : Int → Int → Int) : Prop :=
  ∃ D : DataW Unit, w.ownsMap Tryz.prog 522 (plainElem Tryz.prog 3) m n D ∧ Maps.IsMap D ∧ (∀ a c, (Lit.int .i64 (f a c)).wf = true) ∧ ∀ a c, (Lit.int .i64 a).wf = true → (Lit.int .i64 c).wf = true → D.atKey (keyLit a c) (.lit (.int .i64 0)) = .lit (.int .i64 (f a c))

theorem wf0 : (Lit.int .i64 0).wf = true := by decide
theorem MapIs.made (w : World) : MapIs (w.alloc (.map #[] 0)) w.heap.size 0 (fun _ _ => 0) :=
  ⟨.map [], World.ownsMap_made w _ _ _, Maps.isMap_empty, fun _ _ => wf0, fun _ _ _ _ => rfl⟩
theorem MapIs.lt {w : World} {m n : Nat} {f : Int → Int → Int} (h : MapIs w m n f) : m < w.heap.size := let ⟨_, h, _⟩ := h; h.lt
theorem MapIs.chg {S : List Nat} {w w' : World} {m n : Nat} {f : Int → Int → Int} (h : MapIs w m n f) (hc : Chg S w w') (hm : m ∉ S) : MapIs w' m n f := by
  obtain ⟨D, ⟨es, clock, hb, F, hs, hD⟩, r⟩ := h
  have hlt := (Array.getElem?_eq_some_iff.1 hb).1
  exact ⟨D, ⟨es, clock, (hc.block m hlt hm).trans hb, F, hs, hD⟩, r⟩
theorem MapIs.drewN {w : World} {m n : Nat} {f : Int → Int → Int} (h : MapIs w m n f) (k : Nat) : MapIs (w.drewN k) m n f := h
theorem zero3 (w : World) : (zeroValue 3).run Tryz.prog w = .ok (.int .i64 0) w := by kernel_rfl

theorem MapIs.look {w : World} {m n : Nat} {f : Int → Int → Int} (h : MapIs w m n f) (a c : Int) (ha : (Lit.int .i64 a).wf = true) (hc : (Lit.int .i64 c).wf = true) :
    (Instr.lookup 74 (.map (some m)) (.agg #[.int .i64 a, .int .i64 c]) false).run Tryz.prog w = .ok (.int .i64 (f a c)) w := by
  obtain ⟨D, hown, _, _, hat⟩ := h
  obtain ⟨v, hrun, hv, _⟩ := hown.lookup_int law522 Tryz.underlying74 Tryz.underlying3 (zero3 w) (keyOf522 a c ha hc)
  have hq := (hat a c ha hc).symm.trans hv
  simp only [DataW.lit.injEq, Lit.int.injEq] at hq
  rw [hrun, hq.2]
theorem MapIs.put {w : World} {m n : Nat} {f : Int → Int → Int} (h : MapIs w m n f) (hn : n < maxLen) (a c v : Int) (ha : (Lit.int .i64 a).wf = true) (hc : (Lit.int .i64 c).wf = true) (hv : (Lit.int .i64 v).wf = true) :
    ∃ w', (Instr.mapUpdate 74 (.map (some m)) (.agg #[.int .i64 a, .int .i64 c]) (.int .i64 v)).run Tryz.prog w = .ok () w' ∧ MapIs w' m (n + 1) (fun x y => if (x, y) = (a, c) then v else f x y) ∧ w.grownBy w' (some m) := by
  obtain ⟨D, hown, hD, hw, hat⟩ := h
  obtain ⟨w', hrun, hown', hg⟩ := hown.update law522 Tryz.underlying74 hn (keyOf522 a c ha hc) (plainElem_int Tryz.underlying3 hv)
  refine ⟨w', hrun, ⟨_, hown', hD.put _ _, fun x y => ?_, fun x y hx hy => ?_⟩, hg⟩
  · dsimp only
    by_cases e : (x, y) = (a, c)
    · rw [if_pos e]; exact hv
    · rw [if_neg e]; exact hw x y
  · dsimp only
    by_cases e : (x, y) = (a, c)
    · rw [if_pos e]
      obtain ⟨e1, e2⟩ := Prod.mk.inj e
      subst e1
      subst e2
      exact Maps.atKey_put_same hD (law522.key (keyOf522 _ _ hx hy)) _ _
    · rw [if_neg e, Maps.atKey_put_other (fun h => e (by
        obtain ⟨e1, e2⟩ := keyLit_inj hx hy ha hc h
        rw [e1, e2]))]
      exact hat x y hx hy

/-- Pointer p (a block) is a policy that keeps s; S: the blocks that are its own. -/
def Pl (w : World) (p : Nat) (S : List Nat) : PS → Prop
  | .first => S = [p] ∧ Blk w p 60 #[.iface 65 (.agg #[])]
  | .last => S = [p] ∧ Blk w p 60 #[.iface 66 (.agg #[])]
  | .turns a => ∃ t, S = [p, t] ∧ p ≠ t ∧ Blk w p 60 #[.iface 67 (.pointer (some ⟨t, 0, none⟩))] ∧ Blk w t 69 #[.int .i64 a]
  | .lot x => ∃ t, S = [p, t] ∧ p ≠ t ∧ Blk w p 60 #[.iface 70 (.pointer (some ⟨t, 0, none⟩))] ∧ Blk w t 72 #[.int .u64 x]
  | .old n f => ∃ t m, S = [p, t, m] ∧ p ≠ t ∧ p ≠ m ∧ t ≠ m ∧ Blk w p 60 #[.iface 73 (.pointer (some ⟨t, 0, none⟩))] ∧ Blk w t 76 #[.int .i64 n, .map (some m)] ∧ MapIs w m n f
theorem Pl.chg {S T : List Nat} {w w' : World} {p : Nat} {s : PS} (h : Pl w p S s) (hc : Chg T w w') (hd : ∀ x ∈ S, x ∉ T) : Pl w' p S s := by
  cases s with
  | first => obtain ⟨rfl, h1⟩ := h; exact ⟨rfl, h1.chg hc (hd p (by simp))⟩
  | last => obtain ⟨rfl, h1⟩ := h; exact ⟨rfl, h1.chg hc (hd p (by simp))⟩
  | turns a => obtain ⟨t, rfl, hne, h1, h2⟩ := h; exact ⟨t, rfl, hne, h1.chg hc (hd p (by simp)), h2.chg hc (hd t (by simp))⟩
  | lot a => obtain ⟨t, rfl, hne, h1, h2⟩ := h; exact ⟨t, rfl, hne, h1.chg hc (hd p (by simp)), h2.chg hc (hd t (by simp))⟩
  | old n f => obtain ⟨t, m, rfl, hne, hne2, hne3, h1, h2, h3⟩ := h; exact ⟨t, m, rfl, hne, hne2, hne3, h1.chg hc (hd p (by simp)), h2.chg hc (hd t (by simp)), h3.chg hc (hd m (by simp))⟩
theorem Pl.lt {S : List Nat} {w : World} {p : Nat} {s : PS} (h : Pl w p S s) : ∀ x ∈ S, x < w.heap.size := by
  cases s with
  | first => obtain ⟨rfl, h1⟩ := h; simpa using h1.lt
  | last => obtain ⟨rfl, h1⟩ := h; simpa using h1.lt
  | turns a => obtain ⟨t, rfl, hne, h1, h2⟩ := h; simpa using ⟨h1.lt, h2.lt⟩
  | lot a => obtain ⟨t, rfl, hne, h1, h2⟩ := h; simpa using ⟨h1.lt, h2.lt⟩
  | old n f => obtain ⟨t, m, rfl, hne, hne2, hne3, h1, h2, h3⟩ := h; simpa using ⟨h1.lt, h2.lt, h3.lt⟩
end Go.Proofs.YthipgipmhjebmaaGreatDoor.Pol
