/- Words for the shell: blocks known whole, what a call may change, the map of commands, rows of bytes. -/
import Derived.Test.YtmgnkhpaaghmkaaGreatDoorProg
import Derived.WalkKit
import Derived.WalkLawsBesides
import Derived.WalkSpells
import Derived.WalkMore
import Derived.Outline
import Derived.ScopeJumps
import Derived.RegionTactic
import Derived.BigQuiet
import Derived.Handy
import Derived.Below
import Derived.Deep.Draws
import Derived.Deep.QuietTactic
import Derived.Laws.OwnMore
import Derived.Laws.Rows
import Derived.Laws.EntriesVeiled
import Derived.Lib.Hide
import Derived.Lib.SlBytesConst
import Derived.Maps.OwnOps
import Derived.Maps.OwnSet
import Derived.Maps.Views
import Derived.OpenShut
import Derived.Test.YtmgnkhpaaghmkaaGreatDoorWWords
import Derived.Test.YtmgnkhpaaghmkaaGreatDoorWLast
import Derived.Test.YtmgnkhpaaghmkaaGreatDoorWMore
namespace Go.Proofs.YtmgnkhpaaghmkaaGreatDoor.Shn
open Go.RowKit Go.Proofs.YtmgnkhpaaghmkaaGreatDoorW.PrintWords

/-! ### blocks -/
def Blk (w : World) (g : Nat) (t : TypeId) (cs : Array Value) : Prop := w.heap[g]? = some (.cells cs t (0, 0))
section
variable {w w' : World} {g : Nat} {t : TypeId} {cs : Array Value}
theorem Blk.lt (h : Blk w g t cs) : g < w.heap.size := by
  rcases Nat.lt_or_ge g w.heap.size with hlt | hge
  · exact hlt
  · unfold Blk at h; rw [Array.getElem?_eq_none hge] at h; cases h
theorem Blk.cell (h : Blk w g t cs) (i : Nat) : w.cell? ⟨g, i, none⟩ = cs[i]? := cell_of_row w g i cs t (0, 0) h
theorem Blk.frozen (h : Blk w g t cs) (i : Nat) : w.frozen? ⟨g, i, none⟩ = false := by
  unfold Blk at h
  simp [World.frozen?, h]
theorem Blk.new (w : World) (t : TypeId) (cs : Array Value) : Blk (w.alloc (.cells cs t)) w.heap.size t cs := heap_alloc_new w _
theorem Blk.drew (h : Blk w g t cs) : Blk w.drew g t cs := h
theorem Blk.drewN (h : Blk w g t cs) (n : Nat) : Blk (w.drewN n) g t cs := h
theorem Blk.alloc (h : Blk w g t cs) (o : Obj) : Blk (w.alloc o) g t cs := (Below.heap_alloc w o g h.lt).trans h
theorem Blk.set_ (h : Blk w g t cs) (i : Nat) (u : Value) : Blk (w.setCell ⟨g, i, none⟩ u) g t (cs.setIfInBounds i u) := by
  unfold Blk at h ⊢
  simp [World.setCell, Array.getElem?_modify, h]
theorem Blk.far (h : Blk w g t cs) {p : Addr} (hp : g ≠ p.block) (u : Value) : Blk (w.setCell p u) g t cs := (Below.heap_setCell w p u g hp).trans h
theorem Blk.below {B : Nat} (h : Blk w g t cs) (hb : Below B w w') (hg : g < B) : Blk w' g t cs := (hb.block g hg).trans h
end

/-! ### what may change -/
structure Chg (S : List Nat) (w w' : World) : Prop where
  os : w'.os = w.os
  tape : w'.tape = w.tape
  output : w'.output = w.output
  size : w.heap.size ≤ w'.heap.size
  block : ∀ k, k < w.heap.size → k ∉ S → w'.heap[k]? = w.heap[k]?
section
variable {S : List Nat} {a w w' : World}
theorem Chg.refl (S : List Nat) (w : World) : Chg S w w := ⟨rfl, rfl, rfl, Nat.le_refl _, fun _ _ _ => rfl⟩
theorem Chg.trans {b c : World} (h : Chg S a b) (k : Chg S b c) : Chg S a c :=
  ⟨k.os.trans h.os, k.tape.trans h.tape, k.output.trans h.output, Nat.le_trans h.size k.size, fun i hi hn => (k.block i (Nat.lt_of_lt_of_le hi h.size) hn).trans (h.block i hi hn)⟩
theorem Chg.mono {S' : List Nat} (h : Chg S a w) (hs : ∀ x ∈ S, x ∈ S') : Chg S' a w := ⟨h.os, h.tape, h.output, h.size, fun k hk hn => h.block k hk (fun hx => hn (hs k hx))⟩
theorem Chg.drewN (h : Chg S a w) (n : Nat) : Chg S a (w.drewN n) := ⟨h.os, h.tape, h.output, h.size, h.block⟩
theorem Chg.drew (h : Chg S a w) : Chg S a w.drew := ⟨h.os, h.tape, h.output, h.size, h.block⟩
theorem Chg.alloc (h : Chg S a w) (o : Obj) : Chg S a (w.alloc o) := h.trans ⟨rfl, rfl, rfl, by simp, fun k hk _ => Below.heap_alloc _ _ _ hk⟩
theorem Chg.setCell (h : Chg S a w) {p : Addr} (hp : p.block ∈ S ∨ a.heap.size ≤ p.block) (u : Value) : Chg S a (w.setCell p u) :=
  ⟨h.os, h.tape, h.output, by simpa [World.setCell] using h.size, fun i hi hn => (Below.heap_setCell w p u i (by
    rintro rfl
    rcases hp with hp | hp
    · exact hn hp
    · omega)).trans (h.block i hi hn)⟩
theorem Chg.of_below (h : Below a.heap.size a w) (S : List Nat) : Chg S a w := ⟨h.os, h.tape, h.output, h.size, fun i hi _ => h.block i hi⟩
theorem Chg.below {B : Nat} (h : Chg S a w) (hB : B ≤ a.heap.size) (hs : ∀ x ∈ S, B ≤ x) : Below B a w :=
  ⟨h.os, h.tape, h.output, h.size, fun k hk => h.block k (by omega) (fun hx => by have := hs k hx; omega)⟩
theorem Chg.grown (h : Chg S a w) {g : Nat} (hg : w.grownBy w' (some g)) (hS : g ∈ S) : Chg S a w' :=
  h.trans ⟨hg.os, hg.tape, hg.output, hg.size, fun k hk hn => hg.block k hk (fun e => by injection e with e; subst e; exact hn hS)⟩
theorem Blk.chg {g : Nat} {t : TypeId} {cs : Array Value} (h : Blk w g t cs) (hc : Chg S w w') (hg : g ∉ S) : Blk w' g t cs := (hc.block g h.lt hg).trans h
end


/-! ### the map of commands -/
/-- Block m is a map from words to commands, of n entries at most: which ones is not said. -/
def Cmds (w : World) (m n : Nat) : Prop := ∃ D : DataW Value, w.ownsMap Tryz.prog 9 (fun v => some (.held v, [])) m n D
theorem key9 : Maps.Keyed Tryz.prog 9 := Maps.string_keyed Tryz.underlying9
theorem Cmds.made (w : World) : Cmds (w.alloc (.map #[] 0)) w.heap.size 0 := ⟨_, World.ownsMap_made w _ _ _⟩
theorem Cmds.lt {w : World} {m n : Nat} (h : Cmds w m n) : m < w.heap.size := let ⟨_, h⟩ := h; h.lt
theorem Cmds.chg {S : List Nat} {w w' : World} {m n : Nat} (h : Cmds w m n) (hc : Chg S w w') (hm : m ∉ S) : Cmds w' m n := by
  obtain ⟨D, ⟨es, clock, hb, F, hs, hD⟩⟩ := h
  have hlt := (Array.getElem?_eq_some_iff.1 hb).1
  exact ⟨D, ⟨es, clock, (hc.block m hlt hm).trans hb, F, hs, hD⟩⟩
theorem Cmds.below {w w' : World} {m n : Nat} (h : Cmds w m n) (hb : Below w.heap.size w w') : Cmds w' m n := h.chg (Chg.of_below hb []) (by simp)
theorem zero42 (w : World) : (zeroValue 42).run Tryz.prog w = .ok .nilFunc w := by kernel_rfl
set_option maxRecDepth 20000 in
theorem Cmds.looks {w : World} {m n : Nat} (h : Cmds w m n) (s : ByteArray) (hs : s.size ≤ maxLen) :
    ∃ v b, ∀ k, (Instr.lookup 35 (.map (some m)) (.string s) true).run Tryz.prog (w.drewN k) = .ok (.tuple #[v, .bool b]) (w.drewN k) := by
  obtain ⟨D, hown⟩ := h
  have hk : ∀ k, ∃ v, (Instr.lookup 35 (.map (some m)) (.string s) true).run Tryz.prog (w.drewN k) = .ok (.tuple #[v, .bool (Maps.has D (.string s.data.toList))]) (w.drewN k) ∧ DataW.held v = D.atKey (.string s.data.toList) (.held .nilFunc) := fun k => by
    obtain ⟨v, ps, hrun, hv⟩ := (show (w.drewN k).ownsMap Tryz.prog 9 (fun v => some (.held v, [])) m n D from hown).look_ok key9 Tryz.underlying35 (zero42 (w.drewN k)) (zd := .held .nilFunc) (zp := []) rfl (WideMaps.keyOf_string_mk Tryz.underlying9 hs)
    simp only [Option.some.injEq, Prod.mk.injEq] at hv
    exact ⟨v, hrun, hv.1⟩
  obtain ⟨v, _, hv⟩ := hk 0
  refine ⟨v, Maps.has D (.string s.data.toList), fun k => ?_⟩
  obtain ⟨v', hr, hv'⟩ := hk k
  obtain rfl : v' = v := DataW.held.inj (hv'.trans hv.symm)
  exact hr
set_option maxRecDepth 20000 in
theorem Cmds.put {w : World} {m n : Nat} (h : Cmds w m n) (hn : n < maxLen) (s : ByteArray) (hs : s.size ≤ maxLen) (v : Value) :
    ∃ w', (Instr.mapUpdate 35 (.map (some m)) (.string s) v).run Tryz.prog w = .ok () w' ∧ Cmds w' m (n + 1) ∧ w.grownBy w' (some m) := by
  obtain ⟨D, hown⟩ := h
  obtain ⟨w', hrun, hown', hg⟩ := hown.update key9 Tryz.underlying35 hn (WideMaps.keyOf_string_mk Tryz.underlying9 hs) (val := v) (d := .held v) (ps := []) rfl
  exact ⟨w', hrun, ⟨_, hown'⟩, hg⟩

/-! ### the shell -/
/-- Block s is a shell without a tape; d: declarations are under way, of which no line has come. -/
def Sh (w : World) (s : Nat) (d : Bool) (m : Nat) : Prop := Blk w s 37 #[.slice none 0 0, .slice none 0 0, .pointer none, .bool d, .slice none 0 0, .map (some m)] ∧ Cmds w m 16 ∧ m ≠ s
theorem Sh.below {w w' : World} {s m : Nat} {d : Bool} (h : Sh w s d m) (hb : Below w.heap.size w w') : Sh w' s d m := ⟨h.1.below hb h.1.lt, h.2.1.below hb, h.2.2⟩
theorem Sh.chg {w w' : World} {s m s' : Nat} {d : Bool} (h : Sh w s d m) (hc : Chg [s'] w w') (hs : s ≠ s') (hm : m ≠ s') : Sh w' s d m := ⟨h.1.chg hc (by simpa using hs), h.2.1.chg hc (by simpa using hm), h.2.2⟩

/-! ### rows of bytes -/
theorem str_C {W : World} {A : Option Addr} {c : Nat} {xs : List Int} (h : Kd.C (Kd.int .u8) W A xs.length xs) : (convert 23 9 (.slice A xs.length c)).run Tryz.prog W = .ok (.string (strOfNums xs)) W :=
  Kd.C_string Tryz.underlying23 Tryz.underlying5 Tryz.underlying9 h
end Go.Proofs.YtmgnkhpaaghmkaaGreatDoor.Shn
