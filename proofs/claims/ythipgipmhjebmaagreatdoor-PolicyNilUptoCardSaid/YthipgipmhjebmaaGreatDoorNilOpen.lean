/- Arguments that are slices (of slices) of pairs, read as lists. -/
import Derived.Test.YthipgipmhjebmaaGreatDoorNilLots
import Derived.Deep.Slices
import Derived.ProofKit
namespace Go.Proofs.YthipgipmhjebmaaGreatDoor.Pol
open Go.RowKit Go.Proofs.YthipgipmhjebmaaGreatDoorW.PrintWords Go.Proofs.YthipgipmhjebmaaGreatDoorW.PrintLast
open Go.ChangeShapes Go.WideShapes Go.Deep

theorem cells63 : Tryz.prog.cellsOf 63 = 2 := by kernel_rfl

theorem two_of_len {α : Type} {l : List α} (h : l.length = 2) : ∃ a b, l = [a, b] := by
  match l, h with
  | [a, b], _ => exact ⟨a, b, rfl⟩

section
variable {H : Type} {enc : TypeId × Value → H} {w : World} {base : Nat} {spare : Nat → Bool} {held : Bool}

/-- A slice whose elements are of a kind, read as a list; G: what else each element's datum says. -/
theorem open_C {α : Type} (d : Kd α) {t e : TypeId} (ht : Tryz.prog.underlying t = some (.slice e)) (hsz : Tryz.prog.cellsOf e = d.sz) (G : α → DataW H → Prop)
    (hel : ∀ (n : Nat) (cs : List Value) (y : DataW H × List MemPlace), DataW.trod enc Tryz.prog w base spare held n e cs = some y → ∃ a, d.K w a cs ∧ G a y.1)
    {fuel : Nat} {cs : List Value} {x : DataW H × List MemPlace} (h : DataW.trod enc Tryz.prog w base spare held fuel t cs = some x) :
    ∃ (A : Option Addr) (c : Nat) (xs : List α), cs = [.slice A xs.length c] ∧ xs.length ≤ c ∧ c ≤ maxLen ∧ d.C w A xs.length xs ∧
      ((xs = [] ∧ x.1 = .nil) ∨ ∃ (D : Nat → DataW H) (sp : List (DataW H)), x.1 = .slice ((List.range xs.length).map D) sp ∧ ∀ i (hi : i < xs.length), G xs[i] (D i)) := by
  rcases open_slice ht h with ⟨rfl, rfl⟩ | ⟨a, len, cap, m, n, D, Pl, rfl, hb, hl, hm, hmm, rfl, hx⟩
  · exact ⟨none, 0, [], rfl, Nat.le_refl _, Nat.zero_le _, ⟨rfl, by simp, fun h => absurd h (by simp)⟩, .inl ⟨rfl, rfl⟩⟩
  · have hlm : len ≤ m := by rw [hmm]; split <;> omega
    have hex : ∀ i : Nat, ∃ z : Option α, i < m → ∃ a', z = some a' ∧ ∃ cs', w.cells? base (a.add (i * Tryz.prog.cellsOf e)) (Tryz.prog.cellsOf e) = some cs' ∧ d.K w a' cs' ∧ G a' (D i) := by
      intro i
      by_cases hi : i < m
      · obtain ⟨cs', h1, h2⟩ := hx i hi
        obtain ⟨a', h3, h4⟩ := hel n cs' _ h2
        exact ⟨some a', fun _ => ⟨a', rfl, cs', h1, h3, h4⟩⟩
      · exact ⟨none, fun h => absurd h hi⟩
    obtain ⟨Z, hZ⟩ := Classical.axiomOfChoice hex
    obtain ⟨xs, hxl, hxs⟩ : ∃ xs : List α, xs.length = len ∧ ∀ i (hi : i < xs.length), Z i = some xs[i] := by
      have : ∀ n, n ≤ m → ∃ xs : List α, xs.length = n ∧ ∀ i (hi : i < xs.length), Z i = some xs[i] := by
        intro n
        induction n with
        | zero => exact fun _ => ⟨[], rfl, fun i hi => absurd hi (by simp)⟩
        | succ n ih =>
          intro hn
          obtain ⟨xs, h1, h2⟩ := ih (by omega)
          obtain ⟨a', ha, _⟩ := hZ n (by omega)
          refine ⟨xs ++ [a'], by simp [h1], fun i hi => ?_⟩
          by_cases e : i < xs.length
          · rw [List.getElem_append_left e]; exact h2 i e
          · have hin : i = xs.length := by simp at hi; omega
            subst hin
            simp
            rw [h1]; exact ha
      exact this len hlm
    have key : ∀ i (hi : i < xs.length), ∃ cs', w.cells? base (a.add (i * Tryz.prog.cellsOf e)) (Tryz.prog.cellsOf e) = some cs' ∧ d.K w xs[i] cs' ∧ G xs[i] (D i) := by
      intro i hi
      obtain ⟨a', h1, h2⟩ := hZ i (by omega)
      rw [hxs i hi] at h1
      injection h1 with h1
      subst h1
      exact h2
    refine ⟨some a, cap, xs, by rw [hxl], by omega, hm, ⟨rfl, by unfold maxLen at hm; omega, fun _ => ⟨a, rfl, fun j p hj => ?_⟩⟩, .inr ⟨D, _, by rw [hxl], fun i hi => (key i hi).choose_spec.2.2⟩⟩
    have hlt : j < xs.length := (List.getElem?_eq_some_iff.1 hj).1
    rw [List.getElem?_eq_getElem hlt] at hj
    injection hj with hj
    subst hj
    obtain ⟨cs', h1, h2, _⟩ := key j hlt
    obtain ⟨_, hcl, hat⟩ := World.cells?_some h1
    refine ⟨cs', d.K_len h2, h2, fun i u hu => ?_⟩
    have hil : i < cs'.length := (List.getElem?_eq_some_iff.1 hu).1
    have := hat i (by rw [← hcl]; exact hil)
    rw [← hsz, ← Go.Deep.add_add, this, hu]

/-- Both ints of a pair are ints. -/
def wfP (p : Int × Int) : Prop := (Lit.int .i64 p.1).wf = true ∧ (Lit.int .i64 p.2).wf = true

theorem open_pair (n : Nat) (cs : List Value) (y : DataW H × List MemPlace) (h : DataW.trod enc Tryz.prog w base spare held n 63 cs = some y) : ∃ a, kP.K w a cs ∧ wfP a := by
  obtain ⟨y0, y1, m, rfl, hl, h0, h1⟩ := trod_struct2 Tryz.underlying63 h
  have hl2 : cs.length = 2 := hl.trans cells63
  obtain ⟨c0, c1, rfl⟩ := two_of_len hl2
  clear hl hl2
  obtain ⟨a, e0, _, w0⟩ := DataW.trod_int Tryz.underlying3 h0
  obtain ⟨b, e1, _, w1⟩ := DataW.trod_int Tryz.underlying3 h1
  rw [cells3] at e0 e1
  simp at e0 e1
  subst e0 e1
  exact ⟨(a, b), ⟨[.int .i64 a], [.int .i64 b], rfl, rfl, rfl⟩, w0, w1⟩

theorem open_pairs {fuel : Nat} {cs : List Value} {x : DataW H × List MemPlace} (h : DataW.trod enc Tryz.prog w base spare held fuel 23 cs = some x) :
    ∃ (A : Option Addr) (c : Nat) (xs : List (Int × Int)), cs = [.slice A xs.length c] ∧ xs.length ≤ c ∧ c ≤ maxLen ∧ kP.C w A xs.length xs ∧ (∀ p ∈ xs, wfP p) ∧ ((xs = [] ∧ x.1 = .nil) ∨ ∃ (D : Nat → DataW H) (sp : List (DataW H)), x.1 = .slice ((List.range xs.length).map D) sp) := by
  obtain ⟨A, c, xs, h1, h2, h3, h4, h5⟩ := open_C kP (G := fun a _ => wfP a) Tryz.underlying23 cells63 (fun n cs y hy => open_pair n cs y hy) h
  refine ⟨A, c, xs, h1, h2, h3, h4, ?_, ?_⟩
  · rcases h5 with ⟨rfl, _⟩ | ⟨D, sp, _, hG⟩
    · simp
    · intro p hp
      obtain ⟨i, hi, rfl⟩ := List.getElem_of_mem hp
      exact hG i hi
  · rcases h5 with h | ⟨D, sp, h, _⟩
    · exact .inl h
    · exact .inr ⟨D, sp, h⟩

end
end Go.Proofs.YthipgipmhjebmaaGreatDoor.Pol
