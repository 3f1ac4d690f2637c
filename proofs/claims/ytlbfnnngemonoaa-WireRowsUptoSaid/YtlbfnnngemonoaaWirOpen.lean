/- A slice of bytes that came in, read as a list. -/
import Derived.Test.YtlbfnnngemonoaaWirVals
import Derived.Deep.Slices
import Derived.ProofKit
import Derived.OpenShut
import Derived.SizedLaws
import Derived.Lib.SmallJoins
namespace Go.Proofs.Ytlbfnnngemonoaa.Wir
open Go.RowKit Go.Proofs.YtlbfnnngemonoaaW.PrintWords Go.Proofs.YtlbfnnngemonoaaW.PrintLast
open Go.ChangeShapes Go.WideShapes Go.Deep Go.Joins

theorem cells5 : Try.prog.cellsOf 5 = 1 := by kernel_rfl
theorem bytes5 : Try.prog.bytesOf 5 = 1 := by kernel_rfl

section
variable {H : Type} {enc : TypeId × Value → H} {w : World} {base : Nat} {spare : Nat → Bool} {held : Bool}

/-- A slice whose elements are of a kind, read as a list; G: what else each element's datum says. -/
theorem open_C {α : Type} (d : Kd α) {t e : TypeId} (ht : Try.prog.underlying t = some (.slice e)) (hsz : Try.prog.cellsOf e = d.sz) (G : α → DataW H → Prop)
    (hel : ∀ (n : Nat) (cs : List Value) (y : DataW H × List MemPlace), DataW.trod enc Try.prog w base spare held n e cs = some y → ∃ a, d.K w a cs ∧ G a y.1)
    {fuel : Nat} {cs : List Value} {x : DataW H × List MemPlace} (h : DataW.trod enc Try.prog w base spare held fuel t cs = some x) :
    ∃ (A : Option Addr) (c : Nat) (xs : List α), cs = [.slice A xs.length c] ∧ xs.length ≤ c ∧ c ≤ maxLen ∧ d.C w A xs.length xs ∧
      ((xs = [] ∧ x.1 = .nil) ∨ ∃ (D : Nat → DataW H) (sp : List (DataW H)), x.1 = .slice ((List.range xs.length).map D) sp ∧ ∀ i (hi : i < xs.length), G xs[i] (D i)) := by
  rcases open_slice ht h with ⟨rfl, rfl⟩ | ⟨a, len, cap, m, n, D, Pl, rfl, hb, hl, hm, hmm, rfl, hx⟩
  · exact ⟨none, 0, [], rfl, Nat.le_refl _, Nat.zero_le _, ⟨rfl, by simp, fun h => absurd h (by simp)⟩, .inl ⟨rfl, rfl⟩⟩
  · have hlm : len ≤ m := by rw [hmm]; split <;> omega
    have hex : ∀ i : Nat, ∃ z : Option α, i < m → ∃ a', z = some a' ∧ ∃ cs', w.cells? base (a.add (i * Try.prog.cellsOf e)) (Try.prog.cellsOf e) = some cs' ∧ d.K w a' cs' ∧ G a' (D i) := by
      intro i
      by_cases hi : i < m
      · obtain ⟨cs', h1, h2⟩ := hx i hi
        obtain ⟨a', h3, h4⟩ := hel n cs' _ h2
        exact ⟨some a', fun _ => ⟨a', rfl, cs', h1, h3, h4⟩⟩
      · exact ⟨none, fun h => absurd h hi⟩
    obtain ⟨Z, hZ⟩ := Classical.axiomOfChoice hex
    obtain ⟨xs, hxl, hxs⟩ : ∃ xs : List α, xs.length = len ∧ ∀ i (hi : i < xs.length), Z i = some xs[i] := by
      have : ∀ n, n ≤ m → ∃ xs : List α, xs.length = n ∧ ∀ i (hi : i < xs.length), Z i = some xs[i] := by
        intro n
        induction n with
        | zero => exact fun _ => ⟨[], rfl, fun i hi => absurd hi (by simp)⟩
        | succ n ih =>
          intro hn
          obtain ⟨xs, h1, h2⟩ := ih (by omega)
          obtain ⟨a', ha, _⟩ := hZ n (by omega)
          refine ⟨xs ++ [a'], by simp [h1], fun i hi => ?_⟩
          by_cases e : i < xs.length
          · rw [List.getElem_append_left e]; exact h2 i e
          · have hin : i = xs.length := by simp at hi; omega
            subst hin
            simp
            rw [h1]; exact ha
      exact this len hlm
    have key : ∀ i (hi : i < xs.length), ∃ cs', w.cells? base (a.add (i * Try.prog.cellsOf e)) (Try.prog.cellsOf e) = some cs' ∧ d.K w xs[i] cs' ∧ G xs[i] (D i) := by
      intro i hi
      obtain ⟨a', h1, h2⟩ := hZ i (by omega)
      rw [hxs i hi] at h1
      injection h1 with h1
      subst h1
      exact h2
    refine ⟨some a, cap, xs, by rw [hxl], by omega, hm, ⟨rfl, by unfold maxLen at hm; omega, fun _ => ⟨a, rfl, fun j p hj => ?_⟩⟩, .inr ⟨D, _, by rw [hxl], fun i hi => (key i hi).choose_spec.2.2⟩⟩
    have hlt : j < xs.length := (List.getElem?_eq_some_iff.1 hj).1
    rw [List.getElem?_eq_getElem hlt] at hj
    injection hj with hj
    subst hj
    obtain ⟨cs', h1, h2, _⟩ := key j hlt
    obtain ⟨_, hcl, hat⟩ := World.cells?_some h1
    refine ⟨cs', d.K_len h2, h2, fun i u hu => ?_⟩
    have hil : i < cs'.length := (List.getElem?_eq_some_iff.1 hu).1
    have := hat i (by rw [← hcl]; exact hil)
    rw [← hsz, ← Go.Deep.add_add, this, hu]


theorem open_byte (n : Nat) (cs : List Value) (y : DataW H × List MemPlace) (h : DataW.trod enc Try.prog w base spare held n 5 cs = some y) : ∃ a, (Kd.int .u8).K w a cs ∧ (0 ≤ a ∧ a < 256) := by
  obtain ⟨a, e0, _, hw⟩ := DataW.trod_int Try.underlying5 h
  refine ⟨a, e0, ?_⟩
  have h2 : IntKind.u8.min ≤ a ∧ a ≤ IntKind.u8.max := by simpa [Lit.wf] using hw
  have e1 : IntKind.u8.min = 0 := rfl
  have e2 : IntKind.u8.max = 255 := rfl
  omega
theorem weights_slice {P : Program} {t e : TypeId} {elems sp : List (DataW H)} (ht : P.underlying t = some (.slice e)) : ∀ x, x ∈ ((elems.length + sp.length) * P.bytesOf e :: DataW.weightsAll P e elems) → x ∈ DataW.weights P t (.slice elems sp) := by
  intro x hx
  simp only [DataW.weights, ht]
  rcases List.mem_cons.1 hx with rfl | hx
  · simp
  · simp [hx]
set_option maxRecDepth 100000 in
theorem bytes_sized {l : List Int} {d : DataW H} (hd : (l = [] ∧ d = .nil) ∨ ∃ (D : Nat → DataW H) (sp : List (DataW H)), d = .slice ((List.range l.length).map D) sp ∧ ∀ i (hi : i < l.length), (fun (a : Int) (_ : DataW H) => 0 ≤ a ∧ a < 256) l[i] (D i))
    (hw : ∀ x ∈ DataW.weights Try.prog 45 d, x ≤ reachBytes) : l.length + 2 ≤ 140737488355328 ∧ By l := by
  have hr : reachBytes = 140737488351232 := rfl
  rcases hd with ⟨rfl, _⟩ | ⟨D, sp, rfl, hG⟩
  · exact ⟨by simp, by intro x hx; simp at hx⟩
  · refine ⟨?_, fun x hx => ?_⟩
    · have h := hw _ (weights_slice Try.underlying45 _ (List.mem_cons_self ..))
      rw [bytes5, List.length_map, List.length_range] at h
      omega
    · obtain ⟨i, hi, rfl⟩ := List.getElem_of_mem hx
      exact hG i hi
end
end Go.Proofs.Ytlbfnnngemonoaa.Wir
