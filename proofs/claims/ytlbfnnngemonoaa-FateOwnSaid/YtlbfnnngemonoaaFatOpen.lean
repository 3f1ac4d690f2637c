/- Arguments that are slices, read as lists; lists of steps. -/
import Derived.Test.YtlbfnnngemonoaaFatLaw
import Derived.Deep.Slices
import Derived.ProofKit
import Derived.OpenShut
import Derived.SizedLaws
import Derived.Lib.SmallJoins
namespace Go.Proofs.Ytlbfnnngemonoaa.Fat
open Go.RowKit Go.Proofs.YtlbfnnngemonoaaW.PrintWords Go.Proofs.YtlbfnnngemonoaaW.PrintLast
open Go.ChangeShapes Go.WideShapes Go.Deep Go.Joins

theorem four_of_len {α : Type} {l : List α} (h : l.length = 4) : ∃ a b c d, l = [a, b, c, d] := by
  match l, h with
  | [a, b, c, d], _ => exact ⟨a, b, c, d, rfl⟩
theorem cells3 : Try.prog.cellsOf 3 = 1 := by kernel_rfl
theorem cells4 : Try.prog.cellsOf 4 = 1 := by kernel_rfl
theorem cells30 : Try.prog.cellsOf 30 = 1 := by kernel_rfl
theorem cells31 : Try.prog.cellsOf 31 = 1 := by kernel_rfl
theorem cells33 : Try.prog.cellsOf 33 = 4 := by kernel_rfl
theorem bytes3 : Try.prog.bytesOf 3 = 8 := by kernel_rfl
theorem bytes33 : Try.prog.bytesOf 33 = 48 := by kernel_rfl

section
variable {H : Type} {enc : TypeId × Value → H} {w : World} {base : Nat} {spare : Nat → Bool} {held : Bool}

/-- A slice whose elements are of a kind, read as a list; G: what else each element's datum says. -/
theorem open_C {α : Type} (d : Kd α) {t e : TypeId} (ht : Try.prog.underlying t = some (.slice e)) (hsz : Try.prog.cellsOf e = d.sz) (G : α → DataW H → Prop)
    (hel : ∀ (n : Nat) (cs : List Value) (y : DataW H × List MemPlace), DataW.trod enc Try.prog w base spare held n e cs = some y → ∃ a, d.K w a cs ∧ G a y.1)
    {fuel : Nat} {cs : List Value} {x : DataW H × List MemPlace} (h : DataW.trod enc Try.prog w base spare held fuel t cs = some x) :
    ∃ (A : Option Addr) (c : Nat) (xs : List α), cs = [.slice A xs.length c] ∧ xs.length ≤ c ∧ c ≤ maxLen ∧ d.C w A xs.length xs ∧
      ((xs = [] ∧ x.1 = .nil) ∨ ∃ (D : Nat → DataW H) (sp : List (DataW H)), x.1 = .slice ((List.range xs.length).map D) sp ∧ ∀ i (hi : i < xs.length), G xs[i] (D i)) := by
  rcases open_slice ht h with ⟨rfl, rfl⟩ | ⟨a, len, cap, m, n, D, Pl, rfl, hb, hl, hm, hmm, rfl, hx⟩
  · exact ⟨none, 0, [], rfl, Nat.le_refl _, Nat.zero_le _, ⟨rfl, by simp, fun h => absurd h (by simp)⟩, .inl ⟨rfl, rfl⟩⟩
  · have hlm : len ≤ m := by rw [hmm]; split <;> omega
    have hex : ∀ i : Nat, ∃ z : Option α, i < m → ∃ a', z = some a' ∧ ∃ cs', w.cells? base (a.add (i * Try.prog.cellsOf e)) (Try.prog.cellsOf e) = some cs' ∧ d.K w a' cs' ∧ G a' (D i) := by
      intro i
      by_cases hi : i < m
      · obtain ⟨cs', h1, h2⟩ := hx i hi
        obtain ⟨a', h3, h4⟩ := hel n cs' _ h2
        exact ⟨some a', fun _ => ⟨a', rfl, cs', h1, h3, h4⟩⟩
      · exact ⟨none, fun h => absurd h hi⟩
    obtain ⟨Z, hZ⟩ := Classical.axiomOfChoice hex
    obtain ⟨xs, hxl, hxs⟩ : ∃ xs : List α, xs.length = len ∧ ∀ i (hi : i < xs.length), Z i = some xs[i] := by
      have : ∀ n, n ≤ m → ∃ xs : List α, xs.length = n ∧ ∀ i (hi : i < xs.length), Z i = some xs[i] := by
        intro n
        induction n with
        | zero => exact fun _ => ⟨[], rfl, fun i hi => absurd hi (by simp)⟩
        | succ n ih =>
          intro hn
          obtain ⟨xs, h1, h2⟩ := ih (by omega)
          obtain ⟨a', ha, _⟩ := hZ n (by omega)
          refine ⟨xs ++ [a'], by simp [h1], fun i hi => ?_⟩
          by_cases e : i < xs.length
          · rw [List.getElem_append_left e]; exact h2 i e
          · have hin : i = xs.length := by simp at hi; omega
            subst hin
            simp
            rw [h1]; exact ha
      exact this len hlm
    have key : ∀ i (hi : i < xs.length), ∃ cs', w.cells? base (a.add (i * Try.prog.cellsOf e)) (Try.prog.cellsOf e) = some cs' ∧ d.K w xs[i] cs' ∧ G xs[i] (D i) := by
      intro i hi
      obtain ⟨a', h1, h2⟩ := hZ i (by omega)
      rw [hxs i hi] at h1
      injection h1 with h1
      subst h1
      exact h2
    refine ⟨some a, cap, xs, by rw [hxl], by omega, hm, ⟨rfl, by unfold maxLen at hm; omega, fun _ => ⟨a, rfl, fun j p hj => ?_⟩⟩, .inr ⟨D, _, by rw [hxl], fun i hi => (key i hi).choose_spec.2.2⟩⟩
    have hlt : j < xs.length := (List.getElem?_eq_some_iff.1 hj).1
    rw [List.getElem?_eq_getElem hlt] at hj
    injection hj with hj
    subst hj
    obtain ⟨cs', h1, h2, _⟩ := key j hlt
    obtain ⟨_, hcl, hat⟩ := World.cells?_some h1
    refine ⟨cs', d.K_len h2, h2, fun i u hu => ?_⟩
    have hil : i < cs'.length := (List.getElem?_eq_some_iff.1 hu).1
    have := hat i (by rw [← hcl]; exact hil)
    rw [← hsz, ← Go.Deep.add_add, this, hu]


theorem open_num (n : Nat) (cs : List Value) (y : DataW H × List MemPlace) (h : DataW.trod enc Try.prog w base spare held n 3 cs = some y) : ∃ a, (Kd.int .i64).K w a cs ∧ True := by
  obtain ⟨a, e0, _, _⟩ := DataW.trod_int Try.underlying3 h
  exact ⟨a, e0, trivial⟩
/-- What a step's datum says of its IDs. -/
def longI (xs : List Int) (d : DataW H) : Prop := (xs = [] ∧ d = .nil) ∨ ∃ (D : Nat → DataW H) (sp : List (DataW H)), d = .slice ((List.range xs.length).map D) sp
def longS (s : St) (d : DataW H) : Prop := ∃ u0 u1 u2 u3, d = .agg [u0, u1, u2, u3] ∧ longI s.ids u3
theorem open_step (n : Nat) (cs : List Value) (y : DataW H × List MemPlace) (h : DataW.trod enc Try.prog w base spare held n 33 cs = some y) : ∃ a, kSt.K w a cs ∧ longS a y.1 := by
  obtain ⟨y0, y1, y2, y3, m, rfl, hl, h0, h1, h2, h3⟩ := trod_struct4 Try.underlying33 h
  have hl2 : cs.length = 4 := hl.trans cells33
  obtain ⟨c0, c1, c2, c3, rfl⟩ := four_of_len hl2
  clear hl hl2
  obtain ⟨a, e0, _⟩ := DataW.trod_bool Try.underlying4 h0
  obtain ⟨b, e1, _, _⟩ := DataW.trod_int Try.underlying3 h1
  obtain ⟨c, e2, _, _⟩ := DataW.trod_int Try.underlying30 h2
  obtain ⟨A3, cc, ids, e3, hc3, _, hC3, hd3⟩ := open_C (Kd.int .i64) (G := fun _ _ => True) Try.underlying31 cells3 (fun n cs y hy => open_num n cs y hy) h3
  rw [cells4] at e0
  rw [cells3] at e1
  rw [cells30] at e2
  rw [cells31] at e3
  simp at e0 e1 e2 e3
  subst e0 e1 e2 e3
  refine ⟨⟨a, b, c, ids⟩, ⟨[.bool a], [.int .i64 b, .int .i64 c, .slice A3 ids.length cc], rfl, rfl, ⟨[.int .i64 b], [.int .i64 c, .slice A3 ids.length cc], rfl, rfl, ⟨[.int .i64 c], [.slice A3 ids.length cc], rfl, rfl, ⟨A3, cc, rfl, hc3, hC3⟩⟩⟩⟩, y0.1, y1.1, y2.1, y3.1, rfl, ?_⟩
  rcases hd3 with ⟨h, h2⟩ | ⟨D, sp, h, _⟩
  · exact .inl ⟨h, h2⟩
  · exact .inr ⟨D, sp, h⟩
theorem weights_all_mem {P : Program} {e : TypeId} : ∀ {ds : List (DataW H)} {d : DataW H}, d ∈ ds → ∀ x ∈ DataW.weights P e d, x ∈ DataW.weightsAll P e ds
  | [], _, h, _, _ => absurd h (by simp)
  | d0 :: r, d, h, x, hx => by
    simp only [DataW.weightsAll, List.mem_append]
    rcases List.mem_cons.1 h with rfl | h
    · exact .inl hx
    · exact .inr (weights_all_mem h x hx)
theorem weights_slice {P : Program} {t e : TypeId} {elems sp : List (DataW H)} (ht : P.underlying t = some (.slice e)) : ∀ x, x ∈ ((elems.length + sp.length) * P.bytesOf e :: DataW.weightsAll P e elems) → x ∈ DataW.weights P t (.slice elems sp) := by
  intro x hx
  simp only [DataW.weights, ht]
  rcases List.mem_cons.1 hx with rfl | hx
  · simp
  · simp [hx]
set_option maxRecDepth 100000 in
/-- A list of steps: its lengths are bound by its weight. -/
theorem steps_sized {l : List St} {d : DataW H} (hd : (l = [] ∧ d = .nil) ∨ ∃ (D : Nat → DataW H) (sp : List (DataW H)), d = .slice ((List.range l.length).map D) sp ∧ ∀ i (hi : i < l.length), longS l[i] (D i))
    (hw : ∀ x ∈ DataW.weights Try.prog 22 d, x ≤ reachBytes) : l.length * 48 ≤ 140737488355328 ∧ ∀ i, i < l.length → (l.getD i zSt).ids.length * 8 ≤ 140737488355328 := by
  have hr := reachBytes_lt
  rcases hd with ⟨rfl, _⟩ | ⟨D, sp, rfl, hG⟩
  · simp
  · refine ⟨?_, fun i hi => ?_⟩
    · have h := hw _ (weights_slice Try.underlying22 _ (List.mem_cons_self ..))
      rw [bytes33, List.length_map, List.length_range] at h
      have h2 : l.length * 48 ≤ (l.length + sp.length) * 48 := Nat.mul_le_mul_right _ (Nat.le_add_right _ _)
      omega
    · rw [List.getD, List.getElem?_eq_getElem hi, Option.getD_some]
      obtain ⟨u0, u1, u2, u3, hD, hI⟩ := hG i hi
      have hm : D i ∈ (List.range l.length).map D := List.mem_map.2 ⟨i, List.mem_range.2 hi, rfl⟩
      have key : ∀ x ∈ DataW.weights Try.prog 31 u3, x ≤ reachBytes := by
        intro x hx
        refine hw _ (weights_slice Try.underlying22 _ (List.mem_cons_of_mem _ (weights_all_mem hm x ?_)))
        rw [hD]
        simp only [DataW.weights, Try.underlying33]
        exact DataW.weights_mem_each (j := 3) (t := 31) (d := u3) rfl rfl x hx
      rcases hI with ⟨h0, _⟩ | ⟨D2, sp2, rfl⟩
      · rw [h0]; simp
      · have h := key _ (weights_slice Try.underlying31 _ (List.mem_cons_self ..))
        rw [bytes3, List.length_map, List.length_range] at h
        have h2 : l[i].ids.length * 8 ≤ (l[i].ids.length + sp2.length) * 8 := Nat.mul_le_mul_right _ (Nat.le_add_right _ _)
        omega
end
end Go.Proofs.Ytlbfnnngemonoaa.Fat
