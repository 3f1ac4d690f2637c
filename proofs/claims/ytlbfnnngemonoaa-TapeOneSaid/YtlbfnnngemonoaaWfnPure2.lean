/- What is read has just those bytes as its form: payloads, messages. -/
import Derived.Test.YtlbfnnngemonoaaWfnMess
namespace Go.Proofs.Ytlbfnnngemonoaa.Wir
open Go.RowKit Go.Proofs.Ytlbfnnngemonoaa.PWireReads
set_option linter.unusedVariables false
set_option linter.unusedSimpArgs false

theorem take_plus (l : List Int) (i j : Nat) : l.take (i + j) = l.take i ++ (l.drop i).take j := by
  have := List.take_add (l := l) (i := i) (j := j)
  simpa using this
theorem form_rdN (l : List Int) (hB : By l) : ∀ (k : Nat) (vs : List V) (n : Nat), rdN k l = some (vs, n) → formVs vs = l.take n ∧ ∀ v ∈ vs, Fit v
  | 0, vs, n, h => by
    simp only [rdN, Option.some.injEq, Prod.mk.injEq] at h
    obtain ⟨rfl, rfl⟩ := h
    simp [formVs]
  | k + 1, vs, n, h => by
    rw [rdN] at h
    split at h
    · cases h
    · rename_i us a hus
      split at h
      · cases h
      · rename_i v m hv
        injection h with h
        injection h with h1 h2
        subst h1 h2
        obtain ⟨e1, f1⟩ := form_rdN l hB k us a hus
        obtain ⟨e2, f2⟩ := form_rd (l.drop a) (hB.drop a) v m hv
        refine ⟨?_, ?_⟩
        · rw [formVs_append, e1, take_plus, ← e2]
          simp [formVs]
        · intro u hu
          rcases List.mem_append.1 hu with h | h
          · exact f1 u h
          · obtain rfl : u = v := by simpa using h
            exact f2
theorem form_rdP (l : List Int) (hB : By l) (vs : List V) (n : Nat) (h : rdP l = some (vs, n)) : formP vs = l.take n ∧ (∀ v ∈ vs, Fit v) ∧ szs vs ≤ 1024 := by
  unfold rdP at h
  split at h
  · cases h
  split at h
  · cases h
  split at h
  · cases h
  · rename_i h0 h6 us a hus
    split at h
    · rename_i hz
      injection h with h
      injection h with h1 h2
      subst h1 h2
      obtain ⟨e1, f1⟩ := form_rdN (l.drop 1) (hB.drop 1) _ us a hus
      obtain ⟨_, g2, _⟩ := rdN_good _ _ _ _ hus
      have hb := hB.at 0
      refine ⟨?_, f1, hz⟩
      rw [formP, e1, g2, take_cons l a (by omega)]
      congr 1
      omega
    · cases h
theorem by4_num (l : List Int) (hB : By l) (h : 4 ≤ l.length) : by4 (num (l.take 4)) = l.take 4 ∧ 0 ≤ num (l.take 4) := by
  match l, h with
  | a :: b :: c :: d :: r, _ =>
    have ha := hB a (by simp)
    have hb := hB b (by simp)
    have hc := hB c (by simp)
    have hd := hB d (by simp)
    have hn : num [a, b, c, d] = ((a * 256 + b) * 256 + c) * 256 + d := by simp [num]
    have ht : (a :: b :: c :: d :: r).take 4 = [a, b, c, d] := rfl
    rw [ht, hn]
    refine ⟨?_, by omega⟩
    simp only [by4, nb]
    simp
    omega
theorem form_rdM (l : List Int) (hB : By l) (m : M) (n : Nat) (h : rdM l = some (m, n)) : formM m = l.take n ∧ (∀ v ∈ m.pl, Fit v) ∧ szs m.pl ≤ 1024 ∧ (0 ≤ m.id ∧ m.id < 1048576) ∧ (1 ≤ m.tag.size ∧ m.tag.size ≤ 32) := by
  unfold rdM at h
  split at h
  · cases h
  split at h
  · cases h
  split at h
  · cases h
  · rename_i h0 hc vs k hk
    injection h with h
    injection h with h1 h2
    subst h1 h2
    have hb := hB.at 4
    generalize hq : (l.getD 4 0).toNat = q at *
    obtain ⟨e1, f1, z1⟩ := form_rdP (l.drop (5 + q)) (hB.drop _) vs k hk
    obtain ⟨g1, g2⟩ := by4_num l hB (by omega)
    obtain ⟨s1, s2⟩ := bOf_str ((l.take (5 + q)).drop 5) ((hB.take _).drop _)
    have s3 : ((l.take (5 + q)).drop 5).length = q := by simp; omega
    refine ⟨?_, f1, z1, ⟨g2, by show num (l.take 4) < _; omega⟩, by show 1 ≤ (strOfNums ((l.take (5 + q)).drop 5)).size; rw [s2, s3]; omega, by show (strOfNums ((l.take (5 + q)).drop 5)).size ≤ 32; rw [s2, s3]; omega⟩
    show by4 (num (l.take 4)) ++ [((strOfNums ((l.take (5 + q)).drop 5)).size : Int)] ++ bOf (strOfNums ((l.take (5 + q)).drop 5)) ++ formP vs = _
    rw [g1, s1, s2, s3, e1, take_plus l (5 + q) k]
    congr 1
    have e5 : l.take (5 + q) = l.take 5 ++ (l.drop 5).take q := take_plus l 5 q
    have e4 : l.take 5 = l.take 4 ++ [l.getD 4 0] := by
      rw [List.take_add_one, List.getElem?_eq_getElem (by omega)]
      simp [List.getD, List.getElem?_eq_getElem (show 4 < l.length by omega)]
    have e6 : (l.take (5 + q)).drop 5 = (l.drop 5).take q := by
      rw [e5, List.drop_append_of_le_length (by simp; omega)]
      simp
    rw [e6, e5, e4]
    have : ((q : Nat) : Int) = l.getD 4 0 := by omega
    rw [this]
end Go.Proofs.Ytlbfnnngemonoaa.Wir
