/- tape.one: a call is read off bytes just as rdC says. -/
import Derived.Test.YtlbfnnngemonoaaTapB
namespace Go.Proofs.Ytlbfnnngemonoaa.Wir
open Go.RowKit Go.Proofs.Ytlbfnnngemonoaa.PWireReads
open Go.Proofs.Ytlbfnnngemonoaa.Fat (Blk Chg Off chg_opt)
open Go.Proofs.YtlbfnnngemonoaaW.PrintWords Go.Proofs.YtlbfnnngemonoaaW.PrintLast Go.Proofs.YtlbfnnngemonoaaW.PrintMore
set_option linter.unusedVariables false
set_option linter.unusedSimpArgs false

/-- A call: its kind, name, actor, payload, raw number. -/
structure Cl where
  k : Int
  s : ByteArray
  t : Int
  p : List V
  r : Int
def zCl : Cl := ⟨0, { data := #[] }, 0, [], 0⟩
def kCl : Kd Cl := Kd.iso (Kd.pair (Kd.int .i64) (Kd.pair Kd.string (Kd.pair (Kd.int .i64) (Kd.pair (Kd.slice 50 kV) (Kd.int .i64))))) (fun x : Cl => (x.k, x.s, x.t, x.p, x.r))
def clV (x : Cl) (A : Option Addr) (c : Nat) : Value := .agg #[.int .i64 x.k, .string x.s, .int .i64 x.t, .slice A x.p.length c, .int .i64 x.r]
theorem kCl_open {w : World} {x : Cl} {cs : List Value} (h : kCl.K w x cs) : ∃ A c, cs = [.int .i64 x.k, .string x.s, .int .i64 x.t, .slice A x.p.length c, .int .i64 x.r] ∧ x.p.length ≤ c ∧ Kd.C kV w A x.p.length x.p := by
  obtain ⟨_, _, rfl, rfl, ⟨_, _, rfl, rfl, ⟨_, _, rfl, rfl, ⟨_, _, rfl, ⟨A, c, rfl, h1, h2⟩, rfl⟩⟩⟩⟩ := h
  exact ⟨A, c, rfl, h1, h2⟩
theorem kCl_mkM {w : World} {base : Nat} {ok : Nat → Prop} {x : Cl} {A : Option Addr} {c : Nat} (h : Kd.R kV 50 w base ok (.slice A x.p.length c) x.p) : kCl.M w base ok x [.int .i64 x.k, .string x.s, .int .i64 x.t, .slice A x.p.length c, .int .i64 x.r] :=
  ⟨[_], [_, _, _, _], rfl, rfl, ⟨[_], [_, _, _], rfl, rfl, ⟨[_], [_, _], rfl, rfl, ⟨[_], [_], rfl, ⟨_, rfl, h⟩, rfl⟩⟩⟩⟩
theorem at_Cl {w : World} {A : Option Addr} {l : List Cl} (h : Kd.C kCl w A l.length l) (i : Nat) (hi : i < l.length) :
    ∃ ad B c, A = some ad ∧ w.cell? (ad.add (i * 5)) = some (.int .i64 (l.getD i zCl).k) ∧ w.cell? ⟨(ad.add (i * 5)).block, (ad.add (i * 5)).off + 1, none⟩ = some (.string (l.getD i zCl).s) ∧ w.cell? ⟨(ad.add (i * 5)).block, (ad.add (i * 5)).off + 2, none⟩ = some (.int .i64 (l.getD i zCl).t) ∧ w.cell? ⟨(ad.add (i * 5)).block, (ad.add (i * 5)).off + 3, none⟩ = some (.slice B (l.getD i zCl).p.length c) ∧ w.cell? ⟨(ad.add (i * 5)).block, (ad.add (i * 5)).off + 4, none⟩ = some (.int .i64 (l.getD i zCl).r) ∧
      (l.getD i zCl).p.length ≤ c ∧ Kd.C kV w B (l.getD i zCl).p.length (l.getD i zCl).p := by
  obtain ⟨ad, cs, e, _, hK, hc0⟩ := Kd.C_get h zCl i (by omega) (by omega)
  have hc : ∀ j u, cs[j]? = some u → w.cell? (ad.add (i * 5 + j)) = some u := hc0
  obtain ⟨B, c, rfl, h1, h2⟩ := kCl_open hK
  exact ⟨ad, B, c, e, hc 0 _ rfl, by rw [← add_field _ _ 1 (by omega)]; exact hc 1 _ rfl, by rw [← add_field _ _ 2 (by omega)]; exact hc 2 _ rfl, by rw [← add_field _ _ 3 (by omega)]; exact hc 3 _ rfl, by rw [← add_field _ _ 4 (by omega)]; exact hc 4 _ rfl, h1, h2⟩

/-- One call, read off the front of bytes: the call, and how many bytes it has. -/
def rdC (l : List Int) : Option (Cl × Nat) :=
  if l.getD 0 0 = 1 then (rdW l 1).map fun x => (⟨1, x.1, 0, [], 0⟩, x.2)
  else if l.getD 0 0 = 2 then (rdL l 1).bind fun x => (rdW l 9).bind fun y => (rdP (l.drop y.2)).map fun z => (⟨2, y.1, x, z.1, 0⟩, y.2 + z.2)
  else if l.getD 0 0 = 3 then (rdL l 1).map fun x => (⟨3, { data := #[] }, 0, [], x⟩, 9)
  else none
def oCl : Option (Cl × Nat) → Cl
  | some x => x.1
  | none => zCl
def oCN : Option (Cl × Nat) → Nat
  | some x => x.2
  | none => 0
theorem rdL_le {l : List Int} {a : Nat} {x : Int} (h : rdL l a = some x) : a + 8 ≤ l.length := by
  unfold rdL at h
  split at h
  · cases h
  · omega
theorem rdW_short {l : List Int} {a n : Nat} {s : ByteArray} (h : rdW l a = some (s, n)) (hB : By l) : s.size ≤ 32 := by
  unfold rdW at h
  split at h
  · cases h
  split at h
  · cases h
  split at h
  · cases h
  · injection h with h
    injection h with h1 h2
    rw [← h1, strOfNums_size]
    simp only [List.length_drop, List.length_take]
    omega
theorem rdC_good {l : List Int} {x : Cl} {n : Nat} (h : rdC l = some (x, n)) : 1 ≤ n ∧ n ≤ l.length ∧ (∀ v ∈ x.p, Good v) ∧ x.p.length ≤ 4096 := by
  unfold rdC at h
  split at h
  · cases hr : rdW l 1 with
    | none => rw [hr] at h; cases h
    | some y =>
      rw [hr] at h
      simp only [Option.map_some, Option.some.injEq, Prod.mk.injEq] at h
      obtain ⟨rfl, rfl⟩ := h
      obtain ⟨h1, h2⟩ := rdW_le (show rdW l 1 = some (y.1, y.2) from hr)
      exact ⟨by omega, h1, by simp, by simp⟩
  split at h
  · cases hr : rdL l 1 with
    | none => rw [hr] at h; cases h
    | some y =>
      cases hr2 : rdW l 9 with
      | none => rw [hr, hr2] at h; cases h
      | some z =>
        cases hr3 : rdP (l.drop z.2) with
        | none => rw [hr, hr2] at h; simp only [Option.bind_some, hr3] at h; cases h
        | some q =>
          rw [hr, hr2] at h
          simp only [Option.bind_some, hr3, Option.map_some, Option.some.injEq, Prod.mk.injEq] at h
          obtain ⟨rfl, rfl⟩ := h
          obtain ⟨h1, h2⟩ := rdW_le (show rdW l 9 = some (z.1, z.2) from hr2)
          obtain ⟨g1, g2, g3, g4⟩ := rdP_good _ _ _ (show rdP (l.drop z.2) = some (q.1, q.2) from hr3)
          rw [List.length_drop] at g4
          exact ⟨by omega, by omega, g1, by show q.1.length ≤ 4096; omega⟩
  split at h
  · cases hr : rdL l 1 with
    | none => rw [hr] at h; cases h
    | some y =>
      rw [hr] at h
      simp only [Option.map_some, Option.some.injEq, Prod.mk.injEq] at h
      obtain ⟨rfl, rfl⟩ := h
      have := rdL_le hr
      exact ⟨by omega, by omega, by simp, by simp⟩
  · cases h
theorem one_u (A : Option Addr) (c : Nat) (l : List Int) (w : World) (hC : Kd.C (Kd.int .u8) w A l.length l) (hc : l.length ≤ c) (hB : By l) (h1 : 1 ≤ l.length) (hl : l.length ≤ 140737488355328) :
    Calls Try.prog 68 #[.slice A l.length c] w fun e w' => ∃ Av cv, e = .returned (.tuple #[clV (oCl (rdC l)) Av cv, .int .i64 (oCN (rdC l))]) ∧ Kd.R kV 50 w' w.heap.size (fun _ => True) (.slice Av (oCl (rdC l)).p.length cv) (oCl (rdC l)).p ∧ Below w.heap.size w w' := by
  have bad : rdC l = none → (Calls Try.prog 68 #[.slice A l.length c] w fun e w' => e = .returned (.tuple #[zCall, .int .i64 0]) ∧ Below w.heap.size w w') → Calls Try.prog 68 #[.slice A l.length c] w fun e w' => ∃ Av cv, e = .returned (.tuple #[clV (oCl (rdC l)) Av cv, .int .i64 (oCN (rdC l))]) ∧ Kd.R kV 50 w' w.heap.size (fun _ => True) (.slice Av (oCl (rdC l)).p.length cv) (oCl (rdC l)).p ∧ Below w.heap.size w w' := by
    intro hr h
    rw [hr]
    exact h.mono fun e w' h => ⟨none, 0, h.1, Kd.R_nil _ _ _ _ _, h.2⟩
  by_cases k1 : l.getD 0 0 = 1
  · cases hr : rdW l 1 with
    | none => exact bad (by rw [rdC, if_pos k1, hr]; rfl) (one_spawn_bad A c l w hC hc hB h1 hl k1 hr)
    | some y =>
      obtain ⟨s, n⟩ := y
      have hR : rdC l = some (⟨1, s, 0, [], 0⟩, n) := by rw [rdC, if_pos k1, hr]; rfl
      rw [hR]
      exact (one_spawn A c l w hC hc hB h1 hl k1 s n hr).mono fun e w' h => ⟨none, 0, h.1, Kd.R_nil _ _ _ _ _, h.2⟩
  by_cases k2 : l.getD 0 0 = 2
  · cases hr : rdL l 1 with
    | none => exact bad (by rw [rdC, if_neg k1, if_pos k2, hr]; rfl) (one_send_bad1 A c l w hC hc hB h1 hl k2 hr)
    | some x =>
      cases hr2 : rdW l 9 with
      | none => exact bad (by rw [rdC, if_neg k1, if_pos k2, hr, hr2]; rfl) (one_send_bad2 A c l w hC hc hB h1 hl k2 x hr hr2)
      | some y =>
        obtain ⟨s, n⟩ := y
        cases hr3 : rdP (l.drop n) with
        | none => exact bad (by rw [rdC, if_neg k1, if_pos k2, hr, hr2]; simp only [Option.bind_some, hr3]; rfl) (one_send_bad3 A c l w hC hc hB h1 hl k2 x hr s n hr2 hr3)
        | some z =>
          obtain ⟨vs, m⟩ := z
          have hR : rdC l = some (⟨2, s, x, vs, 0⟩, n + m) := by rw [rdC, if_neg k1, if_pos k2, hr, hr2]; simp only [Option.bind_some, hr3]; rfl
          rw [hR]
          refine (one_send A c l w hC hc hB h1 hl k2 x hr s n hr2 vs m hr3).mono fun e w' h => ?_
          obtain ⟨Av, cv, he, hR, hb⟩ := h
          exact ⟨Av, cv, by rw [he]; simp [clV, oCl, oCN], hR, hb⟩
  by_cases k3 : l.getD 0 0 = 3
  · cases hr : rdL l 1 with
    | none => exact bad (by rw [rdC, if_neg k1, if_neg k2, if_pos k3, hr]; rfl) (one_pick_bad A c l w hC hc hB h1 hl k3 hr)
    | some x =>
      have hR : rdC l = some (⟨3, { data := #[] }, 0, [], x⟩, 9) := by rw [rdC, if_neg k1, if_neg k2, if_pos k3, hr]; rfl
      rw [hR]
      exact (one_pick A c l w hC hc hB h1 hl k3 x hr).mono fun e w' h => ⟨none, 0, h.1, Kd.R_nil _ _ _ _ _, h.2⟩
  · exact bad (by rw [rdC, if_neg k1, if_neg k2, if_neg k3]) (one_other A c l w hC hc hB h1 hl k1 k2 k3)

/-- The calls of bytes, at most k of them; none: they are not calls, or too many. -/
def decC : Nat → List Int → Option (List Cl)
  | 0, l => if l.length = 0 then some [] else none
  | k + 1, l => if l.length = 0 then some [] else match rdC l with
    | none => none
    | some x => (decC k (l.drop x.2)).map (x.1 :: ·)
/-- tape.Decode. -/
def rdD (l : List Int) : Option (List Cl) := if l.length < 4 ∨ l.take 4 ≠ [67, 77, 84, 49] then none else decC 4096 (l.drop 4)
end Go.Proofs.Ytlbfnnngemonoaa.Wir
