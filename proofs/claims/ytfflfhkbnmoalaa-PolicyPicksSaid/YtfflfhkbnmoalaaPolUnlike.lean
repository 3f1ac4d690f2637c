/- chordmaillaw25.unlike and actors: what they answer. -/
import Derived.Test.YtfflfhkbnmoalaaPolWords
import Derived.Test.YtfflfhkbnmoalaaPolOpen
import Derived.Laws.StructEq
import Derived.Deep.QuietTactic
import Derived.BigQuiet
namespace Go.Proofs.Ytfflfhkbnmoalaa.Pol.Fair
open Go.RowKit Go.Proofs.YtfflfhkbnmoalaaW.PrintWords

def lt (x y : Int × Int) : Prop := x.1 < y.1 ∨ x.1 = y.1 ∧ x.2 < y.2
theorem lt_trans {x y z : Int × Int} (h : lt x y) (k : lt y z) : lt x z := by unfold lt at *; omega
def Sorted (l : List (Int × Int)) : Prop := l.Pairwise lt
theorem sorted_insert {l : List (Int × Int)} {c : Int × Int} {j : Nat} (hs : Sorted l) (hlo : ∀ i (h : i < l.length), i < j → lt l[i] c) (hhi : ∀ i (h : i < l.length), j ≤ i → lt c l[i]) : Sorted (l.take j ++ [c] ++ l.drop j) := by
  have h2 : (l.take j ++ l.drop j).Pairwise lt := by rw [List.take_append_drop]; exact hs
  rw [List.pairwise_append] at h2
  obtain ⟨ht, hd, _⟩ := h2
  unfold Sorted
  rw [List.append_assoc, List.pairwise_append]
  refine ⟨ht, ?_, ?_⟩
  · rw [List.singleton_append, List.pairwise_cons]
    refine ⟨fun x hx => ?_, hd⟩
    obtain ⟨i, hi, rfl⟩ := List.getElem_of_mem hx
    rw [List.getElem_drop]
    exact hhi _ _ (by omega)
  · intro x hx y hy
    obtain ⟨i, hi, rfl⟩ := List.getElem_of_mem hx
    simp at hi
    rw [List.getElem_take]
    have hxc := hlo i (by omega) (by omega)
    rw [List.singleton_append, List.mem_cons] at hy
    rcases hy with rfl | hy
    · exact hxc
    · obtain ⟨k, hk, rfl⟩ := List.getElem_of_mem hy
      rw [List.getElem_drop]
      exact lt_trans hxc (hhi _ _ (by omega))

/-- What holds of a list of unlike pairs made of the first j of xs. -/
structure Ok (xs zs : List (Int × Int)) (j : Nat) : Prop where
  sorted : Sorted zs
  len : zs.length ≤ j
  from_ : ∀ p ∈ zs, p ∈ xs
  some_ : 0 < j → zs ≠ []

theorem Ok.ins {xs zs : List (Int × Int)} {j k : Nat} (h : Ok xs zs j) (hj : j < xs.length) (hlo : ∀ i (h : i < zs.length), i < k → lt zs[i] xs[j]) (hhi : ∀ i (h : i < zs.length), k ≤ i → lt xs[j] zs[i]) : Ok xs (zs.take k ++ [xs[j]] ++ zs.drop k) (j + 1) :=
  ⟨sorted_insert h.sorted hlo hhi, by have := h.len; simp; omega, fun p hp => by
    simp at hp
    rcases hp with hp | rfl | hp
    · exact h.from_ p (List.mem_of_mem_take hp)
    · exact List.getElem_mem hj
    · exact h.from_ p (List.mem_of_mem_drop hp), fun _ => by simp⟩
theorem Ok.same {xs zs : List (Int × Int)} {j k : Nat} (h : Ok xs zs j) (hk : k < zs.length) : Ok xs zs (j + 1) :=
  ⟨h.sorted, by have := h.len; omega, h.from_, fun _ e => by rw [e] at hk; simp at hk⟩
theorem Ok.hi {xs zs : List (Int × Int)} {j k : Nat} {c : Int × Int} (h : Ok xs zs j) (hk : k < zs.length) (hc : lt c zs[k]) : ∀ i (h : i < zs.length), k ≤ i → lt c zs[i] := fun i hi hki => by
  by_cases e : i = k
  · subst e; exact hc
  · exact lt_trans hc (List.pairwise_iff_getElem.1 h.sorted k i hk hi (by omega))

/-- The cells of a list of pairs. -/
def cellsP (xs : List (Int × Int)) : List Value := xs.flatMap fun p => [.int .i64 p.1, .int .i64 p.2]
theorem cellsP_len (xs : List (Int × Int)) : (cellsP xs).length = xs.length * 2 := by
  unfold cellsP
  rw [List.length_flatMap]
  induction xs with
  | nil => rfl
  | cons x l ih => simp [List.map_cons, List.sum_cons] at ih ⊢; omega
theorem cellsP_app (xs ys : List (Int × Int)) : cellsP (xs ++ ys) = cellsP xs ++ cellsP ys := by simp [cellsP]
theorem cellsP_take (xs : List (Int × Int)) (k : Nat) : (cellsP xs).take (k * 2) = cellsP (xs.take k) := by
  by_cases h : k ≤ xs.length
  · have e : cellsP xs = cellsP (xs.take k) ++ cellsP (xs.drop k) := by rw [← cellsP_app, List.take_append_drop]
    rw [e, List.take_append_of_le_length (by rw [cellsP_len]; simp; omega), List.take_of_length_le (by rw [cellsP_len]; simp; omega)]
  · rw [List.take_of_length_le (by rw [cellsP_len]; omega), List.take_of_length_le (by omega)]
theorem cellsP_drop (xs : List (Int × Int)) (k : Nat) : (cellsP xs).drop (k * 2) = cellsP (xs.drop k) := by
  by_cases h : k ≤ xs.length
  · have e : cellsP xs = cellsP (xs.take k) ++ cellsP (xs.drop k) := by rw [← cellsP_app, List.take_append_drop]
    rw [e, List.drop_append_of_le_length (by rw [cellsP_len]; simp; omega), List.drop_of_length_le (by rw [cellsP_len]; simp; omega), List.nil_append]
  · rw [List.drop_of_length_le (by rw [cellsP_len]; omega), List.drop_of_length_le (by omega)]; rfl
theorem cellsP_one (xs : List (Int × Int)) : ∀ u ∈ cellsP xs, u.oneCell' = true := by
  intro u hu
  unfold cellsP at hu
  rw [List.mem_flatMap] at hu
  obtain ⟨p, _, hp⟩ := hu
  simp at hp
  rcases hp with rfl | rfl <;> rfl
theorem cellsP_at (xs : List (Int × Int)) (k : Nat) (h : k < xs.length) : (cellsP xs)[k * 2]? = some (.int .i64 xs[k].1) ∧ (cellsP xs)[k * 2 + 1]? = some (.int .i64 xs[k].2) := by
  have e : (cellsP xs).drop (k * 2) = cellsP (xs.drop k) := cellsP_drop xs k
  rw [List.drop_eq_getElem_cons h] at e
  have e2 : cellsP (xs[k] :: xs.drop (k + 1)) = .int .i64 xs[k].1 :: .int .i64 xs[k].2 :: cellsP (xs.drop (k + 1)) := rfl
  rw [e2] at e
  constructor
  · have := congrArg (fun l => l[0]?) e
    simpa [List.getElem?_drop] using this
  · have := congrArg (fun l => l[1]?) e
    simpa [List.getElem?_drop] using this

theorem add0 (g n : Nat) : (⟨g, 0, none⟩ : Addr).add n = ⟨g, n, none⟩ := by unfold Addr.add; split <;> simp_all

/-- An own row of pairs. -/
def OwnP (w : World) (B : Nat) (v : Value) (zs : List (Int × Int)) : Prop := w.ownsRow B 42 2 v zs.length (cellsP zs)
theorem OwnP.at_ {w : World} {B c : Nat} {A : Option Addr} {zs : List (Int × Int)} (h : OwnP w B (.slice A zs.length c) zs) (k : Nat) (hk : k < zs.length) :
    ∃ g, A = some ⟨g, 0, none⟩ ∧ g < w.heap.size ∧ w.cell? ⟨g, k * 2, none⟩ = some (.int .i64 zs[k].1) ∧ w.cell? ⟨g, k * 2 + 1, none⟩ = some (.int .i64 zs[k].2) := by
  obtain ⟨g, cap, hv, _, hlt⟩ := World.ownsRow.form h (by omega)
  have hA : A = some ⟨g, 0, none⟩ := by injection hv
  subst hA
  have hc := World.ownsRow.cells h (g := g) rfl
  obtain ⟨h0, h1⟩ := cellsP_at zs k hk
  have a0 := hc _ _ h0
  have a1 := hc _ _ h1
  refine ⟨g, rfl, hlt, ?_, ?_⟩
  · rw [add0] at a0; exact a0
  · rw [add0] at a1; exact a1

theorem eq42 (a b c d : Int) (w : World) : (binOp .eql 42 (.agg #[.int .i64 a, .int .i64 b]) (.agg #[.int .i64 c, .int .i64 d])).run Try.prog w = .ok (.bool (a == c && b == d)) w := by
  have h : (Op.equalIn (9999 + 1) 42 (.agg #[.int .i64 a, .int .i64 b]) (.agg #[.int .i64 c, .int .i64 d])).run Try.prog w = .ok ((a == c) && (b == d)) w := by
    refine eqA_of (d := 9999) Try.underlying42 (by kernel_rfl) ?_
    refine eqf_cons (by rfl) (a := .int .i64 a) (b := .int .i64 c) (by kernel_rfl) (by kernel_rfl) (run_equalIn_int w 9998 3 .i64 .i64 a c Try.underlying3) ?_
    exact eqf_last (by rfl) (a := .int .i64 b) (b := .int .i64 d) (by kernel_rfl) (by kernel_rfl) (run_equalIn_int w 9998 3 .i64 .i64 b d Try.underlying3)
  rw [run_eql_struct, h]
  rfl


theorem own_cap {w : World} {B n c : Nat} {A : Option Addr} {e : TypeId} {size : Nat} {xs : List Value} (h : w.ownsRow B e size (.slice A n c) n xs) : n ≤ c := by
  rcases h.2 with ⟨h1, h2⟩ | ⟨g, cap, cur, hv, _, _, hc, _⟩
  · omega
  · injection hv with _ _ h3
    omega
theorem readsTake {w : World} {B c k : Nat} {A : Option Addr} {zs : List (Int × Int)} (h : OwnP w B (.slice A zs.length c) zs) (hk : k ≤ zs.length) (nq : Nat) : Reads (w.drewN nq) w.heap.size 2 A k (cellsP (zs.take k)) := by
  have hr := Reads.of_own h
  refine ⟨by rw [cellsP_len]; simp; omega, fun hn => ?_⟩
  obtain ⟨ad, e, hb, hc⟩ := hr.2 (by omega)
  refine ⟨ad, e, hb, fun j u hu => hc j u ?_⟩
  rw [← cellsP_take, List.getElem?_take] at hu
  split at hu
  · exact hu
  · cases hu

theorem readsNew (w : World) (a b : Int) : Reads (w.alloc (.cells #[.int .i64 a, .int .i64 b] 42)) (w.heap.size + 1) 2 (some ⟨w.heap.size, 0, none⟩) 1 [.int .i64 a, .int .i64 b] := by
  refine ⟨rfl, fun _ => ⟨_, rfl, Nat.lt_succ_self _, fun j u hu => ?_⟩⟩
  rw [add0, (Blk.new w 42 _).cell]
  simpa using hu

theorem readsDrop {w w' : World} {B c k : Nat} {A : Option Addr} {zs : List (Int × Int)} (h : OwnP w B (.slice A zs.length c) zs) (hk : k ≤ zs.length) (hb : Below w.heap.size w w') :
    Reads w' w.heap.size 2 (if c = k then A else A.map (·.add (k * 2))) (zs.length - k) (cellsP (zs.drop k)) := by
  rw [← cellsP_drop]
  exact (((Reads.of_own h).cut hk (own_cap h)).below hb)
theorem readsDrop2 {w w' : World} {B c k g : Nat} {zs : List (Int × Int)} (h : OwnP w B (.slice (some ⟨g, 0, none⟩) zs.length c) zs) (hk : k < zs.length) (hb : Below w.heap.size w w') :
    Reads w' w.heap.size 2 (some ⟨g, k * 2, none⟩) (zs.length - k) (cellsP (zs.drop k)) := by
  have hr := readsDrop h (by omega : k ≤ zs.length) hb
  rw [if_neg (by have := own_cap h; omega), Option.map_some, add0] at hr
  exact hr
/-- The first two appends of a new row leave what was there. -/
theorem belowIns {wo w1 w2 : World} {nq : Nat} {v1 : Value} {o : Obj} (h1 : (wo.drewN nq).grownBy w1 (Value.slice none 0 0).ownBlock) (h2 : (w1.alloc o).grownBy w2 v1.ownBlock) (hat : v1.ownBlock = (Value.slice none 0 0).ownBlock ∨ v1.ownBlock = some (wo.drewN nq).heap.size) : Below wo.heap.size wo w2 := by
  have hb1 : Below wo.heap.size wo w1 := (below_drewN (Below.refl _ _) _).grown h1 (Nat.le_refl _) (by simp [Value.ownBlock])
  refine (hb1.alloc hb1.size o).grown h2 (by have := hb1.size; simp; omega) (fun g hg => ?_)
  rcases hat with e | e
  · rw [e] at hg; simp [Value.ownBlock] at hg
  · rw [e] at hg
    injection hg with hg
    subst hg
    exact Nat.le_refl _

theorem ownIns {w3 : World} {B k : Nat} {v3 : Value} {zs : List (Int × Int)} {x : Int × Int} (hk : k ≤ zs.length) (h : w3.ownsRow B 42 2 v3 (0 + k + 1 + (zs.length - k)) ([] ++ cellsP (zs.take k) ++ [.int .i64 x.1, .int .i64 x.2] ++ cellsP (zs.drop k))) : OwnP w3 B v3 (zs.take k ++ [x] ++ zs.drop k) := by
  unfold OwnP
  have e1 : (zs.take k ++ [x] ++ zs.drop k).length = 0 + k + 1 + (zs.length - k) := by simp; omega
  have e2 : cellsP (zs.take k ++ [x] ++ zs.drop k) = [] ++ cellsP (zs.take k) ++ [.int .i64 x.1, .int .i64 x.2] ++ cellsP (zs.drop k) := by
    rw [cellsP_app, cellsP_app, List.nil_append]
    rfl
  rw [e1, e2]
  exact h

theorem info42 : (Try.prog.info? 42).map (fun i => (i.zero, i.size, i.bytes)) = some (some (.agg #[(.int .i64 0), (.int .i64 0)]), 2, 16) := by kernel_rfl

set_option maxRecDepth 20000 in
set_option maxHeartbeats 2000000 in
theorem unlike_any (A : Option Addr) (c : Nat) (xs : List (Int × Int)) (w : World) (hx : kP.C w A xs.length xs) (hm : xs.length ≤ 60) :
    Calls Try.prog 11 #[.slice A xs.length c] w fun e w' => ∃ v r, e = .returned v ∧ Ok xs r xs.length ∧ OwnP w' w.heap.size v r ∧ Below w.heap.size w w' := by
  obtain ⟨i0, hi0, hz0, hz1, hz2⟩ := info_parts info42
  have HI := Lib.hid hi0
  clear hi0
  have HX := Lib.hid hx
  clear hx
  go_enter Try.func11, Try.ntmps11
  go_wp2_with fail
  go_loopw [3, 4, 5, 6] (fun v i _ _ wr => ∃ (j : Nat) (zs : List (Int × Int)), j ≤ xs.length ∧ i = .int .i64 j ∧ Ok xs zs j ∧ OwnP wr w.heap.size v zs ∧ Below w.heap.size w wr) (fun _ i _ _ _ => xs.length - (intOf i).toNat)
  case atStart => exact ⟨0, [], Nat.zero_le _, rfl, ⟨List.Pairwise.nil, by simp, by simp, fun h => absurd h (by omega)⟩, ⟨rfl, .inl ⟨rfl, rfl⟩⟩, Below.refl _ _⟩
  case round =>
    obtain ⟨j, zs, hj, rfl, hok, hown, hb⟩ := hrel
    obtain ⟨Ao, co, rfl⟩ := own_slice hown
    have HOK := Lib.hid hok
    have HO := Lib.hid hown
    have hzl := hok.len
    clear hok hown
    by_cases hlt : j < xs.length
    · obtain ⟨ad, rfl, hx0, hx1⟩ := at_P HX.out j hlt
      have hy0 := (hb.cell (World.block_lt_of_cell? w _ hx0)).trans hx0
      have hy1 := (hb.cell (World.block_lt_of_cell? w _ hx1)).trans hx1
      clear hx0 hx1
      obtain ⟨wo, rfl⟩ : ∃ wo : World, wo = wr := ⟨_, rfl⟩
      go_wp2_with fail
      generalize hc0 : xs[j].1 = c0 at hy0
      generalize hc1 : xs[j].2 = c1 at hy1
      have HC0 := Lib.hid hc0
      have HC1 := Lib.hid hc1
      clear hc0 hc1
      go_loopw [5] (fun q wq => ∃ (k nq : Nat), k ≤ zs.length ∧ q = .int .i64 k ∧ (∀ t (h : t < zs.length), t < k → lt zs[t] xs[j]) ∧ wq = wo.drewN nq) (fun q _ => zs.length - (intOf q).toNat)
      case atStart => exact ⟨0, 0, Nat.zero_le _, rfl, fun t h ht => absurd ht (by omega), rfl⟩
      case round =>
        obtain ⟨k, nq, hk, rfl, hlo, rfl⟩ := hrel
        have HLO := Lib.hid hlo
        clear hlo
        have hcap := own_cap HO.out
        by_cases hkl : k < zs.length
        · obtain ⟨g, hA, hg, hz0', hz1'⟩ := HO.out.at_ k hkl
          subst hA
          generalize hd0 : zs[k].1 = d0 at hz0'
          generalize hd1 : zs[k].2 = d1 at hz1'
          have HD0 := Lib.hid hd0
          have HD1 := Lib.hid hd1
          clear hd0 hd1
          by_cases h1 : lt zs[k] xs[j]
          · have HN := Lib.hid h1
            rw [lt, HD0.out, HD1.out, HC0.out, HC1.out] at h1
            have hb : (decide (d0 < c0) = true) ∨ (decide (d0 < c0) = false ∧ (d0 == c0) = true ∧ decide (d1 < c1) = true) := by
              rcases h1 with h1 | ⟨h1, h2⟩
              · exact .inl (by simpa using h1)
              · exact .inr ⟨by simp; omega, by simpa using h1, by simpa using h2⟩
            clear h1
            rcases hb with b1 | ⟨b1, b2, b3⟩
            all_goals
              go_wp2_with fail
              go_quiet (fail)
              go_wp2_with fail
              go_roundw
              case rel => exact ⟨k + 1, _, by omega, by go_num, fun t h ht => by
                by_cases e : t = k
                · subst e; exact HN.out
                · exact HLO.out t h (by omega), rfl⟩
              case measure => simp [intOf]; omega
          · by_cases h2 : zs[k] = xs[j]
            · have b1 : decide (d0 < c0) = false := by rw [← HD0.out, ← HC0.out, h2]; simp
              have b2 : (d0 == c0) = true := by rw [← HD0.out, ← HC0.out, h2]; simp
              have b3 : decide (d1 < c1) = false := by rw [← HD1.out, ← HC1.out, h2]; simp
              have heq : ∀ w', (binOp .eql 42 (.agg #[.int .i64 d0, .int .i64 d1]) (.agg #[.int .i64 c0, .int .i64 c1])).run Try.prog w' = .ok (.bool true) w' := fun w' => by
                rw [eq42, ← HD0.out, ← HC0.out, ← HD1.out, ← HC1.out, h2]; simp
              have HK := Lib.hid (HOK.out.same hkl)
              clear h1 h2
              go_wp2_with fail
              go_quiet (fail)
              go_wp2_with fail
              go_quiet (fail)
              go_wp2_with fail
              go_roundw
              case rel => exact ⟨j + 1, zs, by omega, by go_num, HK.out, HO.out, below_drewN hb _⟩
              case measure => simp [intOf]; omega
            · have h3 : lt xs[j] zs[k] := by
                rw [lt, HD0.out, HD1.out, HC0.out, HC1.out] at h1 ⊢
                have : ¬ (d0 = c0 ∧ d1 = c1) := fun h => h2 (Prod.ext (by rw [HD0.out, HC0.out]; exact h.1) (by rw [HD1.out, HC1.out]; exact h.2))
                omega
              have HH := Lib.hid (HOK.out.hi hkl h3)
              have hb' : ((d0 == c0) = true ∧ decide (d1 < c1) = false) ∨ (d0 == c0) = false := by
                rw [lt, HD0.out, HD1.out, HC0.out, HC1.out] at h1
                by_cases e : d0 = c0
                · exact .inl ⟨by simpa using e, by simp; omega⟩
                · exact .inr (by simpa using e)
              have b1 : decide (d0 < c0) = false := by
                rw [lt, HD0.out, HD1.out, HC0.out, HC1.out] at h1
                simp; omega
              have heq : ∀ w', (binOp .eql 42 (.agg #[.int .i64 d0, .int .i64 d1]) (.agg #[.int .i64 c0, .int .i64 c1])).run Try.prog w' = .ok (.bool false) w' := fun w' => by
                have : ¬ (d0 = c0 ∧ d1 = c1) := fun h => h2 (Prod.ext (by rw [HD0.out, HC0.out]; exact h.1) (by rw [HD1.out, HC1.out]; exact h.2))
                rw [eq42]
                have e : (d0 == c0 && d1 == c1) = false := by
                  rw [Bool.and_eq_false_iff, beq_eq_false_iff_ne, beq_eq_false_iff_ne]; omega
                rw [e]
              clear h1 h2 h3
              rcases hb' with ⟨b2, b3⟩ | b2
              all_goals
                go_wp2_with fail
                go_quiet (fail)
                go_wp2_with fail
                go_quiet (fail)
                have HY0 := Lib.hid hy0
                have HY1 := Lib.hid hy1
                go_wp2_with (first
                  | (at_builtin
                     refine wpList_append_any _ rfl (.tmp 73) (.tmp 76) 28 rfl w.heap.size 42 i0 _ 2 16 Try.underlying28 HI.out hz0 hz1 hz2 rfl (by decide) (.slice none 0 0) 0 [] rfl ⟨rfl, .inl ⟨rfl, rfl⟩⟩ wo.heap.size _ k co (cellsP (zs.take k)) rfl (readsTake HO.out hk _) (cellsP_one _) (by simp only [maxLen]; omega) (by omega) hb.size ?_
                     intro v1 w1 hown1 hg1 hat1
                     have hbw : Below wo.heap.size wo w1 := (below_drewN (Below.refl _ _) _).grown hg1 (Nat.le_refl _) (by simp [Value.ownBlock])
                     have hc10 := (hbw.cell (World.block_lt_of_cell? wo _ HY0.out)).trans HY0.out
                     have hc11 := (hbw.cell (World.block_lt_of_cell? wo _ HY1.out)).trans HY1.out
                     have hs1 : wo.heap.size ≤ w1.heap.size := hbw.size
                     have HG1 := Lib.hid hg1
                     have HAT1 := Lib.hid hat1
                     have HO1 := Lib.hid hown1
                     clear hg1 hat1 hown1)
                  | (at_builtin
                     refine wpList_append_any _ rfl (.tmp 78) (.tmp 83) 28 rfl w.heap.size 42 i0 _ 2 16 Try.underlying28 HI.out hz0 hz1 hz2 rfl (by decide) v1 _ _ rfl (HO1.out.alloc _) (w1.heap.size + 1) (some ⟨w1.heap.size, 0, none⟩) 1 1 [.int .i64 c0, .int .i64 c1] rfl (readsNew w1 c0 c1) (by simp [Value.oneCell']) (by simp only [maxLen]; omega) (by omega) (by have := hb.size; simp; omega) ?_
                     intro v2 w2 hown2 hg2 hat2
                     have HG2 := Lib.hid hg2
                     have HAT2 := Lib.hid hat2
                     have HO2 := Lib.hid hown2
                     clear hg2 hat2 hown2)
                  | (at_builtin
                     go_loud (refine wpList_append_any _ rfl (.tmp 85) (.tmp 88) 28 rfl w.heap.size 42 i0 _ 2 16 Try.underlying28 HI.out hz0 hz1 hz2 rfl (by decide) v2 _ _ rfl HO2.out wo.heap.size _ (zs.length - k) _ (cellsP (zs.drop k)) rfl (readsDrop2 HO.out hkl (belowIns HG1.out HG2.out HAT1.out)) (cellsP_one _) (by simp only [maxLen]; omega) (by omega) (by have := hb.size; have := HG2.out.size; simp at this; omega) ?_)
                     intro v3 w3 hown3 hg3 hat3
                     have HG3 := Lib.hid hg3
                     have HO3 := Lib.hid hown3
                     clear hg3 hat3 hown3))
                exact ⟨⟨j + 1, zs.take k ++ [xs[j]] ++ zs.drop k, by omega, by go_num, HOK.out.ins hlt HLO.out HH.out, ownIns hk (by rw [← HC0.out, ← HC1.out] at HO3; exact HO3.out), (hb.trans ((belowIns HG1.out HG2.out HAT1.out).mono hb.size)).grown HG3.out (by have := hb.size; have := HG2.out.size; simp at this; omega) (own_base HO2.out)⟩, by simp [intOf]; omega⟩
        · have hke : k = zs.length := by omega
          have HH := Lib.hid (show ∀ i (h : i < zs.length), k ≤ i → lt xs[j] zs[i] from fun i h hi => absurd hi (by omega))
          clear hke
          go_wp2_with fail
          go_quiet (fail)
          go_wp2_with fail
          go_quiet (fail)
          have HY0 := Lib.hid hy0
          have HY1 := Lib.hid hy1
          go_wp2_with (first
            | (at_builtin
               refine wpList_append_any _ rfl (.tmp 73) (.tmp 76) 28 rfl w.heap.size 42 i0 _ 2 16 Try.underlying28 HI.out hz0 hz1 hz2 rfl (by decide) (.slice none 0 0) 0 [] rfl ⟨rfl, .inl ⟨rfl, rfl⟩⟩ wo.heap.size Ao k co (cellsP (zs.take k)) rfl (readsTake HO.out hk _) (cellsP_one _) (by simp only [maxLen]; omega) (by omega) hb.size ?_
               intro v1 w1 hown1 hg1 hat1
               have hbw : Below wo.heap.size wo w1 := (below_drewN (Below.refl _ _) _).grown hg1 (Nat.le_refl _) (by simp [Value.ownBlock])
               have hc10 := (hbw.cell (World.block_lt_of_cell? wo _ HY0.out)).trans HY0.out
               have hc11 := (hbw.cell (World.block_lt_of_cell? wo _ HY1.out)).trans HY1.out
               have hs1 : wo.heap.size ≤ w1.heap.size := hbw.size
               have HG1 := Lib.hid hg1
               have HAT1 := Lib.hid hat1
               have HO1 := Lib.hid hown1
               clear hg1 hat1 hown1)
            | (at_builtin
               refine wpList_append_any _ rfl (.tmp 78) (.tmp 83) 28 rfl w.heap.size 42 i0 _ 2 16 Try.underlying28 HI.out hz0 hz1 hz2 rfl (by decide) v1 _ _ rfl (HO1.out.alloc _) (w1.heap.size + 1) (some ⟨w1.heap.size, 0, none⟩) 1 1 [.int .i64 c0, .int .i64 c1] rfl (readsNew w1 c0 c1) (by simp [Value.oneCell']) (by simp only [maxLen]; omega) (by omega) (by have := hb.size; simp; omega) ?_
               intro v2 w2 hown2 hg2 hat2
               have HG2 := Lib.hid hg2
               have HAT2 := Lib.hid hat2
               have HO2 := Lib.hid hown2
               clear hg2 hat2 hown2)
            | (at_builtin
               go_loud (refine wpList_append_any _ rfl (.tmp 85) (.tmp 88) 28 rfl w.heap.size 42 i0 _ 2 16 Try.underlying28 HI.out hz0 hz1 hz2 rfl (by decide) v2 _ _ rfl HO2.out wo.heap.size _ (zs.length - k) _ (cellsP (zs.drop k)) rfl (readsDrop HO.out hk (belowIns HG1.out HG2.out HAT1.out)) (cellsP_one _) (by simp only [maxLen]; omega) (by omega) (by have := hb.size; have := HG2.out.size; simp at this; omega) ?_)
               intro v3 w3 hown3 hg3 hat3
               have HG3 := Lib.hid hg3
               have HO3 := Lib.hid hown3
               clear hg3 hat3 hown3))
          exact ⟨⟨j + 1, zs.take k ++ [xs[j]] ++ zs.drop k, by omega, by go_num, HOK.out.ins hlt HLO.out HH.out, ownIns hk (by rw [← HC0.out, ← HC1.out] at HO3; exact HO3.out), (hb.trans ((belowIns HG1.out HG2.out HAT1.out).mono hb.size)).grown HG3.out (by have := hb.size; have := HG2.out.size; simp at this; omega) (own_base HO2.out)⟩, by simp [intOf]; omega⟩
    · go_wp2_with fail
      go_ret
      have e : j = xs.length := by omega
      subst e
      exact ⟨_, zs, rfl, HOK.out, HO.out, hb⟩

end Go.Proofs.Ytfflfhkbnmoalaa.Pol.Fair
