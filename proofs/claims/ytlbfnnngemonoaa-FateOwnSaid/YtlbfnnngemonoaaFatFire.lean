/- (*fate.Book).Fire. -/
import Derived.Test.YtlbfnnngemonoaaFatWrong
namespace Go.Proofs.Ytlbfnnngemonoaa.Fat
open Go.RowKit Go.Proofs.Ytlbfnnngemonoaa.PFateBooks
open Go.Proofs.YtlbfnnngemonoaaW.PrintWords Go.Proofs.YtlbfnnngemonoaaW.PrintLast Go.Proofs.YtlbfnnngemonoaaW.PrintMore
set_option linter.unusedVariables false
set_option linter.unusedSimpArgs false

/-- The first k of ids may be consumed. -/
def okTo (ts : List S134) (ac : Int) (ids : List Int) (k : Nat) : Prop := ∀ j, j < k → errAt ts ac ids j = 0
theorem okTo.uniq {ts : List S134} {ac : Int} {ids : List Int} {k m : Nat} (h : okTo ts ac ids k) (h2 : errAt ts ac ids k ≠ 0) (g : okTo ts ac ids m) (g2 : errAt ts ac ids m ≠ 0) : k = m := by
  rcases Nat.lt_trichotomy k m with e | e | e
  · exact absurd (g k e) h2
  · exact e
  · exact absurd (h m e) g2
theorem okTo.in_ {ts : List S134} {ac : Int} {ids : List Int} {j : Nat} (h : errAt ts ac ids j = 0) : 0 ≤ ids.getD j 0 ∧ ids.getD j 0 < (ts.length : Int) ∧ (ts.getD (ids.getD j 0).toNat z134).f1 = 0 := by
  unfold errAt at h
  split at h
  · omega
  · split at h
    · omega
    · rename_i h1 h2
      refine ⟨by omega, by omega, ?_⟩
      simpa using h2

/-- One message is consumed by the n-th firing. -/
def setOne (n : Int) (ts : List S134) (id : Int) : List S134 := ts.set id.toNat { ts.getD id.toNat z134 with f2 := n }
def setAll (n : Int) (ts : List S134) (ids : List Int) : List S134 := ids.foldl (setOne n) ts
theorem setOne_len (n : Int) (ts : List S134) (id : Int) : (setOne n ts id).length = ts.length := by simp [setOne]
theorem setAll_len (n : Int) (ids : List Int) : ∀ ts : List S134, (setAll n ts ids).length = ts.length := by
  induction ids with
  | nil => exact fun _ => rfl
  | cons a l ih => intro ts; exact (ih _).trans (setOne_len n ts a)
theorem setAll_snoc (n : Int) (ts : List S134) (ids : List Int) (a : Int) : setAll n ts (ids ++ [a]) = setOne n (setAll n ts ids) a := by simp [setAll]
theorem setAll_f1 (n : Int) (ids : List Int) : ∀ (ts : List S134) (i : Nat), ((setAll n ts ids).getD i z134).f1 = (ts.getD i z134).f1 := by
  induction ids with
  | nil => exact fun _ _ => rfl
  | cons a l ih =>
    intro ts i
    refine (ih (setOne n ts a) i).trans ?_
    unfold setOne
    simp only [List.getD_eq_getElem?_getD, List.getElem?_set]
    by_cases e : a.toNat = i
    · subst e
      by_cases hl : a.toNat < ts.length
      · simp [hl]
      · simp [hl]
    · simp [e]

/-- What a firing leaves. -/
def FPost (K : World → Nat → List Nat → List S134 → Int → Prop) (w : World) (p : Nat) (S : List Nat) (ts : List S134) (n ac : Int) (ids : List Int) (e : Ending) (w' : World) : Prop :=
  (∃ k, k < ids.length ∧ okTo ts ac ids k ∧ errAt ts ac ids k ≠ 0 ∧ e = .returned (.tuple #[.int .i64 (-1), .int .i64 (errAt ts ac ids k)]) ∧ Below w.heap.size w w') ∨
  (okTo ts ac ids ids.length ∧ e = .returned (.tuple #[.int .i64 n, .int .i64 0]) ∧ ∃ S', K w' p S' (setAll n ts ids) (n + 1) ∧ Chg S w w' ∧ ∀ x ∈ S', x ∈ S ∨ w.heap.size ≤ x)

set_option maxRecDepth 20000 in
theorem fire_nil (ac : Int) (A2 : Option Addr) (m c2 : Nat) (w : World) : Calls Try.prog 14 #[.pointer none, .int .i64 ac, .slice A2 m c2] w fun r w' => r = .returned (.tuple #[.int .i64 (-1), .int .i64 1]) ∧ Below w.heap.size w w' := by
  go_enter Try.func14, Try.ntmps14
  go_wp2_with fail
  go_ret2
  exact ⟨rfl, Below.refl _ _⟩
set_option maxRecDepth 20000 in
theorem rfire_nil (ac : Int) (A2 : Option Addr) (m c2 : Nat) (w : World) : Calls Try.prog 43 #[.pointer none, .int .i64 ac, .slice A2 m c2] w fun r w' => r = .returned (.tuple #[.int .i64 (-1), .int .i64 1]) ∧ Below w.heap.size w w' := by
  go_enter Try.func43, Try.ntmps43
  go_wp2_with fail
  go_ret2
  exact ⟨rfl, Below.refl _ _⟩

def T13 : Bool × List (List Nat × List Nat) := (true, [([], []), ([0], [0]), ([1], [1]), ([2], [2]), ([], []), ([], []), ([5], [5]), ([6], [6]), ([7], [7]), ([], []), ([], []), ([10], [10]), ([11], [11]), ([12], [12]), ([3, 4, 0, 1, 2, 3, 4, 8, 13], [3, 4]), ([14, 0, 1, 2, 3, 4, 8, 13], [14]), ([15, 0, 1, 2, 3, 4, 8, 13], [15]), ([8, 9, 0, 1, 2, 3, 4, 5, 6, 7, 8, 9, 10, 11, 12, 13, 14, 15, 16], [8, 9]), ([17, 0, 1, 2, 3, 4, 5, 6, 7, 8, 9, 10, 11, 12, 13, 14, 15, 16], [17]), ([18, 13, 16, 0, 1, 2, 3, 4, 5, 6, 7, 8, 9, 10, 11, 12, 13, 14, 15, 16], [13, 18])])
def B13 : List Nat := [0, 1, 3, 7, 0, 0, 32, 96, 224, 0, 0, 1024, 3072, 7168, 15871, 32255, 65023, 131071, 262143, 524287]
theorem tab13 : rtab .any (opsOf Try.f14 13) = T13 := by kernel_rfl
theorem bits13 : waitsOk T13.2 B13 = true := by kernel_rfl
theorem two_put {W : World} {g c N : Nat} {xs : List S43} (h : Kd.R k43 43 W 0 (fun _ => True) (.slice (some ⟨g, 0, none⟩) N c) xs) (m : Nat) (hm : m < N) (n : Int) (f : S43) (hf : xs.getD m z43 = f) :
    Kd.R k43 43 ((W.setCell ⟨g, m * 5 + 1, none⟩ (.int .i64 3)).setCell ⟨g, m * 5 + 4, none⟩ (.int .i64 n)) 0 (fun _ => True) (.slice (some ⟨g, 0, none⟩) N c) (xs.set m ⟨f.f0, 3, f.f2, f.f3, n⟩) := by
  have cells : ∀ {W : World} {xs : List S43} {f : S43}, Kd.R k43 43 W 0 (fun _ => True) (.slice (some ⟨g, 0, none⟩) N c) xs → xs.getD m z43 = f → ∀ j u, [(.int .i64 f.f0 : Value), .int .i64 f.f1, .int .i64 f.f2, .int .i64 f.f3, .int .i64 f.f4][j]? = some u → W.cell? ⟨g, (m : Int).toNat * k43.sz + j, none⟩ = some u := by
    intro W xs f h hf j u hu
    have hN := (Kd.R_reads' h).1
    obtain ⟨ad, e, x0, x1, x2, x3, x4⟩ := at_T43 (Kd.R_reads' h).2.2 m (by omega) (by omega)
    obtain rfl : (⟨g, 0, none⟩ : Addr) = ad := by injection e
    have er : rd_T43 xs (m : Nat) = f := by rw [← hf]; rfl
    have ea : (⟨g, 0, none⟩ : Addr).add (m * 5) = ⟨g, m * 5, none⟩ := by unfold Addr.add; split <;> simp_all
    rw [er, Int.toNat_natCast, ea] at x0 x1 x2 x3 x4
    rcases j with _ | _ | _ | _ | _ | j
    · simp at hu; subst hu; exact x0
    · simp at hu; subst hu; exact x1
    · simp at hu; subst hu; exact x2
    · simp at hu; subst hu; exact x3
    · simp at hu; subst hu; exact x4
    · simp at hu
  have h1 := (Kd.R_seg (okp := fun _ => False) h (m : Int) (by omega) (by omega) (c := [(.int .i64 f.f0 : Value), .int .i64 f.f1, .int .i64 f.f2, .int .i64 f.f3, .int .i64 f.f4]) (seg := [.int .i64 3]) (j := 1) rfl (cells h hf) (by decide) (x' := ⟨f.f0, 3, f.f2, f.f3, f.f4⟩) (k43_mkM _ _ _ (⟨f.f0, 3, f.f2, f.f3, f.f4⟩ : S43)) (fun _ h => h.elim)).1
  have hl := (Kd.R_reads' h).1
  have hf2 : (xs.set (m : Int).toNat ⟨f.f0, 3, f.f2, f.f3, f.f4⟩).getD m z43 = ⟨f.f0, 3, f.f2, f.f3, f.f4⟩ := by
    rw [Int.toNat_natCast, List.getD_eq_getElem?_getD, List.getElem?_set_self (by omega)]
    rfl
  have h2 := (Kd.R_seg (okp := fun _ => False) h1 (m : Int) (by omega) (by omega) (c := [(.int .i64 f.f0 : Value), .int .i64 3, .int .i64 f.f2, .int .i64 f.f3, .int .i64 f.f4]) (seg := [.int .i64 n]) (j := 4) rfl (cells h1 hf2) (by show 4 + 1 ≤ 5; omega) (x' := ⟨f.f0, 3, f.f2, f.f3, n⟩) (k43_mkM _ _ _ (⟨f.f0, 3, f.f2, f.f3, n⟩ : S43)) (fun _ h => h.elim)).1
  rw [Int.toNat_natCast, List.set_set] at h2
  exact h2
theorem FF_set (ts : List S134) (m : Nat) (t : S134) (hm : m < ts.length) : FF (ts.set m t) = (FF ts).set m (fateOf t m) := by
  apply List.ext_getElem?
  intro j
  simp only [FF, List.getElem?_map, List.getElem?_zipIdx, List.getElem?_set, List.length_map, List.length_zipIdx]
  by_cases e : m = j
  · subst e
    simp [hm]
  · simp [e]
theorem cell_set_ne_ {W : World} {a b : Addr} {u : Value} (h : a ≠ b) : (W.setCell a u).cell? b = W.cell? b := World.cell?_setCell_other _ _ _ _ h

set_option maxRecDepth 20000 in
set_option maxHeartbeats 4000000 in
theorem fire_ok (p : Nat) (S : List Nat) (ts : List S134) (n ac : Int) (A2 : Option Addr) (c2 : Nat) (ids : List Int) (w : World) (hK : Bk w p S ts n) (hI : Kd.C (Kd.int .i64) w A2 ids.length ids) (hc2 : ids.length ≤ c2) (hl : ids.length ≤ 4611686018427387000) (ho : ids.length ≠ 0 → Off S A2) (hn : 0 ≤ n ∧ n ≤ 4611686018427387000) :
    Calls Try.prog 14 #[.pointer (some ⟨p, 0, none⟩), .int .i64 ac, .slice A2 ids.length c2] w (FPost Bk w p S ts n ac ids) := by
  obtain ⟨v, rfl, hB, hR⟩ := hK
  obtain ⟨A, c, rfl⟩ := Kd.R_slice hR
  rw [FF_len] at hB hR ho ⊢
  have HB := Lib.hid hB
  have HR := Lib.hid hR
  have HI := Lib.hid hI
  have HO := Lib.hid ho
  have hCr := (Kd.R_reads' hR).2.2
  rw [FF_len] at hCr
  have HC := Lib.hid hCr
  have HN := Lib.hid hn
  clear hB hR hI ho hCr hn
  go_enter Try.func14, Try.ntmps14
  go_wp2_with fail
  go_loopw [16] (fun i wr => ∃ k : Nat, k ≤ ids.length ∧ i = .int .i64 k ∧ Below w.heap.size w wr ∧ Hid (okTo ts ac ids k)) (fun i _ => ids.length - (intOf i).toNat)
  case atStart => exact ⟨0, Nat.zero_le _, rfl, Below.refl _ _, Lib.hid (fun j hj => by omega)⟩
  case round =>
    obtain ⟨k, hk, rfl, hb, HOK⟩ := hrel
    by_cases hlt : k < ids.length
    · have b0 : decide ((k : Int) < (ids.length : Int)) = true := by simp; omega
      go_wp2_with fail
      refine (wrong_any p ts n ac A c A2 c2 ids k wr (HB.out.below hb HB.out.lt) (Kd.C_below HC.out hb) (Kd.C_below HI.out hb) hc2 hlt hl).mono ?_
      rintro e w1 ⟨rfl, hb1⟩
      have hb2 := hb.trans (hb1.mono hb.size)
      by_cases he : errAt ts ac ids k = 0
      · have HOK2 : Hid (okTo ts ac ids (k + 1)) := Lib.hid (fun j hj => by
          by_cases e : j = k
          · rw [e]; exact he
          · exact HOK.out j (by omega))
        rw [he]
        clear he HOK hb hb1
        go_wp2_with fail
        go_roundw
        case rel => exact ⟨k + 1, by omega, by first | rfl | (rw [w64n k (by omega)]), hb2, HOK2⟩
        case measure =>
          first | rw [w64n k (by omega)] | skip
          simp [intOf]
          omega
      · have b1 : (errAt ts ac ids k != 0) = true := by simpa using he
        have HE := Lib.hid he
        clear he
        go_wp2_with fail
        go_ret2
        exact .inl ⟨k, hlt, HOK.out, HE.out, rfl, hb2⟩
    · have b0 : decide ((k : Int) < (ids.length : Int)) = false := by simp; omega
      obtain rfl : k = ids.length := by omega
      go_wp2_with fail
      clear b0 hlt hk
      go_loopw [30] (fun i W => ∃ k : Nat, k ≤ ids.length ∧ i = .int .i64 k ∧ Chg (p :: (Value.slice A ts.length c).ownBlock.toList) w W ∧ Hid (Blk W p 93 #[.slice A ts.length c, .int .i64 n]) ∧ Hid (Kd.R k43 43 W 0 (fun _ => True) (.slice A ts.length c) (FF (setAll n ts (ids.take k))))) (fun i _ => ids.length - (intOf i).toNat)
      case atStart => exact ⟨0, Nat.zero_le _, rfl, Chg.of_below hb _, Lib.hid (HB.out.below hb HB.out.lt), Lib.hid (Kd.R_below HR.out hb)⟩
      case round =>
        clear hb
        obtain ⟨k, hk, rfl, hCw, HBw, HRw⟩ := hrel
        by_cases hlt : k < ids.length
        · have b0 : decide ((k : Int) < (ids.length : Int)) = true := by simp; omega
          obtain ⟨hi0, hi1, hi2⟩ := okTo.in_ (HOK.out k hlt)
          obtain ⟨ad2, hA2, x0w⟩ := int_at HI.out k hlt
          subst hA2
          have hadb : (ad2.add k).block = ad2.block := by unfold Addr.add; split <;> rfl
          have x0 := (World.cell?_of_block (hCw.block _ (World.block_lt_of_cell? w _ x0w) (by rw [hadb]; exact HO.out (by omega) ad2 rfl))).trans x0w
          have htk : ids.take (k + 1) = ids.take k ++ [ids.getD k 0] := by
            rw [List.take_add_one]
            simp [hlt]
          have hki : (k : Int) < (ids.length : Int) := by omega
          obtain ⟨m, hid⟩ : ∃ m : Nat, ids.getD k 0 = m := ⟨(ids.getD k 0).toNat, by omega⟩
          rw [hid] at hi0 hi1 hi2 x0 htk
          have hm : m < ts.length := by omega
          rw [Int.toNat_natCast] at hi2
          obtain ⟨ts', hts⟩ : ∃ ts', setAll n ts (ids.take k) = ts' := ⟨_, rfl⟩
          have hlen' : ts'.length = ts.length := by rw [← hts]; exact setAll_len n _ ts
          have hf1' : (ts'.getD m z134).f1 = 0 := by rw [← hts, setAll_f1]; exact hi2
          have hnext : setAll n ts (ids.take (k + 1)) = setOne n ts' m := by rw [htk, setAll_snoc, hts]
          rw [hts] at HRw
          obtain ⟨g, c', hA, _, hgl, hgb⟩ := Kd.R_form HRw.out (by rw [FF_len]; omega)
          injection hA with hA1 hA2 hA3
          clear hA2
          subst hA1
          have hC := (Kd.R_reads' HRw.out).2.2
          rw [FF_len] at hC
          obtain ⟨ad, e, y0, y1, y2, y3, y4⟩ := at_43 hC m (by omega)
          obtain rfl : (⟨g, 0, none⟩ : Addr) = ad := by injection e
          have ea : (⟨g, 0, none⟩ : Addr).add (m * 5) = ⟨g, m * 5, none⟩ := by unfold Addr.add; split <;> simp_all
          rw [ea] at y1 y4
          obtain ⟨f, hf⟩ : ∃ f, fateOf (ts'.getD m z134) m = f := ⟨_, rfl⟩
          rw [hf] at y1 y4
          have hFset : FF (setOne n ts' m) = (FF ts').set m ⟨f.f0, 3, f.f2, f.f3, n⟩ := by
            unfold setOne
            rw [Int.toNat_natCast, FF_set _ _ _ (by omega), ← hf]
            congr 1
            unfold fateOf
            simp only [hf1', ne_eq, not_true_eq_false, if_false]
            rw [if_neg (by have := HN.out; omega)]
            split <;> simp
          have HFS := Lib.hid hFset
          have hFd : (FF ts').getD m z43 = f := by rw [FF_at ts' m (by omega)]; exact hf
          have HFD := Lib.hid hFd
          have HNX := Lib.hid hnext
          have hpg : p ≠ g := fun e => by
            obtain ⟨cs, hcs⟩ := hgb
            have h := HBw.out
            unfold Blk at h
            rw [e, hcs] at h
            injection h with h
            injection h with _ h
            exact absurd h (by decide)
          have HGB : Hid (∃ cs, Blk wr g 43 cs) := Lib.hid hgb
          have hmi : (m : Int) < (ts.length : Int) := by omega
          have hgS : g ∈ (p :: (Value.slice (some ⟨g, 0, none⟩) ts.length c).ownBlock.toList) := by simp [Value.ownBlock]
          have y1' : wr.cell? ⟨g, m * 5 + 1, none⟩ = some (.int .i64 f.f1) := y1
          have y4' : wr.cell? ⟨g, m * 5 + 4, none⟩ = some (.int .i64 f.f4) := y4
          have hBl := HBw.out
          clear e ea y0 y1 y2 y3 y4 hf hC hi0 hi1 hi2 hid htk hts hf1' hnext hFset hFd hgb hA3 hadb x0w
          go_upto_region 13 with fail
          obtain ⟨wS, hwS⟩ : ∃ wS : World, wS = wr := ⟨_, rfl⟩
          rw [← hwS] at hBl HRw HGB y1' y4' hCw ⊢
          clear hwS x0 HBw
          have hBS := hBl
          have HRS := HRw
          have t1 := y1'
          have t4 := y4'
          clear hBl HRw y1' y4' hgl
          refine start_ (n := 20) (S := fun w' => Blk w' p 93 #[.slice (some ⟨g, 0, none⟩) ts.length c, .int .i64 n] ∧ Chg [g] wS w') (ds := [19]) #[false, false, false, false, false, false, false, false, false, false, false, false, false, false, false, false, false, false, false, false] (by kernel_rfl) rfl rfl ⟨hBS.drew, (Chg.refl _ _).drew⟩ (fun hHeld => ?_)
          refine with_tabW tab13 bits13 (fun HT_ HW_ => ?_)
          have HR4 := Lib.hid (Kd.R_drew HRS.out)
          have HGB4 : Hid (∃ cs, Blk wS.drew g 43 cs) := Lib.hid (by obtain ⟨cs, h⟩ := HGB.out; exact ⟨cs, h.drew⟩)
          have u1 : wS.drew.cell? ⟨g, m * 5 + 1, none⟩ = some (.int .i64 f.f1) := t1
          have u4 : wS.drew.cell? ⟨g, m * 5 + 4, none⟩ = some (.int .i64 f.f4) := t4
          have v1 : wS.drew.frozen? ⟨g, m * 5 + 1, none⟩ = false := by obtain ⟨cs, h⟩ := HGB4.out; exact h.frozen _
          have v4 : (wS.drew.setCell ⟨g, m * 5 + 1, none⟩ (.int .i64 3)).frozen? ⟨g, m * 5 + 4, none⟩ = false := by obtain ⟨cs, h⟩ := HGB4.out; exact (h.set_ (m * 5 + 1) (.int .i64 3)).frozen _
          have hCS : Chg [g] wS wS.drew := (Chg.refl _ _).drew
          generalize wS.drew = w4 at hHeld HR4 u1 u4 v1 v4 hCS ⊢
          clear t1 t4 HGB4
          refine pure_ (i := 0) (N := some 34) (v := ?_) (a' := ?_) #[true, false, false, false, false, false, false, false, false, false, false, false, false, false, false, false, false, false, false, false] rfl rfl (any_of HT_.out (by kernel_rfl)) (fun _ _ _ h => h) (Or.inl ⟨by rfl, ?_⟩) ?_ ?_
          rotate_left
          · intro w'
            go_simp
            with_reducible rfl
          rotate_left
          · simp only [Act.put, List.setIfInBounds_toArray, List.set_cons_zero, List.set_cons_succ, i64_w, i32_w]
            rfl
          refine pure_ (i := 1) (N := some 35) (v := ?_) (a' := ?_) #[true, true, false, false, false, false, false, false, false, false, false, false, false, false, false, false, false, false, false, false] rfl rfl (any_of HT_.out (by kernel_rfl)) (fun _ _ _ h => h) (Or.inl ⟨by rfl, ?_⟩) ?_ ?_
          rotate_left
          · intro w'
            go_simp
            with_reducible rfl
          rotate_left
          · simp only [Act.put, List.setIfInBounds_toArray, List.set_cons_zero, List.set_cons_succ, i64_w, i32_w]
            rfl
          refine pure_ (i := 2) (N := some 36) (v := ?_) (a' := ?_) #[true, true, true, false, false, false, false, false, false, false, false, false, false, false, false, false, false, false, false, false] rfl rfl (any_of HT_.out (by kernel_rfl)) (fun _ _ _ h => h) (Or.inl ⟨by rfl, ?_⟩) ?_ ?_
          rotate_left
          · intro w'
            go_simp
            with_reducible rfl
          rotate_left
          · simp only [Act.put, List.setIfInBounds_toArray, List.set_cons_zero, List.set_cons_succ, i64_w, i32_w]
            rfl
          refine take_ (i := 3) (N := some 37) (v := ?_) (a' := ?_) #[true, true, true, true, false, false, false, false, false, false, false, false, false, false, false, false, false, false, false, false] rfl rfl (take_ofW HT_.out HW_.out (by kernel_rfl)) (fun _ _ _ h => h) (Or.inl ⟨by rfl, ?_⟩) hHeld ?_ ?_
          rotate_left
          · intro w' HS_
            have t_ := HS_.1.cell 0
            simp at t_
            go_simp
            with_reducible rfl
          rotate_left
          · simp only [Act.put, List.setIfInBounds_toArray, List.set_cons_zero, List.set_cons_succ, i64_w, i32_w]
            rfl
          refine pure_ (i := 4) (N := some 38) (v := ?_) (a' := ?_) #[true, true, true, true, true, false, false, false, false, false, false, false, false, false, false, false, false, false, false, false] rfl rfl (any_of HT_.out (by kernel_rfl)) (fun _ _ _ h => h) (Or.inl ⟨by rfl, ?_⟩) ?_ ?_
          rotate_left
          · intro w'
            go_simp
            with_reducible rfl
          rotate_left
          · simp only [Act.put, List.setIfInBounds_toArray, List.set_cons_zero, List.set_cons_succ, i64_w, i32_w]
            rfl
          refine pure_ (i := 5) (N := some 39) (v := ?_) (a' := ?_) #[true, true, true, true, true, true, false, false, false, false, false, false, false, false, false, false, false, false, false, false] rfl rfl (any_of HT_.out (by kernel_rfl)) (fun _ _ _ h => h) (Or.inl ⟨by rfl, ?_⟩) ?_ ?_
          rotate_left
          · intro w'
            go_simp
            with_reducible rfl
          rotate_left
          · simp only [Act.put, List.setIfInBounds_toArray, List.set_cons_zero, List.set_cons_succ, i64_w, i32_w]
            rfl
          refine pure_ (i := 6) (N := some 40) (v := ?_) (a' := ?_) #[true, true, true, true, true, true, true, false, false, false, false, false, false, false, false, false, false, false, false, false] rfl rfl (any_of HT_.out (by kernel_rfl)) (fun _ _ _ h => h) (Or.inl ⟨by rfl, ?_⟩) ?_ ?_
          rotate_left
          · intro w'
            go_simp
            with_reducible rfl
          rotate_left
          · simp only [Act.put, List.setIfInBounds_toArray, List.set_cons_zero, List.set_cons_succ, i64_w, i32_w]
            rfl
          refine pure_ (i := 7) (N := some 41) (v := ?_) (a' := ?_) #[true, true, true, true, true, true, true, true, false, false, false, false, false, false, false, false, false, false, false, false] rfl rfl (any_of HT_.out (by kernel_rfl)) (fun _ _ _ h => h) (Or.inl ⟨by rfl, ?_⟩) ?_ ?_
          rotate_left
          · intro w'
            go_simp
            with_reducible rfl
          rotate_left
          · simp only [Act.put, List.setIfInBounds_toArray, List.set_cons_zero, List.set_cons_succ, i64_w, i32_w]
            rfl
          refine take_ (i := 8) (N := some 42) (v := ?_) (a' := ?_) #[true, true, true, true, true, true, true, true, true, false, false, false, false, false, false, false, false, false, false, false] rfl rfl (take_ofW HT_.out HW_.out (by kernel_rfl)) (fun _ _ _ h => h) (Or.inl ⟨by rfl, ?_⟩) hHeld ?_ ?_
          rotate_left
          · intro w' HS_
            have t_ := HS_.1.cell 0
            simp at t_
            go_simp
            with_reducible rfl
          rotate_left
          · simp only [Act.put, List.setIfInBounds_toArray, List.set_cons_zero, List.set_cons_succ, i64_w, i32_w]
            rfl
          refine pure_ (i := 9) (N := some 43) (v := ?_) (a' := ?_) #[true, true, true, true, true, true, true, true, true, true, false, false, false, false, false, false, false, false, false, false] rfl rfl (any_of HT_.out (by kernel_rfl)) (fun _ _ _ h => h) (Or.inl ⟨by rfl, ?_⟩) ?_ ?_
          rotate_left
          · intro w'
            go_simp
            with_reducible rfl
          rotate_left
          · simp only [Act.put, List.setIfInBounds_toArray, List.set_cons_zero, List.set_cons_succ, i64_w, i32_w]
            rfl
          refine pure_ (i := 10) (N := some 44) (v := ?_) (a' := ?_) #[true, true, true, true, true, true, true, true, true, true, true, false, false, false, false, false, false, false, false, false] rfl rfl (any_of HT_.out (by kernel_rfl)) (fun _ _ _ h => h) (Or.inl ⟨by rfl, ?_⟩) ?_ ?_
          rotate_left
          · intro w'
            go_simp
            with_reducible rfl
          rotate_left
          · simp only [Act.put, List.setIfInBounds_toArray, List.set_cons_zero, List.set_cons_succ, i64_w, i32_w]
            rfl
          refine pure_ (i := 11) (N := some 45) (v := ?_) (a' := ?_) #[true, true, true, true, true, true, true, true, true, true, true, true, false, false, false, false, false, false, false, false] rfl rfl (any_of HT_.out (by kernel_rfl)) (fun _ _ _ h => h) (Or.inl ⟨by rfl, ?_⟩) ?_ ?_
          rotate_left
          · intro w'
            go_simp
            with_reducible rfl
          rotate_left
          · simp only [Act.put, List.setIfInBounds_toArray, List.set_cons_zero, List.set_cons_succ, i64_w, i32_w]
            rfl
          refine pure_ (i := 12) (N := some 46) (v := ?_) (a' := ?_) #[true, true, true, true, true, true, true, true, true, true, true, true, true, false, false, false, false, false, false, false] rfl rfl (any_of HT_.out (by kernel_rfl)) (fun _ _ _ h => h) (Or.inl ⟨by rfl, ?_⟩) ?_ ?_
          rotate_left
          · intro w'
            go_simp
            with_reducible rfl
          rotate_left
          · simp only [Act.put, List.setIfInBounds_toArray, List.set_cons_zero, List.set_cons_succ, i64_w, i32_w]
            rfl
          refine take_ (i := 13) (N := some 47) (v := ?_) (a' := ?_) #[true, true, true, true, true, true, true, true, true, true, true, true, true, true, false, false, false, false, false, false] rfl rfl (take_ofW HT_.out HW_.out (by kernel_rfl)) (fun _ _ _ h => h) (Or.inl ⟨by rfl, ?_⟩) hHeld ?_ ?_
          rotate_left
          · intro w' HS_
            have t_ := HS_.1.cell 1
            simp at t_
            go_simp
            with_reducible rfl
          rotate_left
          · simp only [Act.put, List.setIfInBounds_toArray, List.set_cons_zero, List.set_cons_succ, i64_w, i32_w]
            rfl
          refine pure_ (i := 14) (N := some 48) (v := ?_) (a' := ?_) #[true, true, true, true, true, true, true, true, true, true, true, true, true, true, true, false, false, false, false, false] rfl rfl (any_of HT_.out (by kernel_rfl)) (fun _ _ _ h => h) (Or.inl ⟨by rfl, ?_⟩) ?_ ?_
          rotate_left
          · intro w'
            go_simp
            with_reducible rfl
          rotate_left
          · simp only [Act.put, List.setIfInBounds_toArray, List.set_cons_zero, List.set_cons_succ, i64_w, i32_w]
            rfl
          refine pure_ (i := 15) (N := some 49) (v := ?_) (a' := ?_) #[true, true, true, true, true, true, true, true, true, true, true, true, true, true, true, true, false, false, false, false] rfl rfl (any_of HT_.out (by kernel_rfl)) (fun _ _ _ h => h) (Or.inl ⟨by rfl, ?_⟩) ?_ ?_
          rotate_left
          · intro w'
            go_simp
            with_reducible rfl
          rotate_left
          · simp only [Act.put, List.setIfInBounds_toArray, List.set_cons_zero, List.set_cons_succ, i64_w, i32_w]
            rfl
          refine one_ (i := 16) (N := none) #[true, true, true, true, true, true, true, true, true, true, true, true, true, true, true, true, true, false, false, false] rfl rfl (one_of HT_.out (by kernel_rfl)) (by decide) (fun K hK => ?_)
          refine skip_ (w1 := ?_) (by rfl) rfl ?_ ?_
          rotate_left
          · go_simp
            rfl
          have hB5 := hHeld.1.far (p := ⟨g, m * 5 + 1, none⟩) hpg (.int .i64 3)
          have hC5 := hHeld.2.setCell (p := ⟨g, m * 5 + 1, none⟩) (.inl (by simp)) (.int .i64 3)
          have u4' : (w4.setCell ⟨g, m * 5 + 1, none⟩ (.int .i64 3)).cell? ⟨g, m * 5 + 4, none⟩ = some (.int .i64 f.f4) := by
            have hne : (⟨g, m * 5 + 1, none⟩ : Addr) ≠ ⟨g, m * 5 + 4, none⟩ := fun e => by injection e with _ e; omega
            rw [cell_set_ne_ hne]
            exact u4
          refine hK.out _ _ ⟨hB5, hC5⟩ (fun hHeld => ?_)
          clear hK K hB5 hC5
          refine pure_ (i := 17) (N := some 50) (v := ?_) (a' := ?_) #[true, true, true, true, true, true, true, true, true, true, true, true, true, true, true, true, true, true, false, false] rfl rfl (any_of HT_.out (by kernel_rfl)) (fun _ _ _ h => h) (Or.inl ⟨by rfl, ?_⟩) ?_ ?_
          rotate_left
          · intro w'
            go_simp
            with_reducible rfl
          rotate_left
          · simp only [Act.put, List.setIfInBounds_toArray, List.set_cons_zero, List.set_cons_succ, i64_w, i32_w]
            rfl
          refine pure_ (i := 18) (N := some 51) (v := ?_) (a' := ?_) #[true, true, true, true, true, true, true, true, true, true, true, true, true, true, true, true, true, true, true, false] rfl rfl (any_of HT_.out (by kernel_rfl)) (fun _ _ _ h => h) (Or.inl ⟨by rfl, ?_⟩) ?_ ?_
          rotate_left
          · intro w'
            go_simp
            with_reducible rfl
          rotate_left
          · simp only [Act.put, List.setIfInBounds_toArray, List.set_cons_zero, List.set_cons_succ, i64_w, i32_w]
            rfl
          refine last_ (i := 19) (N := none) #[true, true, true, true, true, true, true, true, true, true, true, true, true, true, true, true, true, true, true, true] rfl rfl (one_of HT_.out (by kernel_rfl)) (by decide) (fun K hK => ?_)
          refine skip_ (w1 := ?_) (by rfl) rfl ?_ ?_
          rotate_left
          · go_simp
            rfl
          have hB6 := hHeld.1.far (p := ⟨g, m * 5 + 4, none⟩) hpg (.int .i64 n)
          have hC6 := hHeld.2.setCell (p := ⟨g, m * 5 + 4, none⟩) (.inl (by simp)) (.int .i64 n)
          refine hK.out _ _ ?_
          clear hK K
          refine done_ (done_of HT_.out (by kernel_rfl)) ?_
          have hput := two_put HR4.out m hm n f HFD.out
          have hlen7 : ∀ W, Kd.R k43 43 W 0 (fun _ => True) (.slice (some ⟨g, 0, none⟩) ts.length c) ((FF ts').set m ⟨f.f0, 3, f.f2, f.f3, n⟩) → Kd.R k43 43 W 0 (fun _ => True) (.slice (some ⟨g, 0, none⟩) ts.length c) (FF (setAll n ts (ids.take (k + 1)))) := fun W h => by
            rw [HNX.out, HFS.out]; exact h
          have HR7 := Lib.hid (hlen7 _ hput)
          have HB7 := Lib.hid hB6
          have hC7 := hCw.trans (hC6.mono (fun x hx => by rw [List.mem_singleton] at hx; rw [hx]; exact hgS))
          clear hput hlen7 hB6 hC6 u1 u4 v1 v4 u4'
          go_wp2_with fail
          go_roundw
          case rel => exact ⟨k + 1, by omega, by first | rfl | (rw [w64n k (by omega)]), hC7, HB7, HR7⟩
          case measure =>
            first | rw [w64n k (by omega)] | skip
            simp [intOf]
            omega
        · have b0 : decide ((k : Int) < (ids.length : Int)) = false := by simp; omega
          obtain rfl : k = ids.length := by omega
          rw [List.take_length] at HRw
          have hc1 := HBw.out.cell 1
          have hf1 := HBw.out.frozen 1
          simp at hc1
          have hwn : wrap64 (n + 1) = n + 1 := by have := HN.out; unfold wrap64; omega
          have hwn2 : wrap64 (n + 1 - 1) = n := by have := HN.out; unfold wrap64; omega
          have HWN2 := Lib.hid hwn2
          have hz1 : (wr.setCell ⟨p, 1, none⟩ (.int .i64 (n + 1))).cell? ⟨p, 1, none⟩ = some (.int .i64 (n + 1)) := by
            have h := (HBw.out.set_ 1 (.int .i64 (n + 1))).cell 1
            simpa using h
          clear hwn2
          go_upto_region 16 with fail
          clear hwn hc1 hf1
          have hwn2 := HWN2.out
          go_wp2_with fail
          go_ret2
          have hwn3 : wrap64 n = n := by have := HN.out; clear hwn2 hz1; unfold wrap64; omega
          have hBl : Blk (wr.setCell ⟨p, 1, none⟩ (.int .i64 (n + 1))) p 93 #[.slice A ts.length c, .int .i64 (n + 1)] := by
            have h := HBw.out.set_ 1 (.int .i64 (n + 1))
            simpa using h
          have hRl : Kd.R k43 43 (wr.setCell ⟨p, 1, none⟩ (.int .i64 (n + 1))) 0 (fun _ => True) (.slice A ts.length c) (FF (setAll n ts ids)) := by
            refine Kd.R_set HRw.out HBw.out (fun q hq => ?_) 1 _
            have hE : k43.E = [] := rfl
            rw [hE] at hq
            simp at hq
            omega
          exact .inr ⟨HOK.out, congrArg (fun z => Ending.returned (.tuple #[.int .i64 z, .int .i64 0])) hwn3, _, ⟨_, rfl, hBl, hRl⟩, hCw.setCell (.inl (by simp)) _, fun x hx => .inl hx⟩
end Go.Proofs.Ytlbfnnngemonoaa.Fat
