/- tape.Decode: bytes are read as calls just as rdD says. -/
import Derived.Test.YtlbfnnngemonoaaTapRd
namespace Go.Proofs.Ytlbfnnngemonoaa.Wir
open Go.RowKit Go.Proofs.Ytlbfnnngemonoaa.PWireReads
open Go.Proofs.Ytlbfnnngemonoaa.Fat (Blk Chg Off chg_opt)
open Go.Proofs.YtlbfnnngemonoaaW.PrintWords Go.Proofs.YtlbfnnngemonoaaW.PrintLast Go.Proofs.YtlbfnnngemonoaaW.PrintMore
set_option linter.unusedVariables false
set_option linter.unusedSimpArgs false

def T36 : Bool × List (List Nat × List Nat) := (true, [([], []), ([], []), ([1], [1]), ([0, 2], [0, 2]), ([], []), ([], []), ([4, 5], [4, 5]), ([3, 3, 0, 1, 2, 3], [0, 3]), ([6, 7, 0, 1, 2, 3, 4, 5, 6, 7], [4, 6])])
def B36 : List Nat := [0, 0, 2, 7, 0, 0, 48, 15, 255]
theorem tab36 : rtab .any (opsOf Try.f36 9) = T36 := by kernel_rfl
theorem bits36 : waitsOk T36.2 B36 = true := by kernel_rfl

theorem info123 : (Try.prog.info? 123).map (fun i => (i.zero, i.size, i.bytes)) = some (some zCall, kCl.sz, 64) := by kernel_rfl
theorem take_str {w W : World} {A : Option Addr} {c : Nat} {l : List Int} (hC : Kd.C (Kd.int .u8) w A l.length l) (hb : Below w.heap.size w W) (n : Nat) (hn : n ≤ l.length) : (convert 45 9 (.slice A n c)).run Try.prog W = .ok (.string (strOfNums (l.take n))) W := by
  have h := Kd.C_take (Kd.C_below hC hb) hn
  have e : (l.take n).length = n := by rw [List.length_take]; omega
  rw [e] at h
  exact Kd.C_string Try.underlying45 Try.underlying5 Try.underlying9 h
theorem str_cmt (l : List Int) (hB : By l) : ((strOfNums l).toList == [67, 77, 84, 49]) = decide (l = [67, 77, 84, 49]) := by
  have e : (strOfNums l).toList = l.map fun n : Int => UInt8.ofNat n.toNat := by rw [ByteArray.toList_eq]; simp [strOfNums]
  by_cases h : l = [67, 77, 84, 49]
  · rw [e, h]
    rfl
  · rw [decide_eq_false h, beq_eq_false_iff_ne, e]
    intro hq
    apply h
    have h2 := congrArg (List.map fun b : UInt8 => (b.toNat : Int)) hq
    rw [List.map_map] at h2
    have h3 : l.map ((fun b : UInt8 => (b.toNat : Int)) ∘ fun n : Int => UInt8.ofNat n.toNat) = l := by
      have : ∀ x ∈ l, ((fun b : UInt8 => (b.toNat : Int)) ∘ fun n : Int => UInt8.ofNat n.toNat) x = x := fun x hx => by
        have := hB x hx
        simp
        omega
      conv => rhs; rw [← List.map_id l]
      exact List.map_congr_left this
    rw [h3] at h2
    exact h2
theorem decC_nil (k : Nat) (l : List Int) (h : l.length = 0) : decC k l = some [] := by
  cases k <;> rw [decC, if_pos h]
def lenV : Value → Nat
  | .slice _ n _ => n
  | _ => 0
/-- What tape.Decode leaves. -/
def DPost (w : World) (o : Option (List Cl)) (e : Ending) (w' : World) : Prop :=
  Below w.heap.size w w' ∧ match o with
    | none => e = .returned (.tuple #[.slice none 0 0, .int .i64 260])
    | some xs => ∃ Av cv, e = .returned (.tuple #[.slice Av xs.length cv, .int .i64 0]) ∧ Kd.R kCl 123 w' w.heap.size (fun _ => True) (.slice Av xs.length cv) xs
set_option maxRecDepth 20000 in
set_option maxHeartbeats 4000000 in
theorem dec_any (A : Option Addr) (c : Nat) (l : List Int) (w : World) (hC : Kd.C (Kd.int .u8) w A l.length l) (hc : l.length ≤ c) (hB : By l) (hl : l.length ≤ 140737488355328) :
    Calls Try.prog 36 #[.slice A l.length c] w (DPost w (rdD l)) := by
  obtain ⟨PP, hPP⟩ : ∃ PP, DPost w (rdD l) = PP := ⟨_, rfl⟩
  rw [hPP]
  have HPP := Lib.hid hPP
  clear hPP
  have HC := Lib.hid hC
  have HBy := Lib.hid hB
  by_cases h4 : l.length < 4
  · have b0 : decide ((l.length : Int) < 4) = true := by simp; omega
    have b1 : decide (l.length < 4) = true := by simp; omega
    have hr : rdD l = none := by rw [rdD, if_pos (.inl h4)]
    rw [hr] at HPP
    clear hC hB hr
    go_enter Try.func36, Try.ntmps36
    go_wp2_with fail
    rw [← HPP.out]
    exact ⟨Below.refl _ _, rfl⟩
  · have b0 : decide ((l.length : Int) < 4) = false := by simp; omega
    have b1 : decide (l.length < 4) = false := by simp; omega
    have hcut4 := fun W => cutTo A l.length c 4 (by omega) (by omega) hc W
    have hstr : ∀ W, Below w.heap.size w W → (convert 45 9 (.slice A 4 c)).run Try.prog W = .ok (.string (strOfNums (l.take 4))) W := fun W h => take_str hC h 4 (by omega)
    have hstr := hstr w (Below.refl _ _)
    have hcmp := str_cmt (l.take 4) (hB.take 4)
    by_cases h5 : l.take 4 = [67, 77, 84, 49]
    · have hs4 : strOfNums (l.take 4) = { data := #[67, 77, 84, 49] } := by rw [h5]; rfl
      rw [hs4] at hstr
      clear hcmp hs4
      have hr : rdD l = decC 4096 (l.drop 4) := by rw [rdD, if_neg (by intro h; rcases h with h | h; exact h4 h; exact h h5)]
      obtain ⟨A1, c1, hcut, hc1, hC1⟩ := cutBy A c l w hC hc 4 (by omega)
      have hcut : ∀ W : World, (Instr.slice 45 (.slice A l.length c) (some (.int .i64 4)) none none).run Try.prog W = .ok (.slice A1 (l.drop 4).length c1) W := hcut
      have HBy2 := Lib.hid (hB.drop 4)
      have HLD : Hid ((l.drop 4).length ≤ l.length) := Lib.hid (by rw [List.length_drop]; omega)
      rw [hr] at HPP
      generalize l.drop 4 = l1 at hcut hc1 hC1 HBy2 HLD HPP
      have HC1 := Lib.hid hC1
      have HC0 := Lib.hid hc1
      clear hC hB hr hC1 h5 HC HBy
      go_enter Try.func36, Try.ntmps36
      go_wp2_with fail
      clear hcut4 hstr b0 b1 hcut hc1
      go_loopw [0, 4] (fun b u wr => ∃ (k : Nat) (rest : List Int) (cs : List Cl) (A' : Option Addr) (c' : Nat), b = .slice A' rest.length c' ∧ rest.length ≤ c' ∧ Hid (Kd.C (Kd.int .u8) w A' rest.length rest) ∧ Hid (By rest) ∧ Hid (rest.length ≤ l1.length) ∧ Hid (cs.length + k = 4096) ∧ Hid (decC 4096 l1 = (decC k rest).map (cs ++ ·)) ∧ Hid (Kd.R kCl 123 wr w.heap.size (fun _ => True) u cs) ∧ Hid (Below w.heap.size w wr)) (fun b _ _ => lenV b)
      case atStart => exact ⟨4096, l1, [], A1, c1, rfl, HC0.out, HC1, HBy2, Lib.hid (Nat.le_refl _), Lib.hid rfl, Lib.hid (by simp), Lib.hid (Kd.R_nil _ _ _ _ _), Lib.hid (Below.refl _ _)⟩
      case round =>
        obtain ⟨k, rest, cs, A', c', rfl, hc', HC', HB', HLr, HK, HN, HO, HB⟩ := hrel
        obtain ⟨Au, cu, rfl⟩ := Kd.R_slice HO.out
        have HCL : Hid (cs.length ≤ 4096) := Lib.hid (by have := HK.out; omega)
        by_cases h0 : rest.length = 0
        · have b1 : decide ((0 : Int) < (rest.length : Int)) = false := by rw [h0]; rfl
          have b2 : decide (0 < rest.length) = false := by rw [h0]; rfl
          have hr : decC 4096 l1 = some cs := by rw [HN.out, decC_nil _ _ h0]; simp
          rw [hr] at HPP
          clear hr
          go_wp2_with fail
          rw [← HPP.out]
          exact ⟨HB.out, Au, cu, rfl, HO.out⟩
        · have b1 : decide ((0 : Int) < (rest.length : Int)) = true := decide_eq_true (by omega)
          have b2 : decide (0 < rest.length) = true := decide_eq_true (by omega)
          have H1 := Lib.hid (one_u A' c' rest wr (Kd.C_below HC'.out HB.out) hc' HB'.out (by omega) (by have := HLr.out; have := HLD.out; omega))
          generalize hx : rdC rest = o at H1
          have HX := Lib.hid hx
          clear hx
          cases o with
          | none =>
            have hr : decC 4096 l1 = none := by
              rw [HN.out]
              cases k with
              | zero => rw [decC, if_neg h0]; rfl
              | succ k => rw [decC, if_neg h0, HX.out]; rfl
            rw [hr] at HPP
            clear hr
            go_wp2_with fail
            refine H1.out.mono ?_
            rintro e w1 ⟨Ax, cx, he, hX, hb1⟩
            have he : e = .returned (.tuple #[.agg #[.int .i64 0, .string { data := #[] }, .int .i64 0, .slice Ax 0 cx, .int .i64 0], .int .i64 0]) := he
            subst he
            have hb2 := HB.out.trans (hb1.mono HB.out.size)
            have HB2 := Lib.hid hb2
            clear hX hb1 hb2 H1
            go_wp2_with fail
            rw [← HPP.out]
            exact ⟨below_alloc HB2.out _, rfl⟩
          | some xn =>
            obtain ⟨x, n⟩ := xn
            obtain ⟨hn1, hn2, hgx, hpx⟩ := rdC_good HX.out
            cases k with
            | zero =>
              have hr : decC 4096 l1 = none := by rw [HN.out, decC, if_neg h0]; rfl
              rw [hr] at HPP
              clear hr
              have e0 : ((n : Int) == 0) = false := by rw [beq_eq_false_iff_ne]; omega
              have e1 : ((cs.length : Int) == 4096) = true := by rw [beq_iff_eq]; have := HK.out; omega
              clear hn1 hn2 hgx hpx
              go_wp2_with fail
              refine H1.out.mono ?_
              rintro e w1 ⟨Ax, cx, he, hX, hb1⟩
              have he : e = .returned (.tuple #[.agg #[.int .i64 x.k, .string x.s, .int .i64 x.t, .slice Ax x.p.length cx, .int .i64 x.r], .int .i64 n]) := he
              subst he
              have hb2 := HB.out.trans (hb1.mono HB.out.size)
              have HB2 := Lib.hid hb2
              clear hX hb1 hb2 H1
              go_wp2_with fail
              rw [← HPP.out]
              exact ⟨below_alloc HB2.out _, rfl⟩
            | succ k =>
              have hr : decC 4096 l1 = (decC k (rest.drop n)).map ((cs ++ [x]) ++ ·) := by
                rw [HN.out, decC, if_neg h0, HX.out]
                simp [Option.map_map, Function.comp_def]
              have HR := Lib.hid hr
              have HKK : Hid (cs.length + 1 ≤ 4096) := Lib.hid (by have := HK.out; omega)
              have HKN : Hid ((cs ++ [x]).length + k = 4096) := Lib.hid (by have := HK.out; simp; omega)
              have e0 : ((n : Int) == 0) = false := by rw [beq_eq_false_iff_ne]; omega
              have e1 : ((cs.length : Int) == 4096) = false := by rw [beq_eq_false_iff_ne]; have := HK.out; omega
              obtain ⟨A2, c2, hcut2, hc2, hC2⟩ := cutBy A' c' rest w HC'.out hc' n hn2
              have HC2 := Lib.hid hC2
              have HB'2 := Lib.hid (HB'.out.drop n)
              have HL2 : Hid ((rest.drop n).length < rest.length) := Lib.hid (by rw [List.length_drop]; omega)
              generalize rest.drop n = rest2 at hcut2 hc2 HC2 HB'2 HL2 HR
              have HC2' := Lib.hid hc2
              have HL3 : Hid (rest2.length ≤ l1.length) := Lib.hid (by have := HL2.out; have := HLr.out; omega)
              clear hn1 hn2 hgx hpx hC2 hr hc2
              go_wp2_with fail
              refine H1.out.mono ?_
              rintro e w1 ⟨Ax, cx, he, hX, hb1⟩
              have he : e = .returned (.tuple #[.agg #[.int .i64 x.k, .string x.s, .int .i64 x.t, .slice Ax x.p.length cx, .int .i64 x.r], .int .i64 n]) := he
              subst he
              have hX : Kd.R kV 50 w1 wr.heap.size (fun _ => True) (.slice Ax x.p.length cx) x.p := hX
              have hOw := HO.out
              have HOW0 : Hid (∀ k, (Value.slice Au cs.length cu).ownBlock = some k → k < wr.heap.size) := Lib.hid (fun k hk => own_lt (Kd.R_own hOw).choose_spec k hk)
              obtain ⟨q0, hq0⟩ : ∃ q0, wr.heap.size = q0 := ⟨_, rfl⟩
              have HO1 := Lib.hid (Kd.R_below hOw hb1)
              have hX1 := Kd.R_mono (Kd.R_bound hX) (ok' := fun k => q0 ≤ k) (fun k hk => by rw [← hq0]; exact hk.2.1)
              have HX1 := Lib.hid (Kd.R_lower hX1 HB.out.size)
              have HB1 := Lib.hid (HB.out.trans (hb1.mono HB.out.size))
              have hs1 := hb1.size
              rw [hq0] at HOW0 hs1
              clear hX hb1 hX1 hOw H1
              go_upto_region 7 with fail
              obtain ⟨q, hq⟩ : ∃ q, w1.heap.size = q := ⟨_, rfl⟩
              have hblk := Blk.new w1 123 #[.int .i64 x.k, .string x.s, .int .i64 x.t, .slice Ax x.p.length cx, .int .i64 x.r]
              rw [hq] at hblk ⊢
              have HOWN : Hid (∀ k, (Value.slice Au cs.length cu).ownBlock = some k → k < q) := Lib.hid (fun k hk => by have := HOW0.out k hk; omega)
              have HO3 := Lib.hid (Kd.R_alloc HO1.out (.cells #[.int .i64 x.k, .string x.s, .int .i64 x.t, .slice Ax x.p.length cx, .int .i64 x.r] 123))
              have HX3 := Lib.hid (Kd.R_step HX1.out (w1 := w1.alloc (.cells #[.int .i64 x.k, .string x.s, .int .i64 x.t, .slice Ax x.p.length cx, .int .i64 x.r] 123)) (fun k _ hk => ((Below.refl w1.heap.size w1).alloc (Nat.le_refl _) (.cells #[.int .i64 x.k, .string x.s, .int .i64 x.t, .slice Ax x.p.length cx, .int .i64 x.r] 123)).block k hk))
              have HB3 := Lib.hid (below_alloc HB1.out (.cells #[.int .i64 x.k, .string x.s, .int .i64 x.t, .slice Ax x.p.length cx, .int .i64 x.r] 123))
              clear hs1 hq hq0
              generalize w1.alloc (.cells #[.int .i64 x.k, .string x.s, .int .i64 x.t, .slice Ax x.p.length cx, .int .i64 x.r] 123) = W3 at hblk HO3 HX3 HB3 ⊢
              go_upto_region 9 with fail
              refine start_ (n := 9) (S := fun w' => Blk w' q 123 #[.int .i64 x.k, .string x.s, .int .i64 x.t, .slice Ax x.p.length cx, .int .i64 x.r]) (ds := []) #[false, false, false, false, false, false, false, false, false] (by kernel_rfl) rfl rfl hblk.drew (fun hHeld => ?_)
              refine with_tabW tab36 bits36 (fun HT_ HW_ => ?_)
              have HO4 := Lib.hid (Kd.R_below HO3.out (Below.refl _ W3).drew)
              have HX4 := Lib.hid (Kd.R_below HX3.out (Below.refl _ W3).drew)
              have HB4 := Lib.hid (HB3.out.drew)
              generalize W3.drew = W4 at hHeld HO4 HX4 HB4 ⊢
              refine pure_ (i := 0) (N := some 33) (v := ?_) (a' := ?_) #[true, false, false, false, false, false, false, false, false] rfl rfl (any_of HT_.out (by kernel_rfl)) (fun _ _ _ h => h) (Or.inl ⟨by rfl, ?_⟩) ?_ ?_
              rotate_left
              · intro w'
                go_simp
                with_reducible rfl
              rotate_left
              · simp only [Act.put, List.setIfInBounds_toArray, List.set_cons_zero, List.set_cons_succ, i64_w, i32_w]
                rfl
              refine take_ (i := 1) (N := some 34) (v := ?_) (a' := ?_) #[true, true, false, false, false, false, false, false, false] rfl rfl (take_ofW HT_.out HW_.out (by kernel_rfl)) (fun _ _ _ h => h) (Or.inl ⟨by rfl, ?_⟩) hHeld ?_ ?_
              rotate_left
              · intro w' HS_
                have s0 := HS_.cell 0
                have s1 := HS_.cell 1
                have s2 := HS_.cell 2
                have s3 := HS_.cell 3
                have s4 := HS_.cell 4
                simp at s0 s1 s2 s3 s4
                go_simp
                with_reducible rfl
              rotate_left
              · simp only [Act.put, List.setIfInBounds_toArray, List.set_cons_zero, List.set_cons_succ, i64_w, i32_w]
                rfl
              refine pure_ (i := 4) (N := some 37) (v := ?_) (a' := ?_) #[true, true, false, false, true, false, false, false, false] rfl rfl (any_of HT_.out (by kernel_rfl)) (fun _ _ _ h => h) (Or.inl ⟨by rfl, ?_⟩) ?_ ?_
              rotate_left
              · intro w'
                go_simp
                with_reducible rfl
              rotate_left
              · simp only [Act.put, List.setIfInBounds_toArray, List.set_cons_zero, List.set_cons_succ, i64_w, i32_w]
                rfl
              refine pure_ (i := 5) (N := some 38) (v := ?_) (a' := ?_) #[true, true, false, false, true, true, false, false, false] rfl rfl (any_of HT_.out (by kernel_rfl)) (fun _ _ _ h => h) (Or.inl ⟨by rfl, ?_⟩) ?_ ?_
              rotate_left
              · intro w'
                go_simp
                with_reducible rfl
              rotate_left
              · simp only [Act.put, List.setIfInBounds_toArray, List.set_cons_zero, List.set_cons_succ, i64_w, i32_w]
                rfl
              refine pure_ (i := 6) (N := some 39) (v := ?_) (a' := ?_) #[true, true, false, false, true, true, true, false, false] rfl rfl (any_of HT_.out (by kernel_rfl)) (fun _ _ _ h => h) (Or.inl ⟨by rfl, ?_⟩) ?_ ?_
              rotate_left
              · intro w'
                go_simp
                with_reducible rfl
              rotate_left
              · simp only [Act.put, List.setIfInBounds_toArray, List.set_cons_zero, List.set_cons_succ, i64_w, i32_w]
                rfl
              refine one_ (i := 2) (N := some 35) #[true, true, true, false, true, true, true, false, false] rfl rfl (one_of HT_.out (by kernel_rfl)) (by decide) (fun K hK => ?_)
              refine value_ (w1 := ?_) (v := ?_) (by rfl) rfl ?_ ?_
              rotate_left 2
              · go_simp
                constructor
                · rfl
                · rfl
              have hba : Below W4.heap.size W4 (W4.alloc (.cells #[.int .i64 x.k, .string x.s, .int .i64 x.t, .slice Ax x.p.length cx, .int .i64 x.r] 123)) := (Below.refl _ W4).alloc (Nat.le_refl _) _
              refine hK.out _ _ (hHeld.below hba hHeld.lt) (fun hHeld2 => ?_)
              clear hK K
              refine norm_ (a' := ?_) ?_ ?_
              rotate_left
              · show Act.put _ (some 35) _ = _
                simp only [Act.put, List.setIfInBounds_toArray, List.set_cons_zero, List.set_cons_succ, i64_w, i32_w]
                rfl
              refine one_ (i := 3) (N := some 36) #[true, true, true, true, true, true, true, false, false] rfl rfl (one_of HT_.out (by kernel_rfl)) (by decide) (fun K hK => ?_)
              have hown : ∀ k, (Value.slice Au cs.length cu).ownBlock = some k → k < q := HOWN.out
              refine Kd.R_append_step kCl (w0 := w) w.heap.size (by rfl) (.tmp 33) (.tmp 35) 83 123 zCall 64 rfl Try.underlying83 info123 rfl (by decide) (by omega) (.slice Au cs.length cu) cs x [.int .i64 x.k, .string x.s, .int .i64 x.t, .slice Ax x.p.length cx, .int .i64 x.r] (fun _ => True) (fun k => q0 ≤ k) rfl rfl (kCl_mkM HX4.out) (fun k hk => ⟨trivial, fun e => by have := HOW0.out k e.symm; omega⟩) (fun _ _ => trivial) HO4.out HB4.out HB4.out.size (by have := HKK.out; omega) ?_
              intro va wa hRa hba2 hga hata
              have HRa := Lib.hid hRa
              have HBa := Lib.hid hba2
              refine hK.out _ _ (hHeld.chg (chg_opt hga) (fun hx => by have := hown q (by simpa using hx); omega)) (fun hHeld3 => ?_)
              clear hK K hRa hba2 hga hata hown hba
              refine norm_ (a' := ?_) ?_ ?_
              rotate_left
              · show Act.put _ (some 36) _ = _
                simp only [Act.put, List.setIfInBounds_toArray, List.set_cons_zero, List.set_cons_succ, i64_w, i32_w]
                rfl
              refine pure_ (i := 7) (N := some 4) (v := ?_) (a' := ?_) #[true, true, true, true, true, true, true, true, false] rfl rfl (any_of HT_.out (by kernel_rfl)) (fun _ _ _ h => h) (Or.inl ⟨by rfl, ?_⟩) ?_ ?_
              rotate_left
              · intro w'
                go_simp
                with_reducible rfl
              rotate_left
              · simp only [Act.put, List.setIfInBounds_toArray, List.set_cons_zero, List.set_cons_succ, i64_w, i32_w]
                rfl
              refine pure_ (i := 8) (N := some 0) (v := ?_) (a' := ?_) #[true, true, true, true, true, true, true, true, true] rfl rfl (any_of HT_.out (by kernel_rfl)) (fun _ _ _ h => h) (Or.inl ⟨by rfl, ?_⟩) ?_ ?_
              rotate_left
              · intro w'
                go_simp
                with_reducible rfl
              rotate_left
              · simp only [Act.put, List.setIfInBounds_toArray, List.set_cons_zero, List.set_cons_succ, i64_w, i32_w]
                rfl
              refine done_ (done_of HT_.out (by kernel_rfl)) ?_
              clear HT_ HW_
              go_wp2_with fail
              go_roundw
              case rel => exact ⟨k, rest2, cs ++ [x], A2, c2, rfl, HC2'.out, HC2, HB'2, HL3, HKN, HR, HRa, HBa⟩
              case measure =>
                simp [lenV]
                exact HL2.out
    · rw [decide_eq_false h5] at hcmp
      generalize strOfNums (l.take 4) = s4 at hstr hcmp
      have hr : rdD l = none := by rw [rdD, if_pos (.inr h5)]
      rw [hr] at HPP
      clear hC hB hr
      go_enter Try.func36, Try.ntmps36
      go_wp2_with fail
      rw [← HPP.out]
      exact ⟨Below.refl _ _, rfl⟩
end Go.Proofs.Ytlbfnnngemonoaa.Wir
