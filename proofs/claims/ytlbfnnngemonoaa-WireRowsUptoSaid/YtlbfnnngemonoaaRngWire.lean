/- The law WireRows: the messages that are told are those that the document reads one behind the other. -/
import Derived.Test.YtlbfnnngemonoaaRngBase
namespace Go.Proofs.Ytlbfnnngemonoaa.Wir
open Go.RowKit Go.Proofs.Ytlbfnnngemonoaa.PWireReads
open Go.Proofs.Ytlbfnnngemonoaa.Fat (Blk Chg Off chg_opt)
open Go.Proofs.YtlbfnnngemonoaaW.PrintWords Go.Proofs.YtlbfnnngemonoaaW.PrintLast Go.Proofs.YtlbfnnngemonoaaW.PrintMore
set_option linter.unusedVariables false
set_option linter.unusedSimpArgs false
attribute [local go_sem] Oper.semAt_some
theorem hold_it6 {p : Prop} (h : _root_.id p) : p := h
/-- How far the document has read: k messages, the next at p; its Reading at rd, its two rows in the boxes bw and bp. -/
def Got (W0 W4 : World) (L : List Int) (rd bw bp k p : Nat) (wr : World) : Prop :=
  Pos L k p ∧ IsS62 W0 wr rd L p false ∧ Chg [rd, bw, bp] W4 wr ∧ (∃ u1, Blk wr bw 72 #[u1] ∧ Kd.R kMs 57 wr W4.heap.size (fun _ => True) u1 (((allM L).take k).map Prod.fst)) ∧ (∃ u2, Blk wr bp 31 #[u2] ∧ Kd.R (Kd.int .i64) 3 wr W4.heap.size (fun _ => True) u2 (((allM L).take k).map fun x => (x.2 : Int)))
theorem three_blk (w : World) (t1 t2 t3 : TypeId) (x y z : Array Value) : Blk (((w.alloc (.cells x t1)).alloc (.cells y t2)).alloc (.cells z t3)) w.heap.size t1 x ∧ Blk (((w.alloc (.cells x t1)).alloc (.cells y t2)).alloc (.cells z t3)) (w.heap.size + 1) t2 y ∧ Blk (((w.alloc (.cells x t1)).alloc (.cells y t2)).alloc (.cells z t3)) (w.heap.size + 2) t3 z ∧ Below w.heap.size w (((w.alloc (.cells x t1)).alloc (.cells y t2)).alloc (.cells z t3)) := by
  obtain ⟨h1, h2, h3⟩ := two_new w x y t1 t2
  have h4 := Blk.new ((w.alloc (.cells x t1)).alloc (.cells y t2)) t3 z
  simp at h4
  exact ⟨h1.alloc _, h2.alloc _, h4, h3.alloc (by simp; omega) _⟩
theorem RS_chg {w0 w w' : World} {g : Nat} {L : List Int} {at1 : Nat} {b1 : Bool} (h : RS w0 w w' g L at1 b1) (hb : Below w0.heap.size w0 w) (G : List Nat) (hg : g ∈ G) : Chg G w w' :=
  ⟨h.2.1.os.trans hb.os.symm, h.2.1.tape.trans hb.tape.symm, h.2.1.output.trans hb.output.symm, h.2.2.1, fun k hk hx => h.2.2.2 k hk (fun e => hx (e ▸ hg)) (by simp)⟩
theorem chg_below {G : List Nat} {a b c : World} (h : Chg G a b) (hb : Below a.heap.size b c) : Chg G a c :=
  ⟨hb.os.trans h.os, hb.tape.trans h.tape, hb.output.trans h.output, Nat.le_trans h.size hb.size, fun k hk hx => (hb.block k hk).trans (h.block k hk hx)⟩
theorem q74 (b : Nat) (w : World) : (binOp .eql 74 (.func (.func 63) #[] #[.pointer (some ⟨b, 0, none⟩)]) .nilFunc).run Try.prog w = .ok (.bool false) w := by kernel_rfl
theorem below_put {n : Nat} {w W : World} (h : Below n w W) (hn : n ≤ W.heap.size) (r : Nat) (o : Obj) (hr : n ≤ r) : Below n w (W.putObj r o) := h.grown (grownBy_putObj' W r o) hn (fun k e => by injection e with e; omega)
theorem obj_calm {B D : Nat} {o : Obj} (hD : D < B) : Calm B (fun W => W.heap[D]? = some o) := fun W W' row h hg hr =>
  (hg.block D (heap_lt' h) (fun e => by obtain ⟨h1, _⟩ := hr D e.symm; omega)).trans h
theorem results_bool {P : Program} {fn : Func} {p : Tmp} {ty : TypeId} (h : fn.results = #[.cell p ty]) (hu : P.underlying ty = some .bool) (tmps : Array Value) (w : World) (g : Nat) (v : Bool) (hp : tmps.getD p undef = .pointer (some ⟨g, 0, none⟩)) (hc : w.cell? ⟨g, 0, none⟩ = some (.bool v)) : (results fn tmps).run P w = .ok (.bool v) w := by
  have hp' : tmps[p]?.getD undef = .pointer (some ⟨g, 0, none⟩) := by simpa using hp
  simp [results, h, hp', asAddr, loadVar, isAgg, run_underlying hu, hc]
theorem below_calm {n₀ B : Nat} {w₀ : World} (hn : n₀ ≤ w₀.heap.size) (hB : n₀ ≤ B) : Calm B (fun W => Below n₀ w₀ W) := fun W W' row h hg hr => h.grown hg (Nat.le_trans hn h.size) (fun k e => Nat.le_trans hB (hr k e).1)
theorem msgs_good : ∀ (f : Nat) (l : List Int) (p k : Nat) (m : M) (q : Nat), (msgs f l p)[k]? = some (m, q) → (∀ v ∈ m.pl, Good v) ∧ m.pl.length ≤ 4096 := by
  intro f
  induction f with
  | zero => intro l p k m q h; rw [msgs] at h; simp at h
  | succ f ih =>
    intro l p k m q h
    rw [msgs] at h
    split at h
    · simp at h
    · rename_i m0 n0 hr
      rcases k with _ | k
      · simp at h
        obtain ⟨rfl, _⟩ := h
        obtain ⟨h1, h2, _⟩ := rdM_good _ _ _ hr
        exact ⟨h1, by omega⟩
      · exact ih _ _ k m q (by simpa using h)
theorem allM_good {L : List Int} {k q : Nat} {m : M} (h : (allM L)[k]? = some (m, q)) : (∀ v ∈ m.pl, Good v) ∧ m.pl.length ≤ 4096 := msgs_good _ _ _ _ _ _ h
def T17 : Bool × List (List Nat × List Nat) := (true, [([], []), ([], []), ([1], [1]), ([0, 2], [0, 2]), ([3], [3]), ([4], [4]), ([4], [4]), ([4], [4]), ([6, 7, 4], [4, 6, 7]), ([8, 4], [4, 8]), ([5, 9, 4, 4], [4, 5, 9]), ([10, 4], [4, 10]), ([4, 11], [4, 11]), ([12, 10], [12]), ([13], [13]), ([13], [13]), ([13], [13]), ([15, 16, 13], [13, 15, 16]), ([17, 13], [13, 17]), ([14, 18, 13], [13, 14, 18]), ([13, 19], [13, 19])])
def B17 : List Nat := [0, 0, 2, 7, 15, 31, 31, 31, 223, 479, 1023, 2047, 4095, 8191, 16383, 16383, 16383, 114687, 245759, 524287, 1048575]
theorem tab17 : rtab .any (opsOf Try.f6 17) = T17 := by kernel_rfl
theorem tab30 : rtab .any (opsOf Try.f6 30) = T17 := by kernel_rfl
theorem bits17 : waitsOk T17.2 B17 = true := by kernel_rfl
theorem allM_len (L : List Int) : (allM L).length ≤ L.length + 1 := by
  have : ∀ (f : Nat) (l : List Int) (p : Nat), (msgs f l p).length ≤ f := by
    intro f
    induction f with
    | zero => intro l p; rw [msgs]; exact Nat.le_refl _
    | succ f ih =>
      intro l p
      rw [msgs]
      split
      · simp
      · simp only [List.length_cons]; have := ih (l.drop (by assumption)) (p + (by assumption)); omega
  exact this _ _ _
set_option maxRecDepth 20000 in
set_option maxHeartbeats 8000000 in
theorem wirerows_any (most : Int) (A : Option Addr) (c : Nat) (l : List Int) (w : World) (hC : Kd.C (Kd.int .u8) w A l.length l) (hc : l.length ≤ c) (hl : l.length ≤ 1048576) (hBy : By l) :
    Calls Try.prog 6 #[.slice A l.length c, .int .i64 most] w fun e w' => e = .returned (.bool true) ∧ Below w.heap.size w w' := by
  have HC := Lib.hid hC
  have HBy := Lib.hid hBy
  have HT := Lib.hid (two_new w #[.int .i64 most] #[.bool false] 3 4)
  have HLN := Lib.hid (fun (W : World) (h : Below w.heap.size w W) => lent_any A c l W (Kd.C_below hC h) (by omega))
  clear hC hBy
  refine (callsIn_wide (n := 1)).1 (callsIn_of_wp_marks Try.func6 rfl trivial (wpIn_wide.2 ?_) rfl)
  simp only [Try.ntmps6, List.size_toArray, List.length_cons, List.length_nil, Nat.reduceAdd, Nat.reduceSub, Array.replicate_succ, Array.replicate_zero, List.push_toArray, List.append_toArray, List.nil_append, List.cons_append]
  generalize hPP : bodyPostM Fence.wide 1 Try.prog Try.f6 (fun e w' => e = .returned (.bool true) ∧ Below w.heap.size w w') = PP
  have HPP := Lib.hid hPP
  clear hPP
  go_upto_region 1 with fail
  obtain ⟨a0, a1, hb⟩ := HT.out
  generalize ((w.alloc (.cells #[.int .i64 most] 3)).alloc (.cells #[.bool false] 4)) = W1 at a0 a1 hb ⊢
  have HA0 := Lib.hid a0
  have HA1 := Lib.hid a1
  have HB1 := Lib.hid hb
  clear a0 a1 hb HT
  go_wp2_with fail
  refine (HLN.out W1 HB1.out).mono ?_
  rintro _ w2 ⟨gl, cap, rfl, hLent, hcap, hb2⟩
  have HA2 := Lib.hid (HA0.out.below hb2 HA0.out.lt)
  have HA3 := Lib.hid (HA1.out.below hb2 HA1.out.lt)
  have HB2 := Lib.hid (HB1.out.trans (hb2.mono HB1.out.size))
  have HLent := Lib.hid (Kd.R_lower hLent HB1.out.size)
  have hs12 : w.heap.size + 1 < w2.heap.size := HA3.out.lt
  clear hb2 hLent HA0 HA1 HB1 HLN
  have HT3 := Lib.hid (three_blk w2 72 31 62 #[.slice none 0 0] #[.slice none 0 0] #[.slice A l.length c, .int .i64 0, .bool false])
  go_wp2_with fail
  obtain ⟨c1, c2, c3, cb⟩ := HT3.out
  generalize (((w2.alloc (.cells #[.slice none 0 0] 72)).alloc (.cells #[.slice none 0 0] 31)).alloc (.cells #[.slice A l.length c, .int .i64 0, .bool false] 62)) = W4 at c1 c2 c3 cb ⊢
  obtain ⟨bw, hbw⟩ : ∃ bw, w2.heap.size = bw := ⟨_, rfl⟩
  rw [hbw] at c1 c2 c3 hs12 ⊢
  have hb24 : Below w.heap.size w W4 := HB2.out.trans (cb.mono HB2.out.size)
  have hbase : bw + 2 < W4.heap.size := c3.lt
  have HG0 : Hid (Got w W4 l (bw + 2) bw (bw + 1) 0 0 W4) := Lib.hid ⟨Pos.start l, ⟨A, c, c3, by omega, HC.out, hc⟩, Chg.refl _ _, ⟨_, c1, Kd.R_nil _ _ _ _ _⟩, ⟨_, c2, Kd.R_nil _ _ _ _ _⟩⟩
  have HA5 := Lib.hid (HA2.out.below cb HA2.out.lt)
  have HA6 := Lib.hid (HA3.out.below cb HA3.out.lt)
  have HB4 := Lib.hid hb24
  have HL4 : Hid (Kd.R (Kd.int .u8) 5 W4 w.heap.size (fun x => x < bw) (.slice (some ⟨gl, 0, none⟩) (l.length + 2) cap) (l ++ [201, 202])) := Lib.hid (Kd.R_below (Kd.R_mono (Kd.R_bound HLent.out) (fun x hx => by have := hx.2.2.1; omega)) cb)
  clear HA2 HA3 HB2 HT3 HLent c1 c2 c3 cb hb24
  go_loopg [] (l.length + 1) (fun gk wr => ∃ k p : Nat, l.length - p < gk ∧ Hid (Got w W4 l (bw + 2) bw (bw + 1) k p wr))
  case atStart => exact ⟨0, 0, by omega, HG0⟩
  case round =>
    clear HG0
    obtain ⟨k, p, hgk, HG⟩ := hrel
    obtain ⟨hP, hI, hCh, ⟨u1, hw1, hR1⟩, ⟨u2, hp1, hR2⟩⟩ := HG.out
    have hbr : Below w.heap.size w wr := HB4.out.trans (hCh.below HB4.out.size (by simp; omega))
    have hRM := rmsg_any hI hbr HBy.out (by omega) hP.1
    have hst := fun n m => @Pos.step l k p n m hP
    have hsp := @Pos.stop l k p hP
    generalize rdM (l.drop p) = o at hRM hst hsp
    have HRM := Lib.hid hRM
    have HP := Lib.hid hP
    have HCh := Lib.hid hCh
    have HW1 := Lib.hid hw1
    have HR1 := Lib.hid hR1
    have HP1 := Lib.hid hp1
    have HR2 := Lib.hid hR2
    have HBR := Lib.hid hbr
    have hsr := hCh.size
    clear hRM hI hP hCh hw1 hR1 hp1 hR2 hbr HG
    cases o with
    | none =>
      have hk := hsp rfl
      clear hst hsp
      go_wp2_with fail
      refine HRM.out.mono ?_
      rintro e w5 ⟨at1, b1, hS, hat, he, rfl⟩
      subst he
      go_upto_region 6 with fail
      have hS6 := hS.alloc (.cells #[.int .i64 0, .string { data := #[] }, .slice none 0 0] 57)
      generalize w5.alloc (.cells #[.int .i64 0, .string { data := #[] }, .slice none 0 0] 57) = W6 at hS6 ⊢
      have hen := end_any hS6.1 hS6.2.1
      have HEN : Hid (Calls Try.prog 24 #[.pointer (some ⟨bw + 2, 0, none⟩)] W6 fun e w' => e = .returned (.tuple #[.int .i64 0, .int .i64 110]) ∧ RS w W6 w' (bw + 2) l at1 true) := Lib.hid (by simpa using hen)
      have HS6 := Lib.hid hS6
      clear hS hS6 hen
      go_wp2_with fail
      refine HEN.out.mono ?_
      rintro _ w7 ⟨rfl, hS7⟩
      have HS7 := Lib.hid (HS6.out.trans hS7)
      clear hS7 HS6 HEN HRM
      have hk7 := HS7.out.2.2
      have hw7 := Blk.keep HW1.out hk7 (by omega)
      have hp7 := Blk.keep HP1.out hk7 (by omega)
      have hR17 := R_keep HR1.out hk7 (by omega)
      have hR27 := R_keep HR2.out hk7 (by omega)
      have hC7 := HCh.out.trans (RS_chg HS7.out HBR.out [bw + 2, bw, bw + 1] (by simp))
      rw [hk, List.take_length] at hR17 hR27
      obtain ⟨A1, c1, hu1⟩ := Kd.R_slice hR17
      obtain ⟨A2, c2, hu2⟩ := Kd.R_slice hR27
      obtain ⟨N, hN⟩ : ∃ N, (allM l).length = N := ⟨_, rfl⟩
      rw [List.length_map, hN] at hu1 hu2
      subst hu1
      subst hu2
      have HNL : Hid (N ≤ l.length + 1) := Lib.hid (by have := allM_len l; omega)
      have HN := Lib.hid hN
      have HW7 := Lib.hid hw7
      have HP7 := Lib.hid hp7
      have HR17 := Lib.hid hR17
      have HR27 := Lib.hid hR27
      have HC7 := Lib.hid hC7
      clear hk7 hw7 hp7 hR17 hR27 hC7 hN HW1 HP1 HR1 HR2 HCh HS7 HP hk
      go_wp2_with fail
      refine (rows29_any _ _ _ w7).mono ?_
      rintro _ w8 ⟨rfl, hX8, hb8⟩
      obtain ⟨bx, hbx⟩ : ∃ bx, w7.heap.size = bx := ⟨_, rfl⟩
      have HC8 := Lib.hid (chg_below HC7.out (hb8.mono HC7.out.size))
      have HW8 := Lib.hid (HW7.out.below hb8 HW7.out.lt)
      have HP8 := Lib.hid (HP7.out.below hb8 HP7.out.lt)
      have HR18 := Lib.hid (Kd.R_below HR17.out hb8)
      have HR28 := Lib.hid (Kd.R_below HR27.out hb8)
      rw [hbx] at hX8 ⊢
      have HX8 := Lib.hid hX8
      clear hb8 hX8 HC7 HW7 HP7 HR17 HR27
      have q74 := q74 bx
      go_upto_region 14 with fail
      obtain ⟨bn, hbn⟩ : ∃ bn, w8.heap.size = bn := ⟨_, rfl⟩
      have hn9 := Blk.new w8 3 #[.int .i64 0]
      have hb9 : Below w8.heap.size w8 (w8.alloc (.cells #[.int .i64 0] 3)) := (Below.refl _ _).alloc (Nat.le_refl _) _
      rw [hbn] at hn9 ⊢
      generalize w8.alloc (.cells #[.int .i64 0] 3) = W9 at hn9 hb9 ⊢
      have HN9 := Lib.hid hn9
      have HB9 := Lib.hid hb9
      clear hn9 hb9
      go_wp2_with fail
      have HBN := Lib.hid hbn
      clear hbn
      have HC8m : Hid (Blk w8 w.heap.size 3 #[.int .i64 most]) := Lib.hid (HA5.out.chg HC8.out (by simp; omega))
      have HC8r : Hid (Blk w8 (w.heap.size + 1) 4 #[.bool false]) := Lib.hid (HA6.out.chg HC8.out (by simp; omega))
      have HBy8 := HBy.out
      have hL8 : Lent w8 w.heap.size gl cap l := Kd.R_mono (Kd.R_step HL4.out (fun x hx hlt => HC8.out.block x hlt (by simp; omega))) (fun _ _ => trivial)
      have HL8 := Lib.hid hL8
      have hC8' : Kd.C (Kd.int .u8) w8 (some ⟨gl, 0, none⟩) l.length l := hL8.C.1
      clear hL8
      have hw89 : Below w8.heap.size w8 W9 := HB9.out
      refine wpIn_wide.1 (range_msgs 1 bx (some ⟨gl, 0, none⟩) cap l w8 HX8.out hC8' (by omega) HBy8 (by omega) rfl hw89
        (fun k W => Blk W bn 3 #[.int .i64 k] ∧ Below w8.heap.size w8 W ∧ (most < 1 ∨ (k : Int) < most)) (fun c W => ∃ k : Nat, c = .exit 2 ∧ (k : Int) = most ∧ 1 ≤ k ∧ k ≤ N ∧ Blk W bn 3 #[.int .i64 k] ∧ Below w8.heap.size w8 W)
        (fun k => (blk_calm HN9.out.lt).and ((below_calm (Nat.le_refl _) hw89.size).and (Calm.const _))) ?ix ⟨HN9.out, hw89, by omega⟩ ?round ?done ?stop)
      case ix =>
        rintro c W W' row ⟨k, h1, h2, h3, h4, h5, h6⟩ hg hr
        exact ⟨k, h1, h2, h3, h4, blk_calm HN9.out.lt W W' row h5 hg hr, below_calm (Nat.le_refl _) HB9.out.size W W' row h6 hg hr⟩
      case round =>
        intro lp k m p Av cv W hWs hI hT hCv hcv
        obtain ⟨hn, hb, hm⟩ := hI
        have hkN : k < N := by
          have h1 := (List.getElem?_eq_some_iff.1 hT).1
          rw [HN.out] at h1
          exact h1
        have hM1 : (((allM l).map Prod.fst).getD k zM) = m := by rw [List.getD_eq_getElem?_getD, List.getElem?_map, hT]; rfl
        have hP1 : (((allM l).map fun x => (x.2 : Int)).getD k 0) = p := by rw [List.getD_eq_getElem?_getD, List.getElem?_map, hT]; rfl
        have hGm : (∀ v ∈ m.pl, Good v) ∧ m.pl.length ≤ 4096 := allM_good hT
        have HQ := Lib.hid (Blk.new W 57 #[.int .i64 m.id, .string m.tag, .slice Av m.pl.length cv])
        have HWq : Hid (Below W.heap.size W (W.alloc (.cells #[.int .i64 m.id, .string m.tag, .slice Av m.pl.length cv] 57))) := Lib.hid ((Below.refl _ _).alloc (Nat.le_refl _) _)
        have HCv := Lib.hid hCv
        have HNb := Lib.hid hn
        have HBb := Lib.hid hb
        clear hCv hn hb
        simp only [List.setIfInBounds_toArray, List.set_cons_zero, List.set_cons_succ]
        gi_wp2_with fail
        refine ⟨HWq.out, fun W2 hT2 => ?_⟩
        have hn2 := hT2.blk (HNb.out.alloc (.cells #[.int .i64 m.id, .string m.tag, .slice Av m.pl.length cv] 57))
        have hb2 := hT2.calm (below_calm (Nat.le_refl w8.heap.size) HB9.out.size) (HBb.out.trans (HWq.out.mono HBb.out.size))
        have hq2 := hT2.blk HQ.out
        have hcv2 := C_cells (Kd.C_below HCv.out HWq.out) (fun a v h => hT2.cell h)
        obtain ⟨q, hq⟩ : ∃ q, W.heap.size = q := ⟨_, rfl⟩
        rw [hq] at hq2 ⊢
        clear hT2 HWq HQ HCv HNb HBb hq
        have hw2 := HW8.out.below hb2 HW8.out.lt
        have hp2 := HP8.out.below hb2 HP8.out.lt
        have hA2 := (HC8m.out).below hb2 HC8m.out.lt
        have hr1 := Kd.R_reads' HR18.out
        have hr2 := Kd.R_reads' HR28.out
        obtain ⟨ad, Bv, dv, hA1, e0, e1, e2, hbl, hbC⟩ := at_Ms (Kd.C_below hr1.2.2 hb2) k (by rw [← hr1.1]; exact hkN)
        obtain ⟨ad2, hA2', g0⟩ := at_pl (Kd.C_below hr2.2.2 hb2) k (by rw [← hr2.1]; exact hkN)
        rw [hM1] at e0 e1 e2 hbl hbC
        rw [hP1] at g0
        have HA1 := Lib.hid hA1
        have HA2 := Lib.hid hA2'
        clear hr1 hr2 hA1 hA2'
        have keep : ∀ {w' : World} {a : Addr} {v : Value}, Below W2.heap.size W2 w' → W2.cell? a = some v → w'.cell? a = some v := fun h z => (World.cell?_of_block (h.block _ (World.block_lt_of_cell? W2 _ z))).trans z
        have zn := hn2.cell 0
        have zw := hw2.cell 0
        have zp := hp2.cell 0
        have zm := hA2.cell 0
        have q0 := hq2.cell 0
        have q1 := hq2.cell 1
        have q2 := hq2.cell 2
        simp at zn zw zp zm q0 q1 q2
        have hA1 := HA1.out
        have hA2' := HA2.out
        rw [hA1] at zw
        rw [hA2'] at zp
        have HSX : Hid (∀ w', Below W2.heap.size W2 w' → w'.cell? ⟨bn, 0, none⟩ = some (.int .i64 k) ∧ w'.cell? ⟨bw, 0, none⟩ = some (.slice (some ad) N c1) ∧ w'.cell? ⟨q, 0, none⟩ = some (.int .i64 m.id) ∧ w'.cell? ⟨q, 1, none⟩ = some (.string m.tag) ∧ w'.cell? ⟨q, 2, none⟩ = some (.slice Av m.pl.length cv) ∧ w'.cell? (ad.add (k * 3)) = some (.int .i64 m.id) ∧ w'.cell? ⟨(ad.add (k * 3)).block, (ad.add (k * 3)).off + 1, none⟩ = some (.string m.tag) ∧ w'.cell? ⟨(ad.add (k * 3)).block, (ad.add (k * 3)).off + 2, none⟩ = some (.slice Bv m.pl.length dv) ∧ w'.cell? ⟨bw + 1, 0, none⟩ = some (.slice (some ad2) N c2) ∧ w'.cell? (ad2.add k) = some (.int .i64 p)) := Lib.hid (fun w' h => ⟨keep h zn, keep h zw, keep h q0, keep h q1, keep h q2, keep h e0, keep h e1, keep h e2, keep h zp, keep h g0⟩)
        have HMS := Lib.hid (fun (W : World) (h : Below W2.heap.size W2 W) => message_any m.id m.tag Av Bv cv dv m.pl W (Kd.C_below hcv2 h) (Kd.C_below hbC h) hGm.1 hGm.2)
        have d0 : decide ((N : Int) ≤ (k : Int)) = false := decide_eq_false (by omega)
        have d1 : decide (N ≤ k) = false := decide_eq_false (by omega)
        have d2 : decide ((k : Int) < (N : Int)) = true := decide_eq_true (by omega)
        have d3 : decide (k < N) = true := decide_eq_true hkN
        have HNN := Lib.hid hn2
        have HBB := Lib.hid hb2
        have HAM := Lib.hid hA2
        have hwk : wrap64 ((k : Int) + 1) = (k : Int) + 1 := by have := HNL.out; unfold wrap64; omega
        clear keep zn zw zp zm q0 q1 q2 e0 e1 e2 g0 hn2 hb2 hq2 hcv2 hw2 hp2 hA2 hbl hbC hGm hM1 hP1
        gi_wp2_with fail
        refine startIn_ (n := 21) (S := fun w' => Below W2.heap.size W2 w') (ds := []) #[false, false, false, false, false, false, false, false, false, false, false, false, false, false, false, false, false, false, false, false, false] (by kernel_rfl) (by kernel_rfl) (by rintro ⟨a, w, h⟩; exact h) rfl rfl ((Below.refl _ W2).drew) (fun hHeld => ?_)
        refine with_tabW tab17 bits17 (fun HT_ HW_ => ?_)
        refine take_ (i := 0) (N := some 47) (v := ?_) (a' := ?_) #[true, false, false, false, false, false, false, false, false, false, false, false, false, false, false, false, false, false, false, false, false] rfl rfl (take_ofW HT_.out HW_.out (by kernel_rfl)) (fun _ _ _ h => h) (Or.inl ⟨by rfl, ?_⟩) hHeld ?_ ?_
        rotate_left
        · intro w' HS_
          obtain ⟨s0, s1, s2, s3, s4, s5, s6, s7, s8, s9⟩ := HSX.out _ HS_
          go_simp
          with_reducible rfl
        rotate_left
        · simp only [Act.put, List.setIfInBounds_toArray, List.set_cons_zero, List.set_cons_succ, i64_w, i32_w]
          rfl
        refine take_ (i := 1) (N := some 48) (v := ?_) (a' := ?_) #[true, true, false, false, false, false, false, false, false, false, false, false, false, false, false, false, false, false, false, false, false] rfl rfl (take_ofW HT_.out HW_.out (by kernel_rfl)) (fun _ _ _ h => h) (Or.inl ⟨by rfl, ?_⟩) hHeld ?_ ?_
        rotate_left
        · intro w' HS_
          obtain ⟨s0, s1, s2, s3, s4, s5, s6, s7, s8, s9⟩ := HSX.out _ HS_
          go_simp
          with_reducible rfl
        rotate_left
        · simp only [Act.put, List.setIfInBounds_toArray, List.set_cons_zero, List.set_cons_succ, i64_w, i32_w]
          rfl
        refine pure_ (i := 2) (N := some 49) (v := ?_) (a' := ?_) #[true, true, true, false, false, false, false, false, false, false, false, false, false, false, false, false, false, false, false, false, false] rfl rfl (any_of HT_.out (by kernel_rfl)) (fun _ _ _ h => h) (Or.inl ⟨by rfl, ?_⟩) ?_ ?_
        rotate_left
        · intro w'
          go_simp
          with_reducible rfl
        rotate_left
        · simp only [Act.put, List.setIfInBounds_toArray, List.set_cons_zero, List.set_cons_succ, i64_w, i32_w]
          rfl
        refine pure_ (i := 3) (N := some 50) (v := ?_) (a' := ?_) #[true, true, true, true, false, false, false, false, false, false, false, false, false, false, false, false, false, false, false, false, false] rfl rfl (any_of HT_.out (by kernel_rfl)) (fun _ _ _ h => h) (Or.inl ⟨by rfl, ?_⟩) ?_ ?_
        rotate_left
        · intro w'
          go_simp
          with_reducible rfl
        rotate_left
        · simp only [Act.put, List.setIfInBounds_toArray, List.set_cons_zero, List.set_cons_succ, i64_w, i32_w]
          rfl
        refine pure_ (i := 4) (N := some 51) (v := ?_) (a' := ?_) #[true, true, true, true, true, false, false, false, false, false, false, false, false, false, false, false, false, false, false, false, false] rfl rfl (any_of HT_.out (by kernel_rfl)) (fun _ _ _ h => h) (Or.inl ⟨by rfl, ?_⟩) ?_ ?_
        rotate_left
        · intro w'
          go_simp
          with_reducible rfl
        rotate_left
        · simp only [Act.put, List.setIfInBounds_toArray, List.set_cons_zero, List.set_cons_succ, i64_w, i32_w]
          rfl
        refine take_ (i := 5) (N := some 52) (v := ?_) (a' := ?_) #[true, true, true, true, true, true, false, false, false, false, false, false, false, false, false, false, false, false, false, false, false] rfl rfl (take_ofW HT_.out HW_.out (by kernel_rfl)) (fun _ _ _ h => h) (Or.inl ⟨by rfl, ?_⟩) hHeld ?_ ?_
        rotate_left
        · intro w' HS_
          obtain ⟨s0, s1, s2, s3, s4, s5, s6, s7, s8, s9⟩ := HSX.out _ HS_
          go_simp
          with_reducible rfl
        rotate_left
        · simp only [Act.put, List.setIfInBounds_toArray, List.set_cons_zero, List.set_cons_succ, i64_w, i32_w]
          rfl
        refine take_ (i := 6) (N := some 53) (v := ?_) (a' := ?_) #[true, true, true, true, true, true, true, false, false, false, false, false, false, false, false, false, false, false, false, false, false] rfl rfl (take_ofW HT_.out HW_.out (by kernel_rfl)) (fun _ _ _ h => h) (Or.inl ⟨by rfl, ?_⟩) hHeld ?_ ?_
        rotate_left
        · intro w' HS_
          obtain ⟨s0, s1, s2, s3, s4, s5, s6, s7, s8, s9⟩ := HSX.out _ HS_
          go_simp
          with_reducible rfl
        rotate_left
        · simp only [Act.put, List.setIfInBounds_toArray, List.set_cons_zero, List.set_cons_succ, i64_w, i32_w]
          rfl
        refine take_ (i := 7) (N := some 54) (v := ?_) (a' := ?_) #[true, true, true, true, true, true, true, true, false, false, false, false, false, false, false, false, false, false, false, false, false] rfl rfl (take_ofW HT_.out HW_.out (by kernel_rfl)) (fun _ _ _ h => h) (Or.inl ⟨by rfl, ?_⟩) hHeld ?_ ?_
        rotate_left
        · intro w' HS_
          obtain ⟨s0, s1, s2, s3, s4, s5, s6, s7, s8, s9⟩ := HSX.out _ HS_
          go_simp
          with_reducible rfl
        rotate_left
        · simp only [Act.put, List.setIfInBounds_toArray, List.set_cons_zero, List.set_cons_succ, i64_w, i32_w]
          rfl
        refine pure_ (i := 8) (N := some 55) (v := ?_) (a' := ?_) #[true, true, true, true, true, true, true, true, true, false, false, false, false, false, false, false, false, false, false, false, false] rfl rfl (any_of HT_.out (by kernel_rfl)) (fun _ _ _ h => h) (Or.inl ⟨by rfl, ?_⟩) ?_ ?_
        rotate_left
        · intro w'
          go_simp
          with_reducible rfl
        rotate_left
        · simp only [Act.put, List.setIfInBounds_toArray, List.set_cons_zero, List.set_cons_succ, i64_w, i32_w]
          rfl
        refine take_ (i := 9) (N := some 56) (v := ?_) (a' := ?_) #[true, true, true, true, true, true, true, true, true, true, false, false, false, false, false, false, false, false, false, false, false] rfl rfl (take_ofW HT_.out HW_.out (by kernel_rfl)) (fun _ _ _ h => h) (Or.inl ⟨by rfl, ?_⟩) hHeld ?_ ?_
        rotate_left
        · intro w' HS_
          obtain ⟨s0, s1, s2, s3, s4, s5, s6, s7, s8, s9⟩ := HSX.out _ HS_
          go_simp
          with_reducible rfl
        rotate_left
        · simp only [Act.put, List.setIfInBounds_toArray, List.set_cons_zero, List.set_cons_succ, i64_w, i32_w]
          rfl
        refine one_ (i := 10) (N := some 57) #[true, true, true, true, true, true, true, true, true, true, true, false, false, false, false, false, false, false, false, false, false] rfl rfl (one_of HT_.out (by kernel_rfl)) (by decide) (fun K hK => ?_)
        refine goes_ Try.func27 (by kernel_rfl) rfl #[.agg #[.int .i64 m.id, .string m.tag, .slice Av m.pl.length cv], .agg #[.int .i64 m.id, .string m.tag, .slice Bv m.pl.length dv]] (by rfl) rfl rfl (by simp only [List.map_toArray, List.map_cons, List.map_nil]; rfl) ?_
        refine (HMS.out _ ((Below.refl _ W2).drew)).mono ?_
        rintro _ w3 ⟨rfl, hd⟩
        have HB3 : Hid (Below W2.heap.size W2 w3) := Lib.hid (((Below.refl W2.heap.size W2).drew).trans (hd.mono (Nat.le_refl _)))
        refine ⟨_, rfl, ?_⟩
        refine hK.out _ _ HB3.out (fun hHeld => ?_)
        clear hK K hd
        refine norm_ (a' := ?_) ?_ ?_
        rotate_left
        · show Act.put _ (some 57) _ = _
          simp only [Act.put, List.setIfInBounds_toArray, List.set_cons_zero, List.set_cons_succ, i64_w, i32_w]
          rfl
        refine pure_ (i := 11) (N := some 58) (v := ?_) (a' := ?_) #[true, true, true, true, true, true, true, true, true, true, true, true, false, false, false, false, false, false, false, false, false] rfl rfl (any_of HT_.out (by kernel_rfl)) (fun _ _ _ h => h) (Or.inl ⟨by rfl, ?_⟩) ?_ ?_
        rotate_left
        · intro w'
          go_simp
          with_reducible rfl
        rotate_left
        · simp only [Act.put, List.setIfInBounds_toArray, List.set_cons_zero, List.set_cons_succ, i64_w, i32_w]
          rfl
        refine pure_ (i := 12) (N := some 59) (v := ?_) (a' := ?_) #[true, true, true, true, true, true, true, true, true, true, true, true, true, false, false, false, false, false, false, false, false] rfl rfl (any_of HT_.out (by kernel_rfl)) (fun _ _ _ h => h) (Or.inl ⟨by rfl, ?_⟩) ?_ ?_
        rotate_left
        · intro w'
          go_simp
          with_reducible rfl
        rotate_left
        · simp only [Act.put, List.setIfInBounds_toArray, List.set_cons_zero, List.set_cons_succ, i64_w, i32_w]
          rfl
        refine pure_ (i := 13) (N := some 60) (v := ?_) (a' := ?_) #[true, true, true, true, true, true, true, true, true, true, true, true, true, true, false, false, false, false, false, false, false] rfl rfl (any_of HT_.out (by kernel_rfl)) (fun _ _ _ h => h) (Or.inl ⟨by rfl, ?_⟩) ?_ ?_
        rotate_left
        · intro w'
          go_simp
          with_reducible rfl
        rotate_left
        · simp only [Act.put, List.setIfInBounds_toArray, List.set_cons_zero, List.set_cons_succ, i64_w, i32_w]
          rfl
        refine pure_ (i := 14) (N := some 61) (v := ?_) (a' := ?_) #[true, true, true, true, true, true, true, true, true, true, true, true, true, true, true, false, false, false, false, false, false] rfl rfl (any_of HT_.out (by kernel_rfl)) (fun _ _ _ h => h) (Or.inl ⟨by rfl, ?_⟩) ?_ ?_
        rotate_left
        · intro w'
          go_simp
          with_reducible rfl
        rotate_left
        · simp only [Act.put, List.setIfInBounds_toArray, List.set_cons_zero, List.set_cons_succ, i64_w, i32_w]
          rfl
        refine take_ (i := 15) (N := some 62) (v := ?_) (a' := ?_) #[true, true, true, true, true, true, true, true, true, true, true, true, true, true, true, true, false, false, false, false, false] rfl rfl (take_ofW HT_.out HW_.out (by kernel_rfl)) (fun _ _ _ h => h) (Or.inl ⟨by rfl, ?_⟩) hHeld ?_ ?_
        rotate_left
        · intro w' HS_
          obtain ⟨s0, s1, s2, s3, s4, s5, s6, s7, s8, s9⟩ := HSX.out _ HS_
          go_simp
          with_reducible rfl
        rotate_left
        · simp only [Act.put, List.setIfInBounds_toArray, List.set_cons_zero, List.set_cons_succ, i64_w, i32_w]
          rfl
        refine take_ (i := 16) (N := some 63) (v := ?_) (a' := ?_) #[true, true, true, true, true, true, true, true, true, true, true, true, true, true, true, true, true, false, false, false, false] rfl rfl (take_ofW HT_.out HW_.out (by kernel_rfl)) (fun _ _ _ h => h) (Or.inl ⟨by rfl, ?_⟩) hHeld ?_ ?_
        rotate_left
        · intro w' HS_
          obtain ⟨s0, s1, s2, s3, s4, s5, s6, s7, s8, s9⟩ := HSX.out _ HS_
          go_simp
          with_reducible rfl
        rotate_left
        · simp only [Act.put, List.setIfInBounds_toArray, List.set_cons_zero, List.set_cons_succ, i64_w, i32_w]
          rfl
        refine pure_ (i := 17) (N := some 64) (v := ?_) (a' := ?_) #[true, true, true, true, true, true, true, true, true, true, true, true, true, true, true, true, true, true, false, false, false] rfl rfl (any_of HT_.out (by kernel_rfl)) (fun _ _ _ h => h) (Or.inl ⟨by rfl, ?_⟩) ?_ ?_
        rotate_left
        · intro w'
          go_simp
          with_reducible rfl
        rotate_left
        · simp only [Act.put, List.setIfInBounds_toArray, List.set_cons_zero, List.set_cons_succ, i64_w, i32_w]
          rfl
        refine take_ (i := 18) (N := some 65) (v := ?_) (a' := ?_) #[true, true, true, true, true, true, true, true, true, true, true, true, true, true, true, true, true, true, true, false, false] rfl rfl (take_ofW HT_.out HW_.out (by kernel_rfl)) (fun _ _ _ h => h) (Or.inl ⟨by rfl, ?_⟩) hHeld ?_ ?_
        rotate_left
        · intro w' HS_
          obtain ⟨s0, s1, s2, s3, s4, s5, s6, s7, s8, s9⟩ := HSX.out _ HS_
          go_simp
          with_reducible rfl
        rotate_left
        · simp only [Act.put, List.setIfInBounds_toArray, List.set_cons_zero, List.set_cons_succ, i64_w, i32_w]
          rfl
        refine pure_ (i := 19) (N := some 66) (v := ?_) (a' := ?_) #[true, true, true, true, true, true, true, true, true, true, true, true, true, true, true, true, true, true, true, true, false] rfl rfl (any_of HT_.out (by kernel_rfl)) (fun _ _ _ h => h) (Or.inl ⟨by rfl, ?_⟩) ?_ ?_
        rotate_left
        · intro w'
          go_simp
          with_reducible rfl
        rotate_left
        · simp only [Act.put, List.setIfInBounds_toArray, List.set_cons_zero, List.set_cons_succ, i64_w, i32_w]
          rfl
        refine pure_ (i := 20) (N := some 67) (v := ?_) (a' := ?_) #[true, true, true, true, true, true, true, true, true, true, true, true, true, true, true, true, true, true, true, true, true] rfl rfl (any_of HT_.out (by kernel_rfl)) (fun _ _ _ h => h) (Or.inl ⟨by rfl, ?_⟩) ?_ ?_
        rotate_left
        · intro w'
          go_simp
          with_reducible rfl
        rotate_left
        · simp only [Act.put, List.setIfInBounds_toArray, List.set_cons_zero, List.set_cons_succ, i64_w, i32_w]
          rfl
        refine done_ (done_of HT_.out (by kernel_rfl)) ?_
        clear HT_ HW_
        have hn3 := HNN.out.below HB3.out HNN.out.lt
        have hm3 := HAM.out.below HB3.out HAM.out.lt
        have zn := hn3.cell 0
        have fn := hn3.frozen 0
        simp at zn
        have HN3 := Lib.hid hn3
        have HM3 := Lib.hid hm3
        clear hn3 hm3
        gi_upto_region 20 with fail
        clear hwk
        have hn4 := HN3.out.set_ 0 (.int .i64 ((k : Int) + 1))
        have hm4 := HM3.out.far (p := ⟨bn, 0, none⟩) (by show w.heap.size ≠ bn; have := HC8m.out.lt; have := HBN.out; omega) (.int .i64 ((k : Int) + 1))
        have hk4 : KeepsOthers W2 (w3.setCell ⟨bn, 0, none⟩ (.int .i64 ((k : Int) + 1))) := (KeepsOthers.of_grownBy (grown_of_below HB3.out none) (fun _ _ e _ => by cases e)).trans (KeepsOthers.setCell _ _ _)
        have hb4 : Below w8.heap.size W2 (w3.setCell ⟨bn, 0, none⟩ (.int .i64 ((k : Int) + 1))) := (HB3.out.mono HBB.out.size).setCell (by show w8.heap.size ≤ bn; have := HBN.out; omega) _
        generalize w3.setCell ⟨bn, 0, none⟩ (.int .i64 ((k : Int) + 1)) = w4 at hn4 hm4 hk4 hb4 ⊢
        clear zn fn
        have zn := hn4.cell 0
        have zm := hm4.cell 0
        simp at zn zm
        have HN4 := Lib.hid hn4
        have HK4 := Lib.hid hk4
        have HB4' := Lib.hid hb4
        clear hn4 hm4 hk4 hb4
        by_cases he : (k : Int) + 1 = most
        · have be : ((k : Int) + 1 == most) = true := by simpa using he
          gi_wp2_with fail
          exact ⟨HK4.out, k + 1, rfl, by omega, by omega, by omega, HN4.out, HBB.out.trans HB4'.out⟩
        · have be : ((k : Int) + 1 == most) = false := by simpa using he
          gi_wp2_with fail
          exact ⟨HK4.out, HB4'.out, HN4.out, HBB.out.trans HB4'.out, by omega⟩
      case done =>
        rintro D W hDs ⟨hn, hb, hm⟩ hDd
        rw [HN.out] at hn hm
        have hw2 := HW8.out.below hb HW8.out.lt
        have hm2 := HC8m.out.below hb HC8m.out.lt
        have zn := hn.cell 0
        have fn := hn.frozen 0
        have zw := hw2.cell 0
        have zm := hm2.cell 0
        simp at zn zw zm
        have HNW := Lib.hid hn
        have HBW := Lib.hid hb
        have HDW := Lib.hid hDd
        clear hn hb hDd hw2 hm2
        by_cases hm1 : most < 1
        · have b0 : decide ((0 : Int) < most) = false := decide_eq_false (by omega)
          go_upto_region 27 with fail
          have hn10 := HNW.out.set_ 0 (.int .i64 0)
          have hb10 : Below w8.heap.size w8 (W.setCell ⟨bn, 0, none⟩ (.int .i64 0)) := HBW.out.setCell (by show w8.heap.size ≤ bn; have := HBN.out; omega) _
          have hd10 : (W.setCell ⟨bn, 0, none⟩ (.int .i64 0)).heap[D]? = some (.deferred (some [])) := (KeepsOthers.setCell W _ _).same D _ HDW.out rfl
          generalize W.setCell ⟨bn, 0, none⟩ (.int .i64 0) = W10 at hn10 hb10 hd10 ⊢
          have HN10 := Lib.hid hn10
          have HB10 := Lib.hid hb10
          have HD10 := Lib.hid hd10
          clear hn10 hb10 hd10 zn fn zw zm HNW HBW HDW
          go_wp2_with fail
          refine wpIn_wide.1 (range_msgs 1 bx (some ⟨gl, 0, none⟩) cap l w8 HX8.out HL8.out.C.1 (by omega) HBy8 (by omega) rfl HB10.out
            (fun k W => Blk W bn 3 #[.int .i64 k] ∧ Below w8.heap.size w8 W ∧ W.heap[D]? = some (.deferred (some []))) (fun c W => False)
            (fun k => (blk_calm HN10.out.lt).and ((below_calm (Nat.le_refl _) HB10.out.size).and (obj_calm (heap_lt' HD10.out)))) ?ix2 ⟨HN10.out, HB10.out, HD10.out⟩ ?round2 ?done2 ?stop2)
          case ix2 => exact fun c W W' row h hg hr => h
          case round2 =>
            intro lp k m p Av cv W hWs hI hT hCv hcv
            obtain ⟨hn, hb, hd⟩ := hI
            have hkN : k < N := by
              have h1 := (List.getElem?_eq_some_iff.1 hT).1
              rw [HN.out] at h1
              exact h1
            have hM1 : (((allM l).map Prod.fst).getD k zM) = m := by rw [List.getD_eq_getElem?_getD, List.getElem?_map, hT]; rfl
            have hP1 : (((allM l).map fun x => (x.2 : Int)).getD k 0) = p := by rw [List.getD_eq_getElem?_getD, List.getElem?_map, hT]; rfl
            have hGm : (∀ v ∈ m.pl, Good v) ∧ m.pl.length ≤ 4096 := allM_good hT
            have HQ := Lib.hid (Blk.new W 57 #[.int .i64 m.id, .string m.tag, .slice Av m.pl.length cv])
            have HWq : Hid (Below W.heap.size W (W.alloc (.cells #[.int .i64 m.id, .string m.tag, .slice Av m.pl.length cv] 57))) := Lib.hid ((Below.refl _ _).alloc (Nat.le_refl _) _)
            have HCv := Lib.hid hCv
            have HNb := Lib.hid hn
            have HBb := Lib.hid hb
            have HDb := Lib.hid hd
            clear hd
            clear hCv hn hb
            simp only [List.setIfInBounds_toArray, List.set_cons_zero, List.set_cons_succ]
            gi_wp2_with fail
            refine ⟨HWq.out, fun W2 hT2 => ?_⟩
            have hn2 := hT2.blk (HNb.out.alloc (.cells #[.int .i64 m.id, .string m.tag, .slice Av m.pl.length cv] 57))
            have hb2 := hT2.calm (below_calm (Nat.le_refl w8.heap.size) HB10.out.size) (HBb.out.trans (HWq.out.mono HBb.out.size))
            have hq2 := hT2.blk HQ.out
            have hcv2 := C_cells (Kd.C_below HCv.out HWq.out) (fun a v h => hT2.cell h)
            obtain ⟨q, hq⟩ : ∃ q, W.heap.size = q := ⟨_, rfl⟩
            rw [hq] at hq2 ⊢
            have HDD := Lib.hid (hT2.calm (obj_calm (heap_lt' HD10.out)) ((HWq.out.block _ (heap_lt' HDb.out)).trans HDb.out))
            clear hT2 HWq HQ HCv HNb HBb hq
            have hw2 := HW8.out.below hb2 HW8.out.lt
            have hp2 := HP8.out.below hb2 HP8.out.lt
            have hA2 := (HC8m.out).below hb2 HC8m.out.lt
            have hr1 := Kd.R_reads' HR18.out
            have hr2 := Kd.R_reads' HR28.out
            obtain ⟨ad, Bv, dv, hA1, e0, e1, e2, hbl, hbC⟩ := at_Ms (Kd.C_below hr1.2.2 hb2) k (by rw [← hr1.1]; exact hkN)
            obtain ⟨ad2, hA2', g0⟩ := at_pl (Kd.C_below hr2.2.2 hb2) k (by rw [← hr2.1]; exact hkN)
            rw [hM1] at e0 e1 e2 hbl hbC
            rw [hP1] at g0
            have HA1 := Lib.hid hA1
            have HA2 := Lib.hid hA2'
            clear hr1 hr2 hA1 hA2'
            have keep : ∀ {w' : World} {a : Addr} {v : Value}, Below W2.heap.size W2 w' → W2.cell? a = some v → w'.cell? a = some v := fun h z => (World.cell?_of_block (h.block _ (World.block_lt_of_cell? W2 _ z))).trans z
            have zn := hn2.cell 0
            have zw := hw2.cell 0
            have zp := hp2.cell 0
            have zm := hA2.cell 0
            have q0 := hq2.cell 0
            have q1 := hq2.cell 1
            have q2 := hq2.cell 2
            simp at zn zw zp zm q0 q1 q2
            have hA1 := HA1.out
            have hA2' := HA2.out
            rw [hA1] at zw
            rw [hA2'] at zp
            have HSX : Hid (∀ w', Below W2.heap.size W2 w' → w'.cell? ⟨bn, 0, none⟩ = some (.int .i64 k) ∧ w'.cell? ⟨bw, 0, none⟩ = some (.slice (some ad) N c1) ∧ w'.cell? ⟨q, 0, none⟩ = some (.int .i64 m.id) ∧ w'.cell? ⟨q, 1, none⟩ = some (.string m.tag) ∧ w'.cell? ⟨q, 2, none⟩ = some (.slice Av m.pl.length cv) ∧ w'.cell? (ad.add (k * 3)) = some (.int .i64 m.id) ∧ w'.cell? ⟨(ad.add (k * 3)).block, (ad.add (k * 3)).off + 1, none⟩ = some (.string m.tag) ∧ w'.cell? ⟨(ad.add (k * 3)).block, (ad.add (k * 3)).off + 2, none⟩ = some (.slice Bv m.pl.length dv) ∧ w'.cell? ⟨bw + 1, 0, none⟩ = some (.slice (some ad2) N c2) ∧ w'.cell? (ad2.add k) = some (.int .i64 p)) := Lib.hid (fun w' h => ⟨keep h zn, keep h zw, keep h q0, keep h q1, keep h q2, keep h e0, keep h e1, keep h e2, keep h zp, keep h g0⟩)
            have HMS := Lib.hid (fun (W : World) (h : Below W2.heap.size W2 W) => message_any m.id m.tag Av Bv cv dv m.pl W (Kd.C_below hcv2 h) (Kd.C_below hbC h) hGm.1 hGm.2)
            have d0 : decide ((N : Int) ≤ (k : Int)) = false := decide_eq_false (by omega)
            have d1 : decide (N ≤ k) = false := decide_eq_false (by omega)
            have d2 : decide ((k : Int) < (N : Int)) = true := decide_eq_true (by omega)
            have d3 : decide (k < N) = true := decide_eq_true hkN
            have HNN := Lib.hid hn2
            have HBB := Lib.hid hb2
            have HAM := Lib.hid hA2
            have hwk : wrap64 ((k : Int) + 1) = (k : Int) + 1 := by have := HNL.out; unfold wrap64; omega
            clear keep zn zw zp zm q0 q1 q2 e0 e1 e2 g0 hn2 hb2 hq2 hcv2 hw2 hp2 hA2 hbl hbC hGm hM1 hP1
            gi_wp2_with fail
            refine startIn_ (n := 21) (S := fun w' => Below W2.heap.size W2 w') (ds := []) #[false, false, false, false, false, false, false, false, false, false, false, false, false, false, false, false, false, false, false, false, false] (by kernel_rfl) (by kernel_rfl) (by rintro ⟨a, w, h⟩; exact h) rfl rfl ((Below.refl _ W2).drew) (fun hHeld => ?_)
            refine with_tabW tab30 bits17 (fun HT_ HW_ => ?_)
            refine take_ (i := 0) (N := some 91) (v := ?_) (a' := ?_) #[true, false, false, false, false, false, false, false, false, false, false, false, false, false, false, false, false, false, false, false, false] rfl rfl (take_ofW HT_.out HW_.out (by kernel_rfl)) (fun _ _ _ h => h) (Or.inl ⟨by rfl, ?_⟩) hHeld ?_ ?_
            rotate_left
            · intro w' HS_
              obtain ⟨s0, s1, s2, s3, s4, s5, s6, s7, s8, s9⟩ := HSX.out _ HS_
              go_simp
              with_reducible rfl
            rotate_left
            · simp only [Act.put, List.setIfInBounds_toArray, List.set_cons_zero, List.set_cons_succ, i64_w, i32_w]
              rfl
            refine take_ (i := 1) (N := some 92) (v := ?_) (a' := ?_) #[true, true, false, false, false, false, false, false, false, false, false, false, false, false, false, false, false, false, false, false, false] rfl rfl (take_ofW HT_.out HW_.out (by kernel_rfl)) (fun _ _ _ h => h) (Or.inl ⟨by rfl, ?_⟩) hHeld ?_ ?_
            rotate_left
            · intro w' HS_
              obtain ⟨s0, s1, s2, s3, s4, s5, s6, s7, s8, s9⟩ := HSX.out _ HS_
              go_simp
              with_reducible rfl
            rotate_left
            · simp only [Act.put, List.setIfInBounds_toArray, List.set_cons_zero, List.set_cons_succ, i64_w, i32_w]
              rfl
            refine pure_ (i := 2) (N := some 93) (v := ?_) (a' := ?_) #[true, true, true, false, false, false, false, false, false, false, false, false, false, false, false, false, false, false, false, false, false] rfl rfl (any_of HT_.out (by kernel_rfl)) (fun _ _ _ h => h) (Or.inl ⟨by rfl, ?_⟩) ?_ ?_
            rotate_left
            · intro w'
              go_simp
              with_reducible rfl
            rotate_left
            · simp only [Act.put, List.setIfInBounds_toArray, List.set_cons_zero, List.set_cons_succ, i64_w, i32_w]
              rfl
            refine pure_ (i := 3) (N := some 94) (v := ?_) (a' := ?_) #[true, true, true, true, false, false, false, false, false, false, false, false, false, false, false, false, false, false, false, false, false] rfl rfl (any_of HT_.out (by kernel_rfl)) (fun _ _ _ h => h) (Or.inl ⟨by rfl, ?_⟩) ?_ ?_
            rotate_left
            · intro w'
              go_simp
              with_reducible rfl
            rotate_left
            · simp only [Act.put, List.setIfInBounds_toArray, List.set_cons_zero, List.set_cons_succ, i64_w, i32_w]
              rfl
            refine pure_ (i := 4) (N := some 95) (v := ?_) (a' := ?_) #[true, true, true, true, true, false, false, false, false, false, false, false, false, false, false, false, false, false, false, false, false] rfl rfl (any_of HT_.out (by kernel_rfl)) (fun _ _ _ h => h) (Or.inl ⟨by rfl, ?_⟩) ?_ ?_
            rotate_left
            · intro w'
              go_simp
              with_reducible rfl
            rotate_left
            · simp only [Act.put, List.setIfInBounds_toArray, List.set_cons_zero, List.set_cons_succ, i64_w, i32_w]
              rfl
            refine take_ (i := 5) (N := some 96) (v := ?_) (a' := ?_) #[true, true, true, true, true, true, false, false, false, false, false, false, false, false, false, false, false, false, false, false, false] rfl rfl (take_ofW HT_.out HW_.out (by kernel_rfl)) (fun _ _ _ h => h) (Or.inl ⟨by rfl, ?_⟩) hHeld ?_ ?_
            rotate_left
            · intro w' HS_
              obtain ⟨s0, s1, s2, s3, s4, s5, s6, s7, s8, s9⟩ := HSX.out _ HS_
              go_simp
              with_reducible rfl
            rotate_left
            · simp only [Act.put, List.setIfInBounds_toArray, List.set_cons_zero, List.set_cons_succ, i64_w, i32_w]
              rfl
            refine take_ (i := 6) (N := some 97) (v := ?_) (a' := ?_) #[true, true, true, true, true, true, true, false, false, false, false, false, false, false, false, false, false, false, false, false, false] rfl rfl (take_ofW HT_.out HW_.out (by kernel_rfl)) (fun _ _ _ h => h) (Or.inl ⟨by rfl, ?_⟩) hHeld ?_ ?_
            rotate_left
            · intro w' HS_
              obtain ⟨s0, s1, s2, s3, s4, s5, s6, s7, s8, s9⟩ := HSX.out _ HS_
              go_simp
              with_reducible rfl
            rotate_left
            · simp only [Act.put, List.setIfInBounds_toArray, List.set_cons_zero, List.set_cons_succ, i64_w, i32_w]
              rfl
            refine take_ (i := 7) (N := some 98) (v := ?_) (a' := ?_) #[true, true, true, true, true, true, true, true, false, false, false, false, false, false, false, false, false, false, false, false, false] rfl rfl (take_ofW HT_.out HW_.out (by kernel_rfl)) (fun _ _ _ h => h) (Or.inl ⟨by rfl, ?_⟩) hHeld ?_ ?_
            rotate_left
            · intro w' HS_
              obtain ⟨s0, s1, s2, s3, s4, s5, s6, s7, s8, s9⟩ := HSX.out _ HS_
              go_simp
              with_reducible rfl
            rotate_left
            · simp only [Act.put, List.setIfInBounds_toArray, List.set_cons_zero, List.set_cons_succ, i64_w, i32_w]
              rfl
            refine pure_ (i := 8) (N := some 99) (v := ?_) (a' := ?_) #[true, true, true, true, true, true, true, true, true, false, false, false, false, false, false, false, false, false, false, false, false] rfl rfl (any_of HT_.out (by kernel_rfl)) (fun _ _ _ h => h) (Or.inl ⟨by rfl, ?_⟩) ?_ ?_
            rotate_left
            · intro w'
              go_simp
              with_reducible rfl
            rotate_left
            · simp only [Act.put, List.setIfInBounds_toArray, List.set_cons_zero, List.set_cons_succ, i64_w, i32_w]
              rfl
            refine take_ (i := 9) (N := some 100) (v := ?_) (a' := ?_) #[true, true, true, true, true, true, true, true, true, true, false, false, false, false, false, false, false, false, false, false, false] rfl rfl (take_ofW HT_.out HW_.out (by kernel_rfl)) (fun _ _ _ h => h) (Or.inl ⟨by rfl, ?_⟩) hHeld ?_ ?_
            rotate_left
            · intro w' HS_
              obtain ⟨s0, s1, s2, s3, s4, s5, s6, s7, s8, s9⟩ := HSX.out _ HS_
              go_simp
              with_reducible rfl
            rotate_left
            · simp only [Act.put, List.setIfInBounds_toArray, List.set_cons_zero, List.set_cons_succ, i64_w, i32_w]
              rfl
            refine one_ (i := 10) (N := some 101) #[true, true, true, true, true, true, true, true, true, true, true, false, false, false, false, false, false, false, false, false, false] rfl rfl (one_of HT_.out (by kernel_rfl)) (by decide) (fun K hK => ?_)
            refine goes_ Try.func27 (by kernel_rfl) rfl #[.agg #[.int .i64 m.id, .string m.tag, .slice Av m.pl.length cv], .agg #[.int .i64 m.id, .string m.tag, .slice Bv m.pl.length dv]] (by rfl) rfl rfl (by simp only [List.map_toArray, List.map_cons, List.map_nil]; rfl) ?_
            refine (HMS.out _ ((Below.refl _ W2).drew)).mono ?_
            rintro _ w3 ⟨rfl, hd⟩
            have HB3 : Hid (Below W2.heap.size W2 w3) := Lib.hid (((Below.refl W2.heap.size W2).drew).trans (hd.mono (Nat.le_refl _)))
            refine ⟨_, rfl, ?_⟩
            refine hK.out _ _ HB3.out (fun hHeld => ?_)
            clear hK K hd
            refine norm_ (a' := ?_) ?_ ?_
            rotate_left
            · show Act.put _ (some 101) _ = _
              simp only [Act.put, List.setIfInBounds_toArray, List.set_cons_zero, List.set_cons_succ, i64_w, i32_w]
              rfl
            refine pure_ (i := 11) (N := some 102) (v := ?_) (a' := ?_) #[true, true, true, true, true, true, true, true, true, true, true, true, false, false, false, false, false, false, false, false, false] rfl rfl (any_of HT_.out (by kernel_rfl)) (fun _ _ _ h => h) (Or.inl ⟨by rfl, ?_⟩) ?_ ?_
            rotate_left
            · intro w'
              go_simp
              with_reducible rfl
            rotate_left
            · simp only [Act.put, List.setIfInBounds_toArray, List.set_cons_zero, List.set_cons_succ, i64_w, i32_w]
              rfl
            refine pure_ (i := 12) (N := some 103) (v := ?_) (a' := ?_) #[true, true, true, true, true, true, true, true, true, true, true, true, true, false, false, false, false, false, false, false, false] rfl rfl (any_of HT_.out (by kernel_rfl)) (fun _ _ _ h => h) (Or.inl ⟨by rfl, ?_⟩) ?_ ?_
            rotate_left
            · intro w'
              go_simp
              with_reducible rfl
            rotate_left
            · simp only [Act.put, List.setIfInBounds_toArray, List.set_cons_zero, List.set_cons_succ, i64_w, i32_w]
              rfl
            refine pure_ (i := 13) (N := some 104) (v := ?_) (a' := ?_) #[true, true, true, true, true, true, true, true, true, true, true, true, true, true, false, false, false, false, false, false, false] rfl rfl (any_of HT_.out (by kernel_rfl)) (fun _ _ _ h => h) (Or.inl ⟨by rfl, ?_⟩) ?_ ?_
            rotate_left
            · intro w'
              go_simp
              with_reducible rfl
            rotate_left
            · simp only [Act.put, List.setIfInBounds_toArray, List.set_cons_zero, List.set_cons_succ, i64_w, i32_w]
              rfl
            refine pure_ (i := 14) (N := some 105) (v := ?_) (a' := ?_) #[true, true, true, true, true, true, true, true, true, true, true, true, true, true, true, false, false, false, false, false, false] rfl rfl (any_of HT_.out (by kernel_rfl)) (fun _ _ _ h => h) (Or.inl ⟨by rfl, ?_⟩) ?_ ?_
            rotate_left
            · intro w'
              go_simp
              with_reducible rfl
            rotate_left
            · simp only [Act.put, List.setIfInBounds_toArray, List.set_cons_zero, List.set_cons_succ, i64_w, i32_w]
              rfl
            refine take_ (i := 15) (N := some 106) (v := ?_) (a' := ?_) #[true, true, true, true, true, true, true, true, true, true, true, true, true, true, true, true, false, false, false, false, false] rfl rfl (take_ofW HT_.out HW_.out (by kernel_rfl)) (fun _ _ _ h => h) (Or.inl ⟨by rfl, ?_⟩) hHeld ?_ ?_
            rotate_left
            · intro w' HS_
              obtain ⟨s0, s1, s2, s3, s4, s5, s6, s7, s8, s9⟩ := HSX.out _ HS_
              go_simp
              with_reducible rfl
            rotate_left
            · simp only [Act.put, List.setIfInBounds_toArray, List.set_cons_zero, List.set_cons_succ, i64_w, i32_w]
              rfl
            refine take_ (i := 16) (N := some 107) (v := ?_) (a' := ?_) #[true, true, true, true, true, true, true, true, true, true, true, true, true, true, true, true, true, false, false, false, false] rfl rfl (take_ofW HT_.out HW_.out (by kernel_rfl)) (fun _ _ _ h => h) (Or.inl ⟨by rfl, ?_⟩) hHeld ?_ ?_
            rotate_left
            · intro w' HS_
              obtain ⟨s0, s1, s2, s3, s4, s5, s6, s7, s8, s9⟩ := HSX.out _ HS_
              go_simp
              with_reducible rfl
            rotate_left
            · simp only [Act.put, List.setIfInBounds_toArray, List.set_cons_zero, List.set_cons_succ, i64_w, i32_w]
              rfl
            refine pure_ (i := 17) (N := some 108) (v := ?_) (a' := ?_) #[true, true, true, true, true, true, true, true, true, true, true, true, true, true, true, true, true, true, false, false, false] rfl rfl (any_of HT_.out (by kernel_rfl)) (fun _ _ _ h => h) (Or.inl ⟨by rfl, ?_⟩) ?_ ?_
            rotate_left
            · intro w'
              go_simp
              with_reducible rfl
            rotate_left
            · simp only [Act.put, List.setIfInBounds_toArray, List.set_cons_zero, List.set_cons_succ, i64_w, i32_w]
              rfl
            refine take_ (i := 18) (N := some 109) (v := ?_) (a' := ?_) #[true, true, true, true, true, true, true, true, true, true, true, true, true, true, true, true, true, true, true, false, false] rfl rfl (take_ofW HT_.out HW_.out (by kernel_rfl)) (fun _ _ _ h => h) (Or.inl ⟨by rfl, ?_⟩) hHeld ?_ ?_
            rotate_left
            · intro w' HS_
              obtain ⟨s0, s1, s2, s3, s4, s5, s6, s7, s8, s9⟩ := HSX.out _ HS_
              go_simp
              with_reducible rfl
            rotate_left
            · simp only [Act.put, List.setIfInBounds_toArray, List.set_cons_zero, List.set_cons_succ, i64_w, i32_w]
              rfl
            refine pure_ (i := 19) (N := some 110) (v := ?_) (a' := ?_) #[true, true, true, true, true, true, true, true, true, true, true, true, true, true, true, true, true, true, true, true, false] rfl rfl (any_of HT_.out (by kernel_rfl)) (fun _ _ _ h => h) (Or.inl ⟨by rfl, ?_⟩) ?_ ?_
            rotate_left
            · intro w'
              go_simp
              with_reducible rfl
            rotate_left
            · simp only [Act.put, List.setIfInBounds_toArray, List.set_cons_zero, List.set_cons_succ, i64_w, i32_w]
              rfl
            refine pure_ (i := 20) (N := some 111) (v := ?_) (a' := ?_) #[true, true, true, true, true, true, true, true, true, true, true, true, true, true, true, true, true, true, true, true, true] rfl rfl (any_of HT_.out (by kernel_rfl)) (fun _ _ _ h => h) (Or.inl ⟨by rfl, ?_⟩) ?_ ?_
            rotate_left
            · intro w'
              go_simp
              with_reducible rfl
            rotate_left
            · simp only [Act.put, List.setIfInBounds_toArray, List.set_cons_zero, List.set_cons_succ, i64_w, i32_w]
              rfl
            refine done_ (done_of HT_.out (by kernel_rfl)) ?_
            clear HT_ HW_
            have hn3 := HNN.out.below HB3.out HNN.out.lt
            have hm3 := HAM.out.below HB3.out HAM.out.lt
            have zn := hn3.cell 0
            have fn := hn3.frozen 0
            simp at zn
            have HN3 := Lib.hid hn3
            have HM3 := Lib.hid hm3
            clear hn3 hm3
            gi_wp2_with fail
            clear hwk
            have hn4 := HN3.out.set_ 0 (.int .i64 ((k : Int) + 1))
            have hm4 := HM3.out.far (p := ⟨bn, 0, none⟩) (by show w.heap.size ≠ bn; have := HC8m.out.lt; have := HBN.out; omega) (.int .i64 ((k : Int) + 1))
            have hk4 : KeepsOthers W2 (w3.setCell ⟨bn, 0, none⟩ (.int .i64 ((k : Int) + 1))) := (KeepsOthers.of_grownBy (grown_of_below HB3.out none) (fun _ _ e _ => by cases e)).trans (KeepsOthers.setCell _ _ _)
            have hb4 : Below w8.heap.size W2 (w3.setCell ⟨bn, 0, none⟩ (.int .i64 ((k : Int) + 1))) := (HB3.out.mono HBB.out.size).setCell (by show w8.heap.size ≤ bn; have := HBN.out; omega) _
            generalize w3.setCell ⟨bn, 0, none⟩ (.int .i64 ((k : Int) + 1)) = w4 at hn4 hm4 hk4 hb4 ⊢
            clear zn fn
            have zn := hn4.cell 0
            have zm := hm4.cell 0
            simp at zn zm
            have HN4 := Lib.hid hn4
            have HK4 := Lib.hid hk4
            have HB4' := Lib.hid hb4
            clear hn4 hm4 hk4 hb4
            exact ⟨HK4.out, HB4'.out, HN4.out, HBB.out.trans HB4'.out, HK4.out.same _ _ HDD.out rfl⟩
          case done2 =>
            rintro D2 W hDs2 ⟨hn, hb, hd⟩ hD2
            rw [HN.out] at hn
            have hw2 := HW8.out.below hb HW8.out.lt
            have hr2 := HC8r.out.below hb HC8r.out.lt
            have HLW : Hid (Lent W w.heap.size gl cap l) := Lib.hid (Kd.R_below HL8.out hb)
            have hbw0 : Below w.heap.size w W := (HB4.out.trans (HC8.out.below HB4.out.size (by simp; omega))).trans (hb.mono (by have := HC8.out.size; have := HB4.out.size; omega))
            have HKP := Lib.hid (kept_any W w.heap.size gl cap c A l HLW.out hcap (Kd.C_below HC.out hbw0) (by omega))
            have HBW0 := Lib.hid hbw0
            have zn := hn.cell 0
            have zw := hw2.cell 0
            simp at zn zw
            have HR2 := Lib.hid hr2
            have HD1 := Lib.hid hd
            have HD2 := Lib.hid hD2
            clear hn hb hd hD2 hw2 hr2 hbw0
            go_wp2_with fail
            refine HKP.out.mono ?_
            rintro _ w11 ⟨rfl, hb11⟩
            have hr3 := HR2.out.below hb11 HR2.out.lt
            have zr := hr3.cell 0
            have fr := hr3.frozen 0
            simp at zr
            have HR3 := Lib.hid (hr3.set_ 0 (.bool true))
            have HD1 := Lib.hid ((KeepsOthers.setCell w11 ⟨w.heap.size + 1, 0, none⟩ (.bool true)).same D _ ((hb11.block _ (heap_lt' HD1.out)).trans HD1.out) rfl)
            have HD2 := Lib.hid ((KeepsOthers.setCell w11 ⟨w.heap.size + 1, 0, none⟩ (.bool true)).same D2 _ ((hb11.block _ (heap_lt' HD2.out)).trans HD2.out) rfl)
            have HBF : Hid (Below w.heap.size w (w11.setCell ⟨w.heap.size + 1, 0, none⟩ (.bool true))) := Lib.hid ((HBW0.out.trans (hb11.mono HBW0.out.size)).setCell (Nat.le_succ _) _)
            clear hr3 hb11
            go_wp2_with fail
            rw [← HPP.out]
            have hlt0 := HC8r.out.lt
            have hlt1 := HB9.out.size
            have hlt2 := heap_lt' HD10.out
            have hlt3 := HB4.out.size
            have hlt4 := heap_lt' HD1.out
            have hlt5 := heap_lt' HD2.out
            have hne : D ≠ D2 := by omega
            refine ⟨by simp, .inl ⟨_, _, rfl, run_takeDeferred HD2.out, ?_⟩⟩
            refine ⟨by simp, .inl ⟨_, _, rfl, run_takeDeferred ((World.putObj_heap_other hne).trans HD1.out), ?_⟩⟩
            refine ⟨_, results_bool rfl Try.underlying4 _ _ (w.heap.size + 1) true rfl ?_, rfl, below_put (below_put HBF.out HBF.out.size _ _ (by omega)) (by rw [World.putObj_size]; exact HBF.out.size) _ _ (by omega)⟩
            refine (World.cell?_of_block ((World.putObj_heap_other (by show w.heap.size + 1 ≠ D; omega)).trans (World.putObj_heap_other (by show w.heap.size + 1 ≠ D2; omega)))).trans ?_
            exact HR3.out.cell 0
          case stop2 =>
            rintro D2 c W hDs h hD2
            exact h.elim
        · have b0 : decide ((0 : Int) < most) = true := decide_eq_true (by omega)
          have b1 : decide (most < (N : Int)) = false := decide_eq_false (by omega)
          go_upto_region 27 with fail
          have hn10 := HNW.out.set_ 0 (.int .i64 0)
          have hb10 : Below w8.heap.size w8 (W.setCell ⟨bn, 0, none⟩ (.int .i64 0)) := HBW.out.setCell (by show w8.heap.size ≤ bn; have := HBN.out; omega) _
          have hd10 : (W.setCell ⟨bn, 0, none⟩ (.int .i64 0)).heap[D]? = some (.deferred (some [])) := (KeepsOthers.setCell W _ _).same D _ HDW.out rfl
          generalize W.setCell ⟨bn, 0, none⟩ (.int .i64 0) = W10 at hn10 hb10 hd10 ⊢
          have HN10 := Lib.hid hn10
          have HB10 := Lib.hid hb10
          have HD10 := Lib.hid hd10
          clear hn10 hb10 hd10 zn fn zw zm HNW HBW HDW
          go_wp2_with fail
          refine wpIn_wide.1 (range_msgs 1 bx (some ⟨gl, 0, none⟩) cap l w8 HX8.out HL8.out.C.1 (by omega) HBy8 (by omega) rfl HB10.out
            (fun k W => Blk W bn 3 #[.int .i64 k] ∧ Below w8.heap.size w8 W ∧ W.heap[D]? = some (.deferred (some []))) (fun c W => False)
            (fun k => (blk_calm HN10.out.lt).and ((below_calm (Nat.le_refl _) HB10.out.size).and (obj_calm (heap_lt' HD10.out)))) ?ix2 ⟨HN10.out, HB10.out, HD10.out⟩ ?round2 ?done2 ?stop2)
          case ix2 => exact fun c W W' row h hg hr => h
          case round2 =>
            intro lp k m p Av cv W hWs hI hT hCv hcv
            obtain ⟨hn, hb, hd⟩ := hI
            have hkN : k < N := by
              have h1 := (List.getElem?_eq_some_iff.1 hT).1
              rw [HN.out] at h1
              exact h1
            have hM1 : (((allM l).map Prod.fst).getD k zM) = m := by rw [List.getD_eq_getElem?_getD, List.getElem?_map, hT]; rfl
            have hP1 : (((allM l).map fun x => (x.2 : Int)).getD k 0) = p := by rw [List.getD_eq_getElem?_getD, List.getElem?_map, hT]; rfl
            have hGm : (∀ v ∈ m.pl, Good v) ∧ m.pl.length ≤ 4096 := allM_good hT
            have HQ := Lib.hid (Blk.new W 57 #[.int .i64 m.id, .string m.tag, .slice Av m.pl.length cv])
            have HWq : Hid (Below W.heap.size W (W.alloc (.cells #[.int .i64 m.id, .string m.tag, .slice Av m.pl.length cv] 57))) := Lib.hid ((Below.refl _ _).alloc (Nat.le_refl _) _)
            have HCv := Lib.hid hCv
            have HNb := Lib.hid hn
            have HBb := Lib.hid hb
            have HDb := Lib.hid hd
            clear hd
            clear hCv hn hb
            simp only [List.setIfInBounds_toArray, List.set_cons_zero, List.set_cons_succ]
            gi_wp2_with fail
            refine ⟨HWq.out, fun W2 hT2 => ?_⟩
            have hn2 := hT2.blk (HNb.out.alloc (.cells #[.int .i64 m.id, .string m.tag, .slice Av m.pl.length cv] 57))
            have hb2 := hT2.calm (below_calm (Nat.le_refl w8.heap.size) HB10.out.size) (HBb.out.trans (HWq.out.mono HBb.out.size))
            have hq2 := hT2.blk HQ.out
            have hcv2 := C_cells (Kd.C_below HCv.out HWq.out) (fun a v h => hT2.cell h)
            obtain ⟨q, hq⟩ : ∃ q, W.heap.size = q := ⟨_, rfl⟩
            rw [hq] at hq2 ⊢
            have HDD := Lib.hid (hT2.calm (obj_calm (heap_lt' HD10.out)) ((HWq.out.block _ (heap_lt' HDb.out)).trans HDb.out))
            clear hT2 HWq HQ HCv HNb HBb hq
            have hw2 := HW8.out.below hb2 HW8.out.lt
            have hp2 := HP8.out.below hb2 HP8.out.lt
            have hA2 := (HC8m.out).below hb2 HC8m.out.lt
            have hr1 := Kd.R_reads' HR18.out
            have hr2 := Kd.R_reads' HR28.out
            obtain ⟨ad, Bv, dv, hA1, e0, e1, e2, hbl, hbC⟩ := at_Ms (Kd.C_below hr1.2.2 hb2) k (by rw [← hr1.1]; exact hkN)
            obtain ⟨ad2, hA2', g0⟩ := at_pl (Kd.C_below hr2.2.2 hb2) k (by rw [← hr2.1]; exact hkN)
            rw [hM1] at e0 e1 e2 hbl hbC
            rw [hP1] at g0
            have HA1 := Lib.hid hA1
            have HA2 := Lib.hid hA2'
            clear hr1 hr2 hA1 hA2'
            have keep : ∀ {w' : World} {a : Addr} {v : Value}, Below W2.heap.size W2 w' → W2.cell? a = some v → w'.cell? a = some v := fun h z => (World.cell?_of_block (h.block _ (World.block_lt_of_cell? W2 _ z))).trans z
            have zn := hn2.cell 0
            have zw := hw2.cell 0
            have zp := hp2.cell 0
            have zm := hA2.cell 0
            have q0 := hq2.cell 0
            have q1 := hq2.cell 1
            have q2 := hq2.cell 2
            simp at zn zw zp zm q0 q1 q2
            have hA1 := HA1.out
            have hA2' := HA2.out
            rw [hA1] at zw
            rw [hA2'] at zp
            have HSX : Hid (∀ w', Below W2.heap.size W2 w' → w'.cell? ⟨bn, 0, none⟩ = some (.int .i64 k) ∧ w'.cell? ⟨bw, 0, none⟩ = some (.slice (some ad) N c1) ∧ w'.cell? ⟨q, 0, none⟩ = some (.int .i64 m.id) ∧ w'.cell? ⟨q, 1, none⟩ = some (.string m.tag) ∧ w'.cell? ⟨q, 2, none⟩ = some (.slice Av m.pl.length cv) ∧ w'.cell? (ad.add (k * 3)) = some (.int .i64 m.id) ∧ w'.cell? ⟨(ad.add (k * 3)).block, (ad.add (k * 3)).off + 1, none⟩ = some (.string m.tag) ∧ w'.cell? ⟨(ad.add (k * 3)).block, (ad.add (k * 3)).off + 2, none⟩ = some (.slice Bv m.pl.length dv) ∧ w'.cell? ⟨bw + 1, 0, none⟩ = some (.slice (some ad2) N c2) ∧ w'.cell? (ad2.add k) = some (.int .i64 p)) := Lib.hid (fun w' h => ⟨keep h zn, keep h zw, keep h q0, keep h q1, keep h q2, keep h e0, keep h e1, keep h e2, keep h zp, keep h g0⟩)
            have HMS := Lib.hid (fun (W : World) (h : Below W2.heap.size W2 W) => message_any m.id m.tag Av Bv cv dv m.pl W (Kd.C_below hcv2 h) (Kd.C_below hbC h) hGm.1 hGm.2)
            have d0 : decide ((N : Int) ≤ (k : Int)) = false := decide_eq_false (by omega)
            have d1 : decide (N ≤ k) = false := decide_eq_false (by omega)
            have d2 : decide ((k : Int) < (N : Int)) = true := decide_eq_true (by omega)
            have d3 : decide (k < N) = true := decide_eq_true hkN
            have HNN := Lib.hid hn2
            have HBB := Lib.hid hb2
            have HAM := Lib.hid hA2
            have hwk : wrap64 ((k : Int) + 1) = (k : Int) + 1 := by have := HNL.out; unfold wrap64; omega
            clear keep zn zw zp zm q0 q1 q2 e0 e1 e2 g0 hn2 hb2 hq2 hcv2 hw2 hp2 hA2 hbl hbC hGm hM1 hP1
            gi_wp2_with fail
            refine startIn_ (n := 21) (S := fun w' => Below W2.heap.size W2 w') (ds := []) #[false, false, false, false, false, false, false, false, false, false, false, false, false, false, false, false, false, false, false, false, false] (by kernel_rfl) (by kernel_rfl) (by rintro ⟨a, w, h⟩; exact h) rfl rfl ((Below.refl _ W2).drew) (fun hHeld => ?_)
            refine with_tabW tab30 bits17 (fun HT_ HW_ => ?_)
            refine take_ (i := 0) (N := some 91) (v := ?_) (a' := ?_) #[true, false, false, false, false, false, false, false, false, false, false, false, false, false, false, false, false, false, false, false, false] rfl rfl (take_ofW HT_.out HW_.out (by kernel_rfl)) (fun _ _ _ h => h) (Or.inl ⟨by rfl, ?_⟩) hHeld ?_ ?_
            rotate_left
            · intro w' HS_
              obtain ⟨s0, s1, s2, s3, s4, s5, s6, s7, s8, s9⟩ := HSX.out _ HS_
              go_simp
              with_reducible rfl
            rotate_left
            · simp only [Act.put, List.setIfInBounds_toArray, List.set_cons_zero, List.set_cons_succ, i64_w, i32_w]
              rfl
            refine take_ (i := 1) (N := some 92) (v := ?_) (a' := ?_) #[true, true, false, false, false, false, false, false, false, false, false, false, false, false, false, false, false, false, false, false, false] rfl rfl (take_ofW HT_.out HW_.out (by kernel_rfl)) (fun _ _ _ h => h) (Or.inl ⟨by rfl, ?_⟩) hHeld ?_ ?_
            rotate_left
            · intro w' HS_
              obtain ⟨s0, s1, s2, s3, s4, s5, s6, s7, s8, s9⟩ := HSX.out _ HS_
              go_simp
              with_reducible rfl
            rotate_left
            · simp only [Act.put, List.setIfInBounds_toArray, List.set_cons_zero, List.set_cons_succ, i64_w, i32_w]
              rfl
            refine pure_ (i := 2) (N := some 93) (v := ?_) (a' := ?_) #[true, true, true, false, false, false, false, false, false, false, false, false, false, false, false, false, false, false, false, false, false] rfl rfl (any_of HT_.out (by kernel_rfl)) (fun _ _ _ h => h) (Or.inl ⟨by rfl, ?_⟩) ?_ ?_
            rotate_left
            · intro w'
              go_simp
              with_reducible rfl
            rotate_left
            · simp only [Act.put, List.setIfInBounds_toArray, List.set_cons_zero, List.set_cons_succ, i64_w, i32_w]
              rfl
            refine pure_ (i := 3) (N := some 94) (v := ?_) (a' := ?_) #[true, true, true, true, false, false, false, false, false, false, false, false, false, false, false, false, false, false, false, false, false] rfl rfl (any_of HT_.out (by kernel_rfl)) (fun _ _ _ h => h) (Or.inl ⟨by rfl, ?_⟩) ?_ ?_
            rotate_left
            · intro w'
              go_simp
              with_reducible rfl
            rotate_left
            · simp only [Act.put, List.setIfInBounds_toArray, List.set_cons_zero, List.set_cons_succ, i64_w, i32_w]
              rfl
            refine pure_ (i := 4) (N := some 95) (v := ?_) (a' := ?_) #[true, true, true, true, true, false, false, false, false, false, false, false, false, false, false, false, false, false, false, false, false] rfl rfl (any_of HT_.out (by kernel_rfl)) (fun _ _ _ h => h) (Or.inl ⟨by rfl, ?_⟩) ?_ ?_
            rotate_left
            · intro w'
              go_simp
              with_reducible rfl
            rotate_left
            · simp only [Act.put, List.setIfInBounds_toArray, List.set_cons_zero, List.set_cons_succ, i64_w, i32_w]
              rfl
            refine take_ (i := 5) (N := some 96) (v := ?_) (a' := ?_) #[true, true, true, true, true, true, false, false, false, false, false, false, false, false, false, false, false, false, false, false, false] rfl rfl (take_ofW HT_.out HW_.out (by kernel_rfl)) (fun _ _ _ h => h) (Or.inl ⟨by rfl, ?_⟩) hHeld ?_ ?_
            rotate_left
            · intro w' HS_
              obtain ⟨s0, s1, s2, s3, s4, s5, s6, s7, s8, s9⟩ := HSX.out _ HS_
              go_simp
              with_reducible rfl
            rotate_left
            · simp only [Act.put, List.setIfInBounds_toArray, List.set_cons_zero, List.set_cons_succ, i64_w, i32_w]
              rfl
            refine take_ (i := 6) (N := some 97) (v := ?_) (a' := ?_) #[true, true, true, true, true, true, true, false, false, false, false, false, false, false, false, false, false, false, false, false, false] rfl rfl (take_ofW HT_.out HW_.out (by kernel_rfl)) (fun _ _ _ h => h) (Or.inl ⟨by rfl, ?_⟩) hHeld ?_ ?_
            rotate_left
            · intro w' HS_
              obtain ⟨s0, s1, s2, s3, s4, s5, s6, s7, s8, s9⟩ := HSX.out _ HS_
              go_simp
              with_reducible rfl
            rotate_left
            · simp only [Act.put, List.setIfInBounds_toArray, List.set_cons_zero, List.set_cons_succ, i64_w, i32_w]
              rfl
            refine take_ (i := 7) (N := some 98) (v := ?_) (a' := ?_) #[true, true, true, true, true, true, true, true, false, false, false, false, false, false, false, false, false, false, false, false, false] rfl rfl (take_ofW HT_.out HW_.out (by kernel_rfl)) (fun _ _ _ h => h) (Or.inl ⟨by rfl, ?_⟩) hHeld ?_ ?_
            rotate_left
            · intro w' HS_
              obtain ⟨s0, s1, s2, s3, s4, s5, s6, s7, s8, s9⟩ := HSX.out _ HS_
              go_simp
              with_reducible rfl
            rotate_left
            · simp only [Act.put, List.setIfInBounds_toArray, List.set_cons_zero, List.set_cons_succ, i64_w, i32_w]
              rfl
            refine pure_ (i := 8) (N := some 99) (v := ?_) (a' := ?_) #[true, true, true, true, true, true, true, true, true, false, false, false, false, false, false, false, false, false, false, false, false] rfl rfl (any_of HT_.out (by kernel_rfl)) (fun _ _ _ h => h) (Or.inl ⟨by rfl, ?_⟩) ?_ ?_
            rotate_left
            · intro w'
              go_simp
              with_reducible rfl
            rotate_left
            · simp only [Act.put, List.setIfInBounds_toArray, List.set_cons_zero, List.set_cons_succ, i64_w, i32_w]
              rfl
            refine take_ (i := 9) (N := some 100) (v := ?_) (a' := ?_) #[true, true, true, true, true, true, true, true, true, true, false, false, false, false, false, false, false, false, false, false, false] rfl rfl (take_ofW HT_.out HW_.out (by kernel_rfl)) (fun _ _ _ h => h) (Or.inl ⟨by rfl, ?_⟩) hHeld ?_ ?_
            rotate_left
            · intro w' HS_
              obtain ⟨s0, s1, s2, s3, s4, s5, s6, s7, s8, s9⟩ := HSX.out _ HS_
              go_simp
              with_reducible rfl
            rotate_left
            · simp only [Act.put, List.setIfInBounds_toArray, List.set_cons_zero, List.set_cons_succ, i64_w, i32_w]
              rfl
            refine one_ (i := 10) (N := some 101) #[true, true, true, true, true, true, true, true, true, true, true, false, false, false, false, false, false, false, false, false, false] rfl rfl (one_of HT_.out (by kernel_rfl)) (by decide) (fun K hK => ?_)
            refine goes_ Try.func27 (by kernel_rfl) rfl #[.agg #[.int .i64 m.id, .string m.tag, .slice Av m.pl.length cv], .agg #[.int .i64 m.id, .string m.tag, .slice Bv m.pl.length dv]] (by rfl) rfl rfl (by simp only [List.map_toArray, List.map_cons, List.map_nil]; rfl) ?_
            refine (HMS.out _ ((Below.refl _ W2).drew)).mono ?_
            rintro _ w3 ⟨rfl, hd⟩
            have HB3 : Hid (Below W2.heap.size W2 w3) := Lib.hid (((Below.refl W2.heap.size W2).drew).trans (hd.mono (Nat.le_refl _)))
            refine ⟨_, rfl, ?_⟩
            refine hK.out _ _ HB3.out (fun hHeld => ?_)
            clear hK K hd
            refine norm_ (a' := ?_) ?_ ?_
            rotate_left
            · show Act.put _ (some 101) _ = _
              simp only [Act.put, List.setIfInBounds_toArray, List.set_cons_zero, List.set_cons_succ, i64_w, i32_w]
              rfl
            refine pure_ (i := 11) (N := some 102) (v := ?_) (a' := ?_) #[true, true, true, true, true, true, true, true, true, true, true, true, false, false, false, false, false, false, false, false, false] rfl rfl (any_of HT_.out (by kernel_rfl)) (fun _ _ _ h => h) (Or.inl ⟨by rfl, ?_⟩) ?_ ?_
            rotate_left
            · intro w'
              go_simp
              with_reducible rfl
            rotate_left
            · simp only [Act.put, List.setIfInBounds_toArray, List.set_cons_zero, List.set_cons_succ, i64_w, i32_w]
              rfl
            refine pure_ (i := 12) (N := some 103) (v := ?_) (a' := ?_) #[true, true, true, true, true, true, true, true, true, true, true, true, true, false, false, false, false, false, false, false, false] rfl rfl (any_of HT_.out (by kernel_rfl)) (fun _ _ _ h => h) (Or.inl ⟨by rfl, ?_⟩) ?_ ?_
            rotate_left
            · intro w'
              go_simp
              with_reducible rfl
            rotate_left
            · simp only [Act.put, List.setIfInBounds_toArray, List.set_cons_zero, List.set_cons_succ, i64_w, i32_w]
              rfl
            refine pure_ (i := 13) (N := some 104) (v := ?_) (a' := ?_) #[true, true, true, true, true, true, true, true, true, true, true, true, true, true, false, false, false, false, false, false, false] rfl rfl (any_of HT_.out (by kernel_rfl)) (fun _ _ _ h => h) (Or.inl ⟨by rfl, ?_⟩) ?_ ?_
            rotate_left
            · intro w'
              go_simp
              with_reducible rfl
            rotate_left
            · simp only [Act.put, List.setIfInBounds_toArray, List.set_cons_zero, List.set_cons_succ, i64_w, i32_w]
              rfl
            refine pure_ (i := 14) (N := some 105) (v := ?_) (a' := ?_) #[true, true, true, true, true, true, true, true, true, true, true, true, true, true, true, false, false, false, false, false, false] rfl rfl (any_of HT_.out (by kernel_rfl)) (fun _ _ _ h => h) (Or.inl ⟨by rfl, ?_⟩) ?_ ?_
            rotate_left
            · intro w'
              go_simp
              with_reducible rfl
            rotate_left
            · simp only [Act.put, List.setIfInBounds_toArray, List.set_cons_zero, List.set_cons_succ, i64_w, i32_w]
              rfl
            refine take_ (i := 15) (N := some 106) (v := ?_) (a' := ?_) #[true, true, true, true, true, true, true, true, true, true, true, true, true, true, true, true, false, false, false, false, false] rfl rfl (take_ofW HT_.out HW_.out (by kernel_rfl)) (fun _ _ _ h => h) (Or.inl ⟨by rfl, ?_⟩) hHeld ?_ ?_
            rotate_left
            · intro w' HS_
              obtain ⟨s0, s1, s2, s3, s4, s5, s6, s7, s8, s9⟩ := HSX.out _ HS_
              go_simp
              with_reducible rfl
            rotate_left
            · simp only [Act.put, List.setIfInBounds_toArray, List.set_cons_zero, List.set_cons_succ, i64_w, i32_w]
              rfl
            refine take_ (i := 16) (N := some 107) (v := ?_) (a' := ?_) #[true, true, true, true, true, true, true, true, true, true, true, true, true, true, true, true, true, false, false, false, false] rfl rfl (take_ofW HT_.out HW_.out (by kernel_rfl)) (fun _ _ _ h => h) (Or.inl ⟨by rfl, ?_⟩) hHeld ?_ ?_
            rotate_left
            · intro w' HS_
              obtain ⟨s0, s1, s2, s3, s4, s5, s6, s7, s8, s9⟩ := HSX.out _ HS_
              go_simp
              with_reducible rfl
            rotate_left
            · simp only [Act.put, List.setIfInBounds_toArray, List.set_cons_zero, List.set_cons_succ, i64_w, i32_w]
              rfl
            refine pure_ (i := 17) (N := some 108) (v := ?_) (a' := ?_) #[true, true, true, true, true, true, true, true, true, true, true, true, true, true, true, true, true, true, false, false, false] rfl rfl (any_of HT_.out (by kernel_rfl)) (fun _ _ _ h => h) (Or.inl ⟨by rfl, ?_⟩) ?_ ?_
            rotate_left
            · intro w'
              go_simp
              with_reducible rfl
            rotate_left
            · simp only [Act.put, List.setIfInBounds_toArray, List.set_cons_zero, List.set_cons_succ, i64_w, i32_w]
              rfl
            refine take_ (i := 18) (N := some 109) (v := ?_) (a' := ?_) #[true, true, true, true, true, true, true, true, true, true, true, true, true, true, true, true, true, true, true, false, false] rfl rfl (take_ofW HT_.out HW_.out (by kernel_rfl)) (fun _ _ _ h => h) (Or.inl ⟨by rfl, ?_⟩) hHeld ?_ ?_
            rotate_left
            · intro w' HS_
              obtain ⟨s0, s1, s2, s3, s4, s5, s6, s7, s8, s9⟩ := HSX.out _ HS_
              go_simp
              with_reducible rfl
            rotate_left
            · simp only [Act.put, List.setIfInBounds_toArray, List.set_cons_zero, List.set_cons_succ, i64_w, i32_w]
              rfl
            refine pure_ (i := 19) (N := some 110) (v := ?_) (a' := ?_) #[true, true, true, true, true, true, true, true, true, true, true, true, true, true, true, true, true, true, true, true, false] rfl rfl (any_of HT_.out (by kernel_rfl)) (fun _ _ _ h => h) (Or.inl ⟨by rfl, ?_⟩) ?_ ?_
            rotate_left
            · intro w'
              go_simp
              with_reducible rfl
            rotate_left
            · simp only [Act.put, List.setIfInBounds_toArray, List.set_cons_zero, List.set_cons_succ, i64_w, i32_w]
              rfl
            refine pure_ (i := 20) (N := some 111) (v := ?_) (a' := ?_) #[true, true, true, true, true, true, true, true, true, true, true, true, true, true, true, true, true, true, true, true, true] rfl rfl (any_of HT_.out (by kernel_rfl)) (fun _ _ _ h => h) (Or.inl ⟨by rfl, ?_⟩) ?_ ?_
            rotate_left
            · intro w'
              go_simp
              with_reducible rfl
            rotate_left
            · simp only [Act.put, List.setIfInBounds_toArray, List.set_cons_zero, List.set_cons_succ, i64_w, i32_w]
              rfl
            refine done_ (done_of HT_.out (by kernel_rfl)) ?_
            clear HT_ HW_
            have hn3 := HNN.out.below HB3.out HNN.out.lt
            have hm3 := HAM.out.below HB3.out HAM.out.lt
            have zn := hn3.cell 0
            have fn := hn3.frozen 0
            simp at zn
            have HN3 := Lib.hid hn3
            have HM3 := Lib.hid hm3
            clear hn3 hm3
            gi_wp2_with fail
            clear hwk
            have hn4 := HN3.out.set_ 0 (.int .i64 ((k : Int) + 1))
            have hm4 := HM3.out.far (p := ⟨bn, 0, none⟩) (by show w.heap.size ≠ bn; have := HC8m.out.lt; have := HBN.out; omega) (.int .i64 ((k : Int) + 1))
            have hk4 : KeepsOthers W2 (w3.setCell ⟨bn, 0, none⟩ (.int .i64 ((k : Int) + 1))) := (KeepsOthers.of_grownBy (grown_of_below HB3.out none) (fun _ _ e _ => by cases e)).trans (KeepsOthers.setCell _ _ _)
            have hb4 : Below w8.heap.size W2 (w3.setCell ⟨bn, 0, none⟩ (.int .i64 ((k : Int) + 1))) := (HB3.out.mono HBB.out.size).setCell (by show w8.heap.size ≤ bn; have := HBN.out; omega) _
            generalize w3.setCell ⟨bn, 0, none⟩ (.int .i64 ((k : Int) + 1)) = w4 at hn4 hm4 hk4 hb4 ⊢
            clear zn fn
            have zn := hn4.cell 0
            have zm := hm4.cell 0
            simp at zn zm
            have HN4 := Lib.hid hn4
            have HK4 := Lib.hid hk4
            have HB4' := Lib.hid hb4
            clear hn4 hm4 hk4 hb4
            exact ⟨HK4.out, HB4'.out, HN4.out, HBB.out.trans HB4'.out, HK4.out.same _ _ HDD.out rfl⟩
          case done2 =>
            rintro D2 W hDs2 ⟨hn, hb, hd⟩ hD2
            rw [HN.out] at hn
            have hw2 := HW8.out.below hb HW8.out.lt
            have hr2 := HC8r.out.below hb HC8r.out.lt
            have HLW : Hid (Lent W w.heap.size gl cap l) := Lib.hid (Kd.R_below HL8.out hb)
            have hbw0 : Below w.heap.size w W := (HB4.out.trans (HC8.out.below HB4.out.size (by simp; omega))).trans (hb.mono (by have := HC8.out.size; have := HB4.out.size; omega))
            have HKP := Lib.hid (kept_any W w.heap.size gl cap c A l HLW.out hcap (Kd.C_below HC.out hbw0) (by omega))
            have HBW0 := Lib.hid hbw0
            have zn := hn.cell 0
            have zw := hw2.cell 0
            simp at zn zw
            have HR2 := Lib.hid hr2
            have HD1 := Lib.hid hd
            have HD2 := Lib.hid hD2
            clear hn hb hd hD2 hw2 hr2 hbw0
            go_wp2_with fail
            refine HKP.out.mono ?_
            rintro _ w11 ⟨rfl, hb11⟩
            have hr3 := HR2.out.below hb11 HR2.out.lt
            have zr := hr3.cell 0
            have fr := hr3.frozen 0
            simp at zr
            have HR3 := Lib.hid (hr3.set_ 0 (.bool true))
            have HD1 := Lib.hid ((KeepsOthers.setCell w11 ⟨w.heap.size + 1, 0, none⟩ (.bool true)).same D _ ((hb11.block _ (heap_lt' HD1.out)).trans HD1.out) rfl)
            have HD2 := Lib.hid ((KeepsOthers.setCell w11 ⟨w.heap.size + 1, 0, none⟩ (.bool true)).same D2 _ ((hb11.block _ (heap_lt' HD2.out)).trans HD2.out) rfl)
            have HBF : Hid (Below w.heap.size w (w11.setCell ⟨w.heap.size + 1, 0, none⟩ (.bool true))) := Lib.hid ((HBW0.out.trans (hb11.mono HBW0.out.size)).setCell (Nat.le_succ _) _)
            clear hr3 hb11
            go_wp2_with fail
            rw [← HPP.out]
            have hlt0 := HC8r.out.lt
            have hlt1 := HB9.out.size
            have hlt2 := heap_lt' HD10.out
            have hlt3 := HB4.out.size
            have hlt4 := heap_lt' HD1.out
            have hlt5 := heap_lt' HD2.out
            have hne : D ≠ D2 := by omega
            refine ⟨by simp, .inl ⟨_, _, rfl, run_takeDeferred HD2.out, ?_⟩⟩
            refine ⟨by simp, .inl ⟨_, _, rfl, run_takeDeferred ((World.putObj_heap_other hne).trans HD1.out), ?_⟩⟩
            refine ⟨_, results_bool rfl Try.underlying4 _ _ (w.heap.size + 1) true rfl ?_, rfl, below_put (below_put HBF.out HBF.out.size _ _ (by omega)) (by rw [World.putObj_size]; exact HBF.out.size) _ _ (by omega)⟩
            refine (World.cell?_of_block ((World.putObj_heap_other (by show w.heap.size + 1 ≠ D; omega)).trans (World.putObj_heap_other (by show w.heap.size + 1 ≠ D2; omega)))).trans ?_
            exact HR3.out.cell 0
          case stop2 =>
            rintro D2 c W hDs h hD2
            exact h.elim
      case stop =>
        rintro D c W hDs ⟨k, rfl, hkm, hk1, hkN, hn, hb⟩ hDd
        have hw2 := HW8.out.below hb HW8.out.lt
        have hm2 := HC8m.out.below hb HC8m.out.lt
        have zn := hn.cell 0
        have fn := hn.frozen 0
        have zw := hw2.cell 0
        have zm := hm2.cell 0
        simp at zn zw zm
        have HNW := Lib.hid hn
        have HBW := Lib.hid hb
        have HDW := Lib.hid hDd
        clear hn hb hDd hw2 hm2
        have b0 : decide ((0 : Int) < most) = true := decide_eq_true (by omega)
        by_cases hlt : most < (N : Int)
        · have b1 : decide (most < (N : Int)) = true := decide_eq_true hlt
          have b2 : ((k : Int) == most) = true := by simpa using hkm
          refine wpIn_wide.2 ?_
          go_upto_region 27 with fail
          have hn10 := HNW.out.set_ 0 (.int .i64 0)
          have hb10 : Below w8.heap.size w8 (W.setCell ⟨bn, 0, none⟩ (.int .i64 0)) := HBW.out.setCell (by show w8.heap.size ≤ bn; have := HBN.out; omega) _
          have hd10 : (W.setCell ⟨bn, 0, none⟩ (.int .i64 0)).heap[D]? = some (.deferred (some [])) := (KeepsOthers.setCell W _ _).same D _ HDW.out rfl
          generalize W.setCell ⟨bn, 0, none⟩ (.int .i64 0) = W10 at hn10 hb10 hd10 ⊢
          have HN10 := Lib.hid hn10
          have HB10 := Lib.hid hb10
          have HD10 := Lib.hid hd10
          clear hn10 hb10 hd10 zn fn zw zm HNW HBW HDW
          go_wp2_with fail
          refine wpIn_wide.1 (range_msgs 1 bx (some ⟨gl, 0, none⟩) cap l w8 HX8.out HL8.out.C.1 (by omega) HBy8 (by omega) rfl HB10.out
            (fun k W => Blk W bn 3 #[.int .i64 k] ∧ Below w8.heap.size w8 W ∧ W.heap[D]? = some (.deferred (some []))) (fun c W => False)
            (fun k => (blk_calm HN10.out.lt).and ((below_calm (Nat.le_refl _) HB10.out.size).and (obj_calm (heap_lt' HD10.out)))) ?ix2 ⟨HN10.out, HB10.out, HD10.out⟩ ?round2 ?done2 ?stop2)
          case ix2 => exact fun c W W' row h hg hr => h
          case round2 =>
            intro lp k m p Av cv W hWs hI hT hCv hcv
            obtain ⟨hn, hb, hd⟩ := hI
            have hkN : k < N := by
              have h1 := (List.getElem?_eq_some_iff.1 hT).1
              rw [HN.out] at h1
              exact h1
            have hM1 : (((allM l).map Prod.fst).getD k zM) = m := by rw [List.getD_eq_getElem?_getD, List.getElem?_map, hT]; rfl
            have hP1 : (((allM l).map fun x => (x.2 : Int)).getD k 0) = p := by rw [List.getD_eq_getElem?_getD, List.getElem?_map, hT]; rfl
            have hGm : (∀ v ∈ m.pl, Good v) ∧ m.pl.length ≤ 4096 := allM_good hT
            have HQ := Lib.hid (Blk.new W 57 #[.int .i64 m.id, .string m.tag, .slice Av m.pl.length cv])
            have HWq : Hid (Below W.heap.size W (W.alloc (.cells #[.int .i64 m.id, .string m.tag, .slice Av m.pl.length cv] 57))) := Lib.hid ((Below.refl _ _).alloc (Nat.le_refl _) _)
            have HCv := Lib.hid hCv
            have HNb := Lib.hid hn
            have HBb := Lib.hid hb
            have HDb := Lib.hid hd
            clear hd
            clear hCv hn hb
            simp only [List.setIfInBounds_toArray, List.set_cons_zero, List.set_cons_succ]
            gi_wp2_with fail
            refine ⟨HWq.out, fun W2 hT2 => ?_⟩
            have hn2 := hT2.blk (HNb.out.alloc (.cells #[.int .i64 m.id, .string m.tag, .slice Av m.pl.length cv] 57))
            have hb2 := hT2.calm (below_calm (Nat.le_refl w8.heap.size) HB10.out.size) (HBb.out.trans (HWq.out.mono HBb.out.size))
            have hq2 := hT2.blk HQ.out
            have hcv2 := C_cells (Kd.C_below HCv.out HWq.out) (fun a v h => hT2.cell h)
            obtain ⟨q, hq⟩ : ∃ q, W.heap.size = q := ⟨_, rfl⟩
            rw [hq] at hq2 ⊢
            have HDD := Lib.hid (hT2.calm (obj_calm (heap_lt' HD10.out)) ((HWq.out.block _ (heap_lt' HDb.out)).trans HDb.out))
            clear hT2 HWq HQ HCv HNb HBb hq
            have hw2 := HW8.out.below hb2 HW8.out.lt
            have hp2 := HP8.out.below hb2 HP8.out.lt
            have hA2 := (HC8m.out).below hb2 HC8m.out.lt
            have hr1 := Kd.R_reads' HR18.out
            have hr2 := Kd.R_reads' HR28.out
            obtain ⟨ad, Bv, dv, hA1, e0, e1, e2, hbl, hbC⟩ := at_Ms (Kd.C_below hr1.2.2 hb2) k (by rw [← hr1.1]; exact hkN)
            obtain ⟨ad2, hA2', g0⟩ := at_pl (Kd.C_below hr2.2.2 hb2) k (by rw [← hr2.1]; exact hkN)
            rw [hM1] at e0 e1 e2 hbl hbC
            rw [hP1] at g0
            have HA1 := Lib.hid hA1
            have HA2 := Lib.hid hA2'
            clear hr1 hr2 hA1 hA2'
            have keep : ∀ {w' : World} {a : Addr} {v : Value}, Below W2.heap.size W2 w' → W2.cell? a = some v → w'.cell? a = some v := fun h z => (World.cell?_of_block (h.block _ (World.block_lt_of_cell? W2 _ z))).trans z
            have zn := hn2.cell 0
            have zw := hw2.cell 0
            have zp := hp2.cell 0
            have zm := hA2.cell 0
            have q0 := hq2.cell 0
            have q1 := hq2.cell 1
            have q2 := hq2.cell 2
            simp at zn zw zp zm q0 q1 q2
            have hA1 := HA1.out
            have hA2' := HA2.out
            rw [hA1] at zw
            rw [hA2'] at zp
            have HSX : Hid (∀ w', Below W2.heap.size W2 w' → w'.cell? ⟨bn, 0, none⟩ = some (.int .i64 k) ∧ w'.cell? ⟨bw, 0, none⟩ = some (.slice (some ad) N c1) ∧ w'.cell? ⟨q, 0, none⟩ = some (.int .i64 m.id) ∧ w'.cell? ⟨q, 1, none⟩ = some (.string m.tag) ∧ w'.cell? ⟨q, 2, none⟩ = some (.slice Av m.pl.length cv) ∧ w'.cell? (ad.add (k * 3)) = some (.int .i64 m.id) ∧ w'.cell? ⟨(ad.add (k * 3)).block, (ad.add (k * 3)).off + 1, none⟩ = some (.string m.tag) ∧ w'.cell? ⟨(ad.add (k * 3)).block, (ad.add (k * 3)).off + 2, none⟩ = some (.slice Bv m.pl.length dv) ∧ w'.cell? ⟨bw + 1, 0, none⟩ = some (.slice (some ad2) N c2) ∧ w'.cell? (ad2.add k) = some (.int .i64 p)) := Lib.hid (fun w' h => ⟨keep h zn, keep h zw, keep h q0, keep h q1, keep h q2, keep h e0, keep h e1, keep h e2, keep h zp, keep h g0⟩)
            have HMS := Lib.hid (fun (W : World) (h : Below W2.heap.size W2 W) => message_any m.id m.tag Av Bv cv dv m.pl W (Kd.C_below hcv2 h) (Kd.C_below hbC h) hGm.1 hGm.2)
            have d0 : decide ((N : Int) ≤ (k : Int)) = false := decide_eq_false (by omega)
            have d1 : decide (N ≤ k) = false := decide_eq_false (by omega)
            have d2 : decide ((k : Int) < (N : Int)) = true := decide_eq_true (by omega)
            have d3 : decide (k < N) = true := decide_eq_true hkN
            have HNN := Lib.hid hn2
            have HBB := Lib.hid hb2
            have HAM := Lib.hid hA2
            have hwk : wrap64 ((k : Int) + 1) = (k : Int) + 1 := by have := HNL.out; unfold wrap64; omega
            clear keep zn zw zp zm q0 q1 q2 e0 e1 e2 g0 hn2 hb2 hq2 hcv2 hw2 hp2 hA2 hbl hbC hGm hM1 hP1
            gi_wp2_with fail
            refine startIn_ (n := 21) (S := fun w' => Below W2.heap.size W2 w') (ds := []) #[false, false, false, false, false, false, false, false, false, false, false, false, false, false, false, false, false, false, false, false, false] (by kernel_rfl) (by kernel_rfl) (by rintro ⟨a, w, h⟩; exact h) rfl rfl ((Below.refl _ W2).drew) (fun hHeld => ?_)
            refine with_tabW tab30 bits17 (fun HT_ HW_ => ?_)
            refine take_ (i := 0) (N := some 91) (v := ?_) (a' := ?_) #[true, false, false, false, false, false, false, false, false, false, false, false, false, false, false, false, false, false, false, false, false] rfl rfl (take_ofW HT_.out HW_.out (by kernel_rfl)) (fun _ _ _ h => h) (Or.inl ⟨by rfl, ?_⟩) hHeld ?_ ?_
            rotate_left
            · intro w' HS_
              obtain ⟨s0, s1, s2, s3, s4, s5, s6, s7, s8, s9⟩ := HSX.out _ HS_
              go_simp
              with_reducible rfl
            rotate_left
            · simp only [Act.put, List.setIfInBounds_toArray, List.set_cons_zero, List.set_cons_succ, i64_w, i32_w]
              rfl
            refine take_ (i := 1) (N := some 92) (v := ?_) (a' := ?_) #[true, true, false, false, false, false, false, false, false, false, false, false, false, false, false, false, false, false, false, false, false] rfl rfl (take_ofW HT_.out HW_.out (by kernel_rfl)) (fun _ _ _ h => h) (Or.inl ⟨by rfl, ?_⟩) hHeld ?_ ?_
            rotate_left
            · intro w' HS_
              obtain ⟨s0, s1, s2, s3, s4, s5, s6, s7, s8, s9⟩ := HSX.out _ HS_
              go_simp
              with_reducible rfl
            rotate_left
            · simp only [Act.put, List.setIfInBounds_toArray, List.set_cons_zero, List.set_cons_succ, i64_w, i32_w]
              rfl
            refine pure_ (i := 2) (N := some 93) (v := ?_) (a' := ?_) #[true, true, true, false, false, false, false, false, false, false, false, false, false, false, false, false, false, false, false, false, false] rfl rfl (any_of HT_.out (by kernel_rfl)) (fun _ _ _ h => h) (Or.inl ⟨by rfl, ?_⟩) ?_ ?_
            rotate_left
            · intro w'
              go_simp
              with_reducible rfl
            rotate_left
            · simp only [Act.put, List.setIfInBounds_toArray, List.set_cons_zero, List.set_cons_succ, i64_w, i32_w]
              rfl
            refine pure_ (i := 3) (N := some 94) (v := ?_) (a' := ?_) #[true, true, true, true, false, false, false, false, false, false, false, false, false, false, false, false, false, false, false, false, false] rfl rfl (any_of HT_.out (by kernel_rfl)) (fun _ _ _ h => h) (Or.inl ⟨by rfl, ?_⟩) ?_ ?_
            rotate_left
            · intro w'
              go_simp
              with_reducible rfl
            rotate_left
            · simp only [Act.put, List.setIfInBounds_toArray, List.set_cons_zero, List.set_cons_succ, i64_w, i32_w]
              rfl
            refine pure_ (i := 4) (N := some 95) (v := ?_) (a' := ?_) #[true, true, true, true, true, false, false, false, false, false, false, false, false, false, false, false, false, false, false, false, false] rfl rfl (any_of HT_.out (by kernel_rfl)) (fun _ _ _ h => h) (Or.inl ⟨by rfl, ?_⟩) ?_ ?_
            rotate_left
            · intro w'
              go_simp
              with_reducible rfl
            rotate_left
            · simp only [Act.put, List.setIfInBounds_toArray, List.set_cons_zero, List.set_cons_succ, i64_w, i32_w]
              rfl
            refine take_ (i := 5) (N := some 96) (v := ?_) (a' := ?_) #[true, true, true, true, true, true, false, false, false, false, false, false, false, false, false, false, false, false, false, false, false] rfl rfl (take_ofW HT_.out HW_.out (by kernel_rfl)) (fun _ _ _ h => h) (Or.inl ⟨by rfl, ?_⟩) hHeld ?_ ?_
            rotate_left
            · intro w' HS_
              obtain ⟨s0, s1, s2, s3, s4, s5, s6, s7, s8, s9⟩ := HSX.out _ HS_
              go_simp
              with_reducible rfl
            rotate_left
            · simp only [Act.put, List.setIfInBounds_toArray, List.set_cons_zero, List.set_cons_succ, i64_w, i32_w]
              rfl
            refine take_ (i := 6) (N := some 97) (v := ?_) (a' := ?_) #[true, true, true, true, true, true, true, false, false, false, false, false, false, false, false, false, false, false, false, false, false] rfl rfl (take_ofW HT_.out HW_.out (by kernel_rfl)) (fun _ _ _ h => h) (Or.inl ⟨by rfl, ?_⟩) hHeld ?_ ?_
            rotate_left
            · intro w' HS_
              obtain ⟨s0, s1, s2, s3, s4, s5, s6, s7, s8, s9⟩ := HSX.out _ HS_
              go_simp
              with_reducible rfl
            rotate_left
            · simp only [Act.put, List.setIfInBounds_toArray, List.set_cons_zero, List.set_cons_succ, i64_w, i32_w]
              rfl
            refine take_ (i := 7) (N := some 98) (v := ?_) (a' := ?_) #[true, true, true, true, true, true, true, true, false, false, false, false, false, false, false, false, false, false, false, false, false] rfl rfl (take_ofW HT_.out HW_.out (by kernel_rfl)) (fun _ _ _ h => h) (Or.inl ⟨by rfl, ?_⟩) hHeld ?_ ?_
            rotate_left
            · intro w' HS_
              obtain ⟨s0, s1, s2, s3, s4, s5, s6, s7, s8, s9⟩ := HSX.out _ HS_
              go_simp
              with_reducible rfl
            rotate_left
            · simp only [Act.put, List.setIfInBounds_toArray, List.set_cons_zero, List.set_cons_succ, i64_w, i32_w]
              rfl
            refine pure_ (i := 8) (N := some 99) (v := ?_) (a' := ?_) #[true, true, true, true, true, true, true, true, true, false, false, false, false, false, false, false, false, false, false, false, false] rfl rfl (any_of HT_.out (by kernel_rfl)) (fun _ _ _ h => h) (Or.inl ⟨by rfl, ?_⟩) ?_ ?_
            rotate_left
            · intro w'
              go_simp
              with_reducible rfl
            rotate_left
            · simp only [Act.put, List.setIfInBounds_toArray, List.set_cons_zero, List.set_cons_succ, i64_w, i32_w]
              rfl
            refine take_ (i := 9) (N := some 100) (v := ?_) (a' := ?_) #[true, true, true, true, true, true, true, true, true, true, false, false, false, false, false, false, false, false, false, false, false] rfl rfl (take_ofW HT_.out HW_.out (by kernel_rfl)) (fun _ _ _ h => h) (Or.inl ⟨by rfl, ?_⟩) hHeld ?_ ?_
            rotate_left
            · intro w' HS_
              obtain ⟨s0, s1, s2, s3, s4, s5, s6, s7, s8, s9⟩ := HSX.out _ HS_
              go_simp
              with_reducible rfl
            rotate_left
            · simp only [Act.put, List.setIfInBounds_toArray, List.set_cons_zero, List.set_cons_succ, i64_w, i32_w]
              rfl
            refine one_ (i := 10) (N := some 101) #[true, true, true, true, true, true, true, true, true, true, true, false, false, false, false, false, false, false, false, false, false] rfl rfl (one_of HT_.out (by kernel_rfl)) (by decide) (fun K hK => ?_)
            refine goes_ Try.func27 (by kernel_rfl) rfl #[.agg #[.int .i64 m.id, .string m.tag, .slice Av m.pl.length cv], .agg #[.int .i64 m.id, .string m.tag, .slice Bv m.pl.length dv]] (by rfl) rfl rfl (by simp only [List.map_toArray, List.map_cons, List.map_nil]; rfl) ?_
            refine (HMS.out _ ((Below.refl _ W2).drew)).mono ?_
            rintro _ w3 ⟨rfl, hd⟩
            have HB3 : Hid (Below W2.heap.size W2 w3) := Lib.hid (((Below.refl W2.heap.size W2).drew).trans (hd.mono (Nat.le_refl _)))
            refine ⟨_, rfl, ?_⟩
            refine hK.out _ _ HB3.out (fun hHeld => ?_)
            clear hK K hd
            refine norm_ (a' := ?_) ?_ ?_
            rotate_left
            · show Act.put _ (some 101) _ = _
              simp only [Act.put, List.setIfInBounds_toArray, List.set_cons_zero, List.set_cons_succ, i64_w, i32_w]
              rfl
            refine pure_ (i := 11) (N := some 102) (v := ?_) (a' := ?_) #[true, true, true, true, true, true, true, true, true, true, true, true, false, false, false, false, false, false, false, false, false] rfl rfl (any_of HT_.out (by kernel_rfl)) (fun _ _ _ h => h) (Or.inl ⟨by rfl, ?_⟩) ?_ ?_
            rotate_left
            · intro w'
              go_simp
              with_reducible rfl
            rotate_left
            · simp only [Act.put, List.setIfInBounds_toArray, List.set_cons_zero, List.set_cons_succ, i64_w, i32_w]
              rfl
            refine pure_ (i := 12) (N := some 103) (v := ?_) (a' := ?_) #[true, true, true, true, true, true, true, true, true, true, true, true, true, false, false, false, false, false, false, false, false] rfl rfl (any_of HT_.out (by kernel_rfl)) (fun _ _ _ h => h) (Or.inl ⟨by rfl, ?_⟩) ?_ ?_
            rotate_left
            · intro w'
              go_simp
              with_reducible rfl
            rotate_left
            · simp only [Act.put, List.setIfInBounds_toArray, List.set_cons_zero, List.set_cons_succ, i64_w, i32_w]
              rfl
            refine pure_ (i := 13) (N := some 104) (v := ?_) (a' := ?_) #[true, true, true, true, true, true, true, true, true, true, true, true, true, true, false, false, false, false, false, false, false] rfl rfl (any_of HT_.out (by kernel_rfl)) (fun _ _ _ h => h) (Or.inl ⟨by rfl, ?_⟩) ?_ ?_
            rotate_left
            · intro w'
              go_simp
              with_reducible rfl
            rotate_left
            · simp only [Act.put, List.setIfInBounds_toArray, List.set_cons_zero, List.set_cons_succ, i64_w, i32_w]
              rfl
            refine pure_ (i := 14) (N := some 105) (v := ?_) (a' := ?_) #[true, true, true, true, true, true, true, true, true, true, true, true, true, true, true, false, false, false, false, false, false] rfl rfl (any_of HT_.out (by kernel_rfl)) (fun _ _ _ h => h) (Or.inl ⟨by rfl, ?_⟩) ?_ ?_
            rotate_left
            · intro w'
              go_simp
              with_reducible rfl
            rotate_left
            · simp only [Act.put, List.setIfInBounds_toArray, List.set_cons_zero, List.set_cons_succ, i64_w, i32_w]
              rfl
            refine take_ (i := 15) (N := some 106) (v := ?_) (a' := ?_) #[true, true, true, true, true, true, true, true, true, true, true, true, true, true, true, true, false, false, false, false, false] rfl rfl (take_ofW HT_.out HW_.out (by kernel_rfl)) (fun _ _ _ h => h) (Or.inl ⟨by rfl, ?_⟩) hHeld ?_ ?_
            rotate_left
            · intro w' HS_
              obtain ⟨s0, s1, s2, s3, s4, s5, s6, s7, s8, s9⟩ := HSX.out _ HS_
              go_simp
              with_reducible rfl
            rotate_left
            · simp only [Act.put, List.setIfInBounds_toArray, List.set_cons_zero, List.set_cons_succ, i64_w, i32_w]
              rfl
            refine take_ (i := 16) (N := some 107) (v := ?_) (a' := ?_) #[true, true, true, true, true, true, true, true, true, true, true, true, true, true, true, true, true, false, false, false, false] rfl rfl (take_ofW HT_.out HW_.out (by kernel_rfl)) (fun _ _ _ h => h) (Or.inl ⟨by rfl, ?_⟩) hHeld ?_ ?_
            rotate_left
            · intro w' HS_
              obtain ⟨s0, s1, s2, s3, s4, s5, s6, s7, s8, s9⟩ := HSX.out _ HS_
              go_simp
              with_reducible rfl
            rotate_left
            · simp only [Act.put, List.setIfInBounds_toArray, List.set_cons_zero, List.set_cons_succ, i64_w, i32_w]
              rfl
            refine pure_ (i := 17) (N := some 108) (v := ?_) (a' := ?_) #[true, true, true, true, true, true, true, true, true, true, true, true, true, true, true, true, true, true, false, false, false] rfl rfl (any_of HT_.out (by kernel_rfl)) (fun _ _ _ h => h) (Or.inl ⟨by rfl, ?_⟩) ?_ ?_
            rotate_left
            · intro w'
              go_simp
              with_reducible rfl
            rotate_left
            · simp only [Act.put, List.setIfInBounds_toArray, List.set_cons_zero, List.set_cons_succ, i64_w, i32_w]
              rfl
            refine take_ (i := 18) (N := some 109) (v := ?_) (a' := ?_) #[true, true, true, true, true, true, true, true, true, true, true, true, true, true, true, true, true, true, true, false, false] rfl rfl (take_ofW HT_.out HW_.out (by kernel_rfl)) (fun _ _ _ h => h) (Or.inl ⟨by rfl, ?_⟩) hHeld ?_ ?_
            rotate_left
            · intro w' HS_
              obtain ⟨s0, s1, s2, s3, s4, s5, s6, s7, s8, s9⟩ := HSX.out _ HS_
              go_simp
              with_reducible rfl
            rotate_left
            · simp only [Act.put, List.setIfInBounds_toArray, List.set_cons_zero, List.set_cons_succ, i64_w, i32_w]
              rfl
            refine pure_ (i := 19) (N := some 110) (v := ?_) (a' := ?_) #[true, true, true, true, true, true, true, true, true, true, true, true, true, true, true, true, true, true, true, true, false] rfl rfl (any_of HT_.out (by kernel_rfl)) (fun _ _ _ h => h) (Or.inl ⟨by rfl, ?_⟩) ?_ ?_
            rotate_left
            · intro w'
              go_simp
              with_reducible rfl
            rotate_left
            · simp only [Act.put, List.setIfInBounds_toArray, List.set_cons_zero, List.set_cons_succ, i64_w, i32_w]
              rfl
            refine pure_ (i := 20) (N := some 111) (v := ?_) (a' := ?_) #[true, true, true, true, true, true, true, true, true, true, true, true, true, true, true, true, true, true, true, true, true] rfl rfl (any_of HT_.out (by kernel_rfl)) (fun _ _ _ h => h) (Or.inl ⟨by rfl, ?_⟩) ?_ ?_
            rotate_left
            · intro w'
              go_simp
              with_reducible rfl
            rotate_left
            · simp only [Act.put, List.setIfInBounds_toArray, List.set_cons_zero, List.set_cons_succ, i64_w, i32_w]
              rfl
            refine done_ (done_of HT_.out (by kernel_rfl)) ?_
            clear HT_ HW_
            have hn3 := HNN.out.below HB3.out HNN.out.lt
            have hm3 := HAM.out.below HB3.out HAM.out.lt
            have zn := hn3.cell 0
            have fn := hn3.frozen 0
            simp at zn
            have HN3 := Lib.hid hn3
            have HM3 := Lib.hid hm3
            clear hn3 hm3
            gi_wp2_with fail
            clear hwk
            have hn4 := HN3.out.set_ 0 (.int .i64 ((k : Int) + 1))
            have hm4 := HM3.out.far (p := ⟨bn, 0, none⟩) (by show w.heap.size ≠ bn; have := HC8m.out.lt; have := HBN.out; omega) (.int .i64 ((k : Int) + 1))
            have hk4 : KeepsOthers W2 (w3.setCell ⟨bn, 0, none⟩ (.int .i64 ((k : Int) + 1))) := (KeepsOthers.of_grownBy (grown_of_below HB3.out none) (fun _ _ e _ => by cases e)).trans (KeepsOthers.setCell _ _ _)
            have hb4 : Below w8.heap.size W2 (w3.setCell ⟨bn, 0, none⟩ (.int .i64 ((k : Int) + 1))) := (HB3.out.mono HBB.out.size).setCell (by show w8.heap.size ≤ bn; have := HBN.out; omega) _
            generalize w3.setCell ⟨bn, 0, none⟩ (.int .i64 ((k : Int) + 1)) = w4 at hn4 hm4 hk4 hb4 ⊢
            clear zn fn
            have zn := hn4.cell 0
            have zm := hm4.cell 0
            simp at zn zm
            have HN4 := Lib.hid hn4
            have HK4 := Lib.hid hk4
            have HB4' := Lib.hid hb4
            clear hn4 hm4 hk4 hb4
            exact ⟨HK4.out, HB4'.out, HN4.out, HBB.out.trans HB4'.out, HK4.out.same _ _ HDD.out rfl⟩
          case done2 =>
            rintro D2 W hDs2 ⟨hn, hb, hd⟩ hD2
            rw [HN.out] at hn
            have hw2 := HW8.out.below hb HW8.out.lt
            have hr2 := HC8r.out.below hb HC8r.out.lt
            have HLW : Hid (Lent W w.heap.size gl cap l) := Lib.hid (Kd.R_below HL8.out hb)
            have hbw0 : Below w.heap.size w W := (HB4.out.trans (HC8.out.below HB4.out.size (by simp; omega))).trans (hb.mono (by have := HC8.out.size; have := HB4.out.size; omega))
            have HKP := Lib.hid (kept_any W w.heap.size gl cap c A l HLW.out hcap (Kd.C_below HC.out hbw0) (by omega))
            have HBW0 := Lib.hid hbw0
            have zn := hn.cell 0
            have zw := hw2.cell 0
            simp at zn zw
            have HR2 := Lib.hid hr2
            have HD1 := Lib.hid hd
            have HD2 := Lib.hid hD2
            clear hn hb hd hD2 hw2 hr2 hbw0
            go_wp2_with fail
            refine HKP.out.mono ?_
            rintro _ w11 ⟨rfl, hb11⟩
            have hr3 := HR2.out.below hb11 HR2.out.lt
            have zr := hr3.cell 0
            have fr := hr3.frozen 0
            simp at zr
            have HR3 := Lib.hid (hr3.set_ 0 (.bool true))
            have HD1 := Lib.hid ((KeepsOthers.setCell w11 ⟨w.heap.size + 1, 0, none⟩ (.bool true)).same D _ ((hb11.block _ (heap_lt' HD1.out)).trans HD1.out) rfl)
            have HD2 := Lib.hid ((KeepsOthers.setCell w11 ⟨w.heap.size + 1, 0, none⟩ (.bool true)).same D2 _ ((hb11.block _ (heap_lt' HD2.out)).trans HD2.out) rfl)
            have HBF : Hid (Below w.heap.size w (w11.setCell ⟨w.heap.size + 1, 0, none⟩ (.bool true))) := Lib.hid ((HBW0.out.trans (hb11.mono HBW0.out.size)).setCell (Nat.le_succ _) _)
            clear hr3 hb11
            go_wp2_with fail
            rw [← HPP.out]
            have hlt0 := HC8r.out.lt
            have hlt1 := HB9.out.size
            have hlt2 := heap_lt' HD10.out
            have hlt3 := HB4.out.size
            have hlt4 := heap_lt' HD1.out
            have hlt5 := heap_lt' HD2.out
            have hne : D ≠ D2 := by omega
            refine ⟨by simp, .inl ⟨_, _, rfl, run_takeDeferred HD2.out, ?_⟩⟩
            refine ⟨by simp, .inl ⟨_, _, rfl, run_takeDeferred ((World.putObj_heap_other hne).trans HD1.out), ?_⟩⟩
            refine ⟨_, results_bool rfl Try.underlying4 _ _ (w.heap.size + 1) true rfl ?_, rfl, below_put (below_put HBF.out HBF.out.size _ _ (by omega)) (by rw [World.putObj_size]; exact HBF.out.size) _ _ (by omega)⟩
            refine (World.cell?_of_block ((World.putObj_heap_other (by show w.heap.size + 1 ≠ D; omega)).trans (World.putObj_heap_other (by show w.heap.size + 1 ≠ D2; omega)))).trans ?_
            exact HR3.out.cell 0
          case stop2 =>
            rintro D2 c W hDs h hD2
            exact h.elim
        · have b1 : decide (most < (N : Int)) = false := decide_eq_false hlt
          obtain rfl : N = k := by omega
          clear hkm hk1 hkN hlt
          refine wpIn_wide.2 ?_
          go_upto_region 27 with fail
          have hn10 := HNW.out.set_ 0 (.int .i64 0)
          have hb10 : Below w8.heap.size w8 (W.setCell ⟨bn, 0, none⟩ (.int .i64 0)) := HBW.out.setCell (by show w8.heap.size ≤ bn; have := HBN.out; omega) _
          have hd10 : (W.setCell ⟨bn, 0, none⟩ (.int .i64 0)).heap[D]? = some (.deferred (some [])) := (KeepsOthers.setCell W _ _).same D _ HDW.out rfl
          generalize W.setCell ⟨bn, 0, none⟩ (.int .i64 0) = W10 at hn10 hb10 hd10 ⊢
          have HN10 := Lib.hid hn10
          have HB10 := Lib.hid hb10
          have HD10 := Lib.hid hd10
          clear hn10 hb10 hd10 zn fn zw zm HNW HBW HDW
          go_wp2_with fail
          refine wpIn_wide.1 (range_msgs 1 bx (some ⟨gl, 0, none⟩) cap l w8 HX8.out HL8.out.C.1 (by omega) HBy8 (by omega) rfl HB10.out
            (fun k W => Blk W bn 3 #[.int .i64 k] ∧ Below w8.heap.size w8 W ∧ W.heap[D]? = some (.deferred (some []))) (fun c W => False)
            (fun k => (blk_calm HN10.out.lt).and ((below_calm (Nat.le_refl _) HB10.out.size).and (obj_calm (heap_lt' HD10.out)))) ?ix2 ⟨HN10.out, HB10.out, HD10.out⟩ ?round2 ?done2 ?stop2)
          case ix2 => exact fun c W W' row h hg hr => h
          case round2 =>
            intro lp k m p Av cv W hWs hI hT hCv hcv
            obtain ⟨hn, hb, hd⟩ := hI
            have hkN : k < N := by
              have h1 := (List.getElem?_eq_some_iff.1 hT).1
              rw [HN.out] at h1
              exact h1
            have hM1 : (((allM l).map Prod.fst).getD k zM) = m := by rw [List.getD_eq_getElem?_getD, List.getElem?_map, hT]; rfl
            have hP1 : (((allM l).map fun x => (x.2 : Int)).getD k 0) = p := by rw [List.getD_eq_getElem?_getD, List.getElem?_map, hT]; rfl
            have hGm : (∀ v ∈ m.pl, Good v) ∧ m.pl.length ≤ 4096 := allM_good hT
            have HQ := Lib.hid (Blk.new W 57 #[.int .i64 m.id, .string m.tag, .slice Av m.pl.length cv])
            have HWq : Hid (Below W.heap.size W (W.alloc (.cells #[.int .i64 m.id, .string m.tag, .slice Av m.pl.length cv] 57))) := Lib.hid ((Below.refl _ _).alloc (Nat.le_refl _) _)
            have HCv := Lib.hid hCv
            have HNb := Lib.hid hn
            have HBb := Lib.hid hb
            have HDb := Lib.hid hd
            clear hd
            clear hCv hn hb
            simp only [List.setIfInBounds_toArray, List.set_cons_zero, List.set_cons_succ]
            gi_wp2_with fail
            refine ⟨HWq.out, fun W2 hT2 => ?_⟩
            have hn2 := hT2.blk (HNb.out.alloc (.cells #[.int .i64 m.id, .string m.tag, .slice Av m.pl.length cv] 57))
            have hb2 := hT2.calm (below_calm (Nat.le_refl w8.heap.size) HB10.out.size) (HBb.out.trans (HWq.out.mono HBb.out.size))
            have hq2 := hT2.blk HQ.out
            have hcv2 := C_cells (Kd.C_below HCv.out HWq.out) (fun a v h => hT2.cell h)
            obtain ⟨q, hq⟩ : ∃ q, W.heap.size = q := ⟨_, rfl⟩
            rw [hq] at hq2 ⊢
            have HDD := Lib.hid (hT2.calm (obj_calm (heap_lt' HD10.out)) ((HWq.out.block _ (heap_lt' HDb.out)).trans HDb.out))
            clear hT2 HWq HQ HCv HNb HBb hq
            have hw2 := HW8.out.below hb2 HW8.out.lt
            have hp2 := HP8.out.below hb2 HP8.out.lt
            have hA2 := (HC8m.out).below hb2 HC8m.out.lt
            have hr1 := Kd.R_reads' HR18.out
            have hr2 := Kd.R_reads' HR28.out
            obtain ⟨ad, Bv, dv, hA1, e0, e1, e2, hbl, hbC⟩ := at_Ms (Kd.C_below hr1.2.2 hb2) k (by rw [← hr1.1]; exact hkN)
            obtain ⟨ad2, hA2', g0⟩ := at_pl (Kd.C_below hr2.2.2 hb2) k (by rw [← hr2.1]; exact hkN)
            rw [hM1] at e0 e1 e2 hbl hbC
            rw [hP1] at g0
            have HA1 := Lib.hid hA1
            have HA2 := Lib.hid hA2'
            clear hr1 hr2 hA1 hA2'
            have keep : ∀ {w' : World} {a : Addr} {v : Value}, Below W2.heap.size W2 w' → W2.cell? a = some v → w'.cell? a = some v := fun h z => (World.cell?_of_block (h.block _ (World.block_lt_of_cell? W2 _ z))).trans z
            have zn := hn2.cell 0
            have zw := hw2.cell 0
            have zp := hp2.cell 0
            have zm := hA2.cell 0
            have q0 := hq2.cell 0
            have q1 := hq2.cell 1
            have q2 := hq2.cell 2
            simp at zn zw zp zm q0 q1 q2
            have hA1 := HA1.out
            have hA2' := HA2.out
            rw [hA1] at zw
            rw [hA2'] at zp
            have HSX : Hid (∀ w', Below W2.heap.size W2 w' → w'.cell? ⟨bn, 0, none⟩ = some (.int .i64 k) ∧ w'.cell? ⟨bw, 0, none⟩ = some (.slice (some ad) N c1) ∧ w'.cell? ⟨q, 0, none⟩ = some (.int .i64 m.id) ∧ w'.cell? ⟨q, 1, none⟩ = some (.string m.tag) ∧ w'.cell? ⟨q, 2, none⟩ = some (.slice Av m.pl.length cv) ∧ w'.cell? (ad.add (k * 3)) = some (.int .i64 m.id) ∧ w'.cell? ⟨(ad.add (k * 3)).block, (ad.add (k * 3)).off + 1, none⟩ = some (.string m.tag) ∧ w'.cell? ⟨(ad.add (k * 3)).block, (ad.add (k * 3)).off + 2, none⟩ = some (.slice Bv m.pl.length dv) ∧ w'.cell? ⟨bw + 1, 0, none⟩ = some (.slice (some ad2) N c2) ∧ w'.cell? (ad2.add k) = some (.int .i64 p)) := Lib.hid (fun w' h => ⟨keep h zn, keep h zw, keep h q0, keep h q1, keep h q2, keep h e0, keep h e1, keep h e2, keep h zp, keep h g0⟩)
            have HMS := Lib.hid (fun (W : World) (h : Below W2.heap.size W2 W) => message_any m.id m.tag Av Bv cv dv m.pl W (Kd.C_below hcv2 h) (Kd.C_below hbC h) hGm.1 hGm.2)
            have d0 : decide ((N : Int) ≤ (k : Int)) = false := decide_eq_false (by omega)
            have d1 : decide (N ≤ k) = false := decide_eq_false (by omega)
            have d2 : decide ((k : Int) < (N : Int)) = true := decide_eq_true (by omega)
            have d3 : decide (k < N) = true := decide_eq_true hkN
            have HNN := Lib.hid hn2
            have HBB := Lib.hid hb2
            have HAM := Lib.hid hA2
            have hwk : wrap64 ((k : Int) + 1) = (k : Int) + 1 := by have := HNL.out; unfold wrap64; omega
            clear keep zn zw zp zm q0 q1 q2 e0 e1 e2 g0 hn2 hb2 hq2 hcv2 hw2 hp2 hA2 hbl hbC hGm hM1 hP1
            gi_wp2_with fail
            refine startIn_ (n := 21) (S := fun w' => Below W2.heap.size W2 w') (ds := []) #[false, false, false, false, false, false, false, false, false, false, false, false, false, false, false, false, false, false, false, false, false] (by kernel_rfl) (by kernel_rfl) (by rintro ⟨a, w, h⟩; exact h) rfl rfl ((Below.refl _ W2).drew) (fun hHeld => ?_)
            refine with_tabW tab30 bits17 (fun HT_ HW_ => ?_)
            refine take_ (i := 0) (N := some 91) (v := ?_) (a' := ?_) #[true, false, false, false, false, false, false, false, false, false, false, false, false, false, false, false, false, false, false, false, false] rfl rfl (take_ofW HT_.out HW_.out (by kernel_rfl)) (fun _ _ _ h => h) (Or.inl ⟨by rfl, ?_⟩) hHeld ?_ ?_
            rotate_left
            · intro w' HS_
              obtain ⟨s0, s1, s2, s3, s4, s5, s6, s7, s8, s9⟩ := HSX.out _ HS_
              go_simp
              with_reducible rfl
            rotate_left
            · simp only [Act.put, List.setIfInBounds_toArray, List.set_cons_zero, List.set_cons_succ, i64_w, i32_w]
              rfl
            refine take_ (i := 1) (N := some 92) (v := ?_) (a' := ?_) #[true, true, false, false, false, false, false, false, false, false, false, false, false, false, false, false, false, false, false, false, false] rfl rfl (take_ofW HT_.out HW_.out (by kernel_rfl)) (fun _ _ _ h => h) (Or.inl ⟨by rfl, ?_⟩) hHeld ?_ ?_
            rotate_left
            · intro w' HS_
              obtain ⟨s0, s1, s2, s3, s4, s5, s6, s7, s8, s9⟩ := HSX.out _ HS_
              go_simp
              with_reducible rfl
            rotate_left
            · simp only [Act.put, List.setIfInBounds_toArray, List.set_cons_zero, List.set_cons_succ, i64_w, i32_w]
              rfl
            refine pure_ (i := 2) (N := some 93) (v := ?_) (a' := ?_) #[true, true, true, false, false, false, false, false, false, false, false, false, false, false, false, false, false, false, false, false, false] rfl rfl (any_of HT_.out (by kernel_rfl)) (fun _ _ _ h => h) (Or.inl ⟨by rfl, ?_⟩) ?_ ?_
            rotate_left
            · intro w'
              go_simp
              with_reducible rfl
            rotate_left
            · simp only [Act.put, List.setIfInBounds_toArray, List.set_cons_zero, List.set_cons_succ, i64_w, i32_w]
              rfl
            refine pure_ (i := 3) (N := some 94) (v := ?_) (a' := ?_) #[true, true, true, true, false, false, false, false, false, false, false, false, false, false, false, false, false, false, false, false, false] rfl rfl (any_of HT_.out (by kernel_rfl)) (fun _ _ _ h => h) (Or.inl ⟨by rfl, ?_⟩) ?_ ?_
            rotate_left
            · intro w'
              go_simp
              with_reducible rfl
            rotate_left
            · simp only [Act.put, List.setIfInBounds_toArray, List.set_cons_zero, List.set_cons_succ, i64_w, i32_w]
              rfl
            refine pure_ (i := 4) (N := some 95) (v := ?_) (a' := ?_) #[true, true, true, true, true, false, false, false, false, false, false, false, false, false, false, false, false, false, false, false, false] rfl rfl (any_of HT_.out (by kernel_rfl)) (fun _ _ _ h => h) (Or.inl ⟨by rfl, ?_⟩) ?_ ?_
            rotate_left
            · intro w'
              go_simp
              with_reducible rfl
            rotate_left
            · simp only [Act.put, List.setIfInBounds_toArray, List.set_cons_zero, List.set_cons_succ, i64_w, i32_w]
              rfl
            refine take_ (i := 5) (N := some 96) (v := ?_) (a' := ?_) #[true, true, true, true, true, true, false, false, false, false, false, false, false, false, false, false, false, false, false, false, false] rfl rfl (take_ofW HT_.out HW_.out (by kernel_rfl)) (fun _ _ _ h => h) (Or.inl ⟨by rfl, ?_⟩) hHeld ?_ ?_
            rotate_left
            · intro w' HS_
              obtain ⟨s0, s1, s2, s3, s4, s5, s6, s7, s8, s9⟩ := HSX.out _ HS_
              go_simp
              with_reducible rfl
            rotate_left
            · simp only [Act.put, List.setIfInBounds_toArray, List.set_cons_zero, List.set_cons_succ, i64_w, i32_w]
              rfl
            refine take_ (i := 6) (N := some 97) (v := ?_) (a' := ?_) #[true, true, true, true, true, true, true, false, false, false, false, false, false, false, false, false, false, false, false, false, false] rfl rfl (take_ofW HT_.out HW_.out (by kernel_rfl)) (fun _ _ _ h => h) (Or.inl ⟨by rfl, ?_⟩) hHeld ?_ ?_
            rotate_left
            · intro w' HS_
              obtain ⟨s0, s1, s2, s3, s4, s5, s6, s7, s8, s9⟩ := HSX.out _ HS_
              go_simp
              with_reducible rfl
            rotate_left
            · simp only [Act.put, List.setIfInBounds_toArray, List.set_cons_zero, List.set_cons_succ, i64_w, i32_w]
              rfl
            refine take_ (i := 7) (N := some 98) (v := ?_) (a' := ?_) #[true, true, true, true, true, true, true, true, false, false, false, false, false, false, false, false, false, false, false, false, false] rfl rfl (take_ofW HT_.out HW_.out (by kernel_rfl)) (fun _ _ _ h => h) (Or.inl ⟨by rfl, ?_⟩) hHeld ?_ ?_
            rotate_left
            · intro w' HS_
              obtain ⟨s0, s1, s2, s3, s4, s5, s6, s7, s8, s9⟩ := HSX.out _ HS_
              go_simp
              with_reducible rfl
            rotate_left
            · simp only [Act.put, List.setIfInBounds_toArray, List.set_cons_zero, List.set_cons_succ, i64_w, i32_w]
              rfl
            refine pure_ (i := 8) (N := some 99) (v := ?_) (a' := ?_) #[true, true, true, true, true, true, true, true, true, false, false, false, false, false, false, false, false, false, false, false, false] rfl rfl (any_of HT_.out (by kernel_rfl)) (fun _ _ _ h => h) (Or.inl ⟨by rfl, ?_⟩) ?_ ?_
            rotate_left
            · intro w'
              go_simp
              with_reducible rfl
            rotate_left
            · simp only [Act.put, List.setIfInBounds_toArray, List.set_cons_zero, List.set_cons_succ, i64_w, i32_w]
              rfl
            refine take_ (i := 9) (N := some 100) (v := ?_) (a' := ?_) #[true, true, true, true, true, true, true, true, true, true, false, false, false, false, false, false, false, false, false, false, false] rfl rfl (take_ofW HT_.out HW_.out (by kernel_rfl)) (fun _ _ _ h => h) (Or.inl ⟨by rfl, ?_⟩) hHeld ?_ ?_
            rotate_left
            · intro w' HS_
              obtain ⟨s0, s1, s2, s3, s4, s5, s6, s7, s8, s9⟩ := HSX.out _ HS_
              go_simp
              with_reducible rfl
            rotate_left
            · simp only [Act.put, List.setIfInBounds_toArray, List.set_cons_zero, List.set_cons_succ, i64_w, i32_w]
              rfl
            refine one_ (i := 10) (N := some 101) #[true, true, true, true, true, true, true, true, true, true, true, false, false, false, false, false, false, false, false, false, false] rfl rfl (one_of HT_.out (by kernel_rfl)) (by decide) (fun K hK => ?_)
            refine goes_ Try.func27 (by kernel_rfl) rfl #[.agg #[.int .i64 m.id, .string m.tag, .slice Av m.pl.length cv], .agg #[.int .i64 m.id, .string m.tag, .slice Bv m.pl.length dv]] (by rfl) rfl rfl (by simp only [List.map_toArray, List.map_cons, List.map_nil]; rfl) ?_
            refine (HMS.out _ ((Below.refl _ W2).drew)).mono ?_
            rintro _ w3 ⟨rfl, hd⟩
            have HB3 : Hid (Below W2.heap.size W2 w3) := Lib.hid (((Below.refl W2.heap.size W2).drew).trans (hd.mono (Nat.le_refl _)))
            refine ⟨_, rfl, ?_⟩
            refine hK.out _ _ HB3.out (fun hHeld => ?_)
            clear hK K hd
            refine norm_ (a' := ?_) ?_ ?_
            rotate_left
            · show Act.put _ (some 101) _ = _
              simp only [Act.put, List.setIfInBounds_toArray, List.set_cons_zero, List.set_cons_succ, i64_w, i32_w]
              rfl
            refine pure_ (i := 11) (N := some 102) (v := ?_) (a' := ?_) #[true, true, true, true, true, true, true, true, true, true, true, true, false, false, false, false, false, false, false, false, false] rfl rfl (any_of HT_.out (by kernel_rfl)) (fun _ _ _ h => h) (Or.inl ⟨by rfl, ?_⟩) ?_ ?_
            rotate_left
            · intro w'
              go_simp
              with_reducible rfl
            rotate_left
            · simp only [Act.put, List.setIfInBounds_toArray, List.set_cons_zero, List.set_cons_succ, i64_w, i32_w]
              rfl
            refine pure_ (i := 12) (N := some 103) (v := ?_) (a' := ?_) #[true, true, true, true, true, true, true, true, true, true, true, true, true, false, false, false, false, false, false, false, false] rfl rfl (any_of HT_.out (by kernel_rfl)) (fun _ _ _ h => h) (Or.inl ⟨by rfl, ?_⟩) ?_ ?_
            rotate_left
            · intro w'
              go_simp
              with_reducible rfl
            rotate_left
            · simp only [Act.put, List.setIfInBounds_toArray, List.set_cons_zero, List.set_cons_succ, i64_w, i32_w]
              rfl
            refine pure_ (i := 13) (N := some 104) (v := ?_) (a' := ?_) #[true, true, true, true, true, true, true, true, true, true, true, true, true, true, false, false, false, false, false, false, false] rfl rfl (any_of HT_.out (by kernel_rfl)) (fun _ _ _ h => h) (Or.inl ⟨by rfl, ?_⟩) ?_ ?_
            rotate_left
            · intro w'
              go_simp
              with_reducible rfl
            rotate_left
            · simp only [Act.put, List.setIfInBounds_toArray, List.set_cons_zero, List.set_cons_succ, i64_w, i32_w]
              rfl
            refine pure_ (i := 14) (N := some 105) (v := ?_) (a' := ?_) #[true, true, true, true, true, true, true, true, true, true, true, true, true, true, true, false, false, false, false, false, false] rfl rfl (any_of HT_.out (by kernel_rfl)) (fun _ _ _ h => h) (Or.inl ⟨by rfl, ?_⟩) ?_ ?_
            rotate_left
            · intro w'
              go_simp
              with_reducible rfl
            rotate_left
            · simp only [Act.put, List.setIfInBounds_toArray, List.set_cons_zero, List.set_cons_succ, i64_w, i32_w]
              rfl
            refine take_ (i := 15) (N := some 106) (v := ?_) (a' := ?_) #[true, true, true, true, true, true, true, true, true, true, true, true, true, true, true, true, false, false, false, false, false] rfl rfl (take_ofW HT_.out HW_.out (by kernel_rfl)) (fun _ _ _ h => h) (Or.inl ⟨by rfl, ?_⟩) hHeld ?_ ?_
            rotate_left
            · intro w' HS_
              obtain ⟨s0, s1, s2, s3, s4, s5, s6, s7, s8, s9⟩ := HSX.out _ HS_
              go_simp
              with_reducible rfl
            rotate_left
            · simp only [Act.put, List.setIfInBounds_toArray, List.set_cons_zero, List.set_cons_succ, i64_w, i32_w]
              rfl
            refine take_ (i := 16) (N := some 107) (v := ?_) (a' := ?_) #[true, true, true, true, true, true, true, true, true, true, true, true, true, true, true, true, true, false, false, false, false] rfl rfl (take_ofW HT_.out HW_.out (by kernel_rfl)) (fun _ _ _ h => h) (Or.inl ⟨by rfl, ?_⟩) hHeld ?_ ?_
            rotate_left
            · intro w' HS_
              obtain ⟨s0, s1, s2, s3, s4, s5, s6, s7, s8, s9⟩ := HSX.out _ HS_
              go_simp
              with_reducible rfl
            rotate_left
            · simp only [Act.put, List.setIfInBounds_toArray, List.set_cons_zero, List.set_cons_succ, i64_w, i32_w]
              rfl
            refine pure_ (i := 17) (N := some 108) (v := ?_) (a' := ?_) #[true, true, true, true, true, true, true, true, true, true, true, true, true, true, true, true, true, true, false, false, false] rfl rfl (any_of HT_.out (by kernel_rfl)) (fun _ _ _ h => h) (Or.inl ⟨by rfl, ?_⟩) ?_ ?_
            rotate_left
            · intro w'
              go_simp
              with_reducible rfl
            rotate_left
            · simp only [Act.put, List.setIfInBounds_toArray, List.set_cons_zero, List.set_cons_succ, i64_w, i32_w]
              rfl
            refine take_ (i := 18) (N := some 109) (v := ?_) (a' := ?_) #[true, true, true, true, true, true, true, true, true, true, true, true, true, true, true, true, true, true, true, false, false] rfl rfl (take_ofW HT_.out HW_.out (by kernel_rfl)) (fun _ _ _ h => h) (Or.inl ⟨by rfl, ?_⟩) hHeld ?_ ?_
            rotate_left
            · intro w' HS_
              obtain ⟨s0, s1, s2, s3, s4, s5, s6, s7, s8, s9⟩ := HSX.out _ HS_
              go_simp
              with_reducible rfl
            rotate_left
            · simp only [Act.put, List.setIfInBounds_toArray, List.set_cons_zero, List.set_cons_succ, i64_w, i32_w]
              rfl
            refine pure_ (i := 19) (N := some 110) (v := ?_) (a' := ?_) #[true, true, true, true, true, true, true, true, true, true, true, true, true, true, true, true, true, true, true, true, false] rfl rfl (any_of HT_.out (by kernel_rfl)) (fun _ _ _ h => h) (Or.inl ⟨by rfl, ?_⟩) ?_ ?_
            rotate_left
            · intro w'
              go_simp
              with_reducible rfl
            rotate_left
            · simp only [Act.put, List.setIfInBounds_toArray, List.set_cons_zero, List.set_cons_succ, i64_w, i32_w]
              rfl
            refine pure_ (i := 20) (N := some 111) (v := ?_) (a' := ?_) #[true, true, true, true, true, true, true, true, true, true, true, true, true, true, true, true, true, true, true, true, true] rfl rfl (any_of HT_.out (by kernel_rfl)) (fun _ _ _ h => h) (Or.inl ⟨by rfl, ?_⟩) ?_ ?_
            rotate_left
            · intro w'
              go_simp
              with_reducible rfl
            rotate_left
            · simp only [Act.put, List.setIfInBounds_toArray, List.set_cons_zero, List.set_cons_succ, i64_w, i32_w]
              rfl
            refine done_ (done_of HT_.out (by kernel_rfl)) ?_
            clear HT_ HW_
            have hn3 := HNN.out.below HB3.out HNN.out.lt
            have hm3 := HAM.out.below HB3.out HAM.out.lt
            have zn := hn3.cell 0
            have fn := hn3.frozen 0
            simp at zn
            have HN3 := Lib.hid hn3
            have HM3 := Lib.hid hm3
            clear hn3 hm3
            gi_wp2_with fail
            clear hwk
            have hn4 := HN3.out.set_ 0 (.int .i64 ((k : Int) + 1))
            have hm4 := HM3.out.far (p := ⟨bn, 0, none⟩) (by show w.heap.size ≠ bn; have := HC8m.out.lt; have := HBN.out; omega) (.int .i64 ((k : Int) + 1))
            have hk4 : KeepsOthers W2 (w3.setCell ⟨bn, 0, none⟩ (.int .i64 ((k : Int) + 1))) := (KeepsOthers.of_grownBy (grown_of_below HB3.out none) (fun _ _ e _ => by cases e)).trans (KeepsOthers.setCell _ _ _)
            have hb4 : Below w8.heap.size W2 (w3.setCell ⟨bn, 0, none⟩ (.int .i64 ((k : Int) + 1))) := (HB3.out.mono HBB.out.size).setCell (by show w8.heap.size ≤ bn; have := HBN.out; omega) _
            generalize w3.setCell ⟨bn, 0, none⟩ (.int .i64 ((k : Int) + 1)) = w4 at hn4 hm4 hk4 hb4 ⊢
            clear zn fn
            have zn := hn4.cell 0
            have zm := hm4.cell 0
            simp at zn zm
            have HN4 := Lib.hid hn4
            have HK4 := Lib.hid hk4
            have HB4' := Lib.hid hb4
            clear hn4 hm4 hk4 hb4
            exact ⟨HK4.out, HB4'.out, HN4.out, HBB.out.trans HB4'.out, HK4.out.same _ _ HDD.out rfl⟩
          case done2 =>
            rintro D2 W hDs2 ⟨hn, hb, hd⟩ hD2
            rw [HN.out] at hn
            have hw2 := HW8.out.below hb HW8.out.lt
            have hr2 := HC8r.out.below hb HC8r.out.lt
            have HLW : Hid (Lent W w.heap.size gl cap l) := Lib.hid (Kd.R_below HL8.out hb)
            have hbw0 : Below w.heap.size w W := (HB4.out.trans (HC8.out.below HB4.out.size (by simp; omega))).trans (hb.mono (by have := HC8.out.size; have := HB4.out.size; omega))
            have HKP := Lib.hid (kept_any W w.heap.size gl cap c A l HLW.out hcap (Kd.C_below HC.out hbw0) (by omega))
            have HBW0 := Lib.hid hbw0
            have zn := hn.cell 0
            have zw := hw2.cell 0
            simp at zn zw
            have HR2 := Lib.hid hr2
            have HD1 := Lib.hid hd
            have HD2 := Lib.hid hD2
            clear hn hb hd hD2 hw2 hr2 hbw0
            go_wp2_with fail
            refine HKP.out.mono ?_
            rintro _ w11 ⟨rfl, hb11⟩
            have hr3 := HR2.out.below hb11 HR2.out.lt
            have zr := hr3.cell 0
            have fr := hr3.frozen 0
            simp at zr
            have HR3 := Lib.hid (hr3.set_ 0 (.bool true))
            have HD1 := Lib.hid ((KeepsOthers.setCell w11 ⟨w.heap.size + 1, 0, none⟩ (.bool true)).same D _ ((hb11.block _ (heap_lt' HD1.out)).trans HD1.out) rfl)
            have HD2 := Lib.hid ((KeepsOthers.setCell w11 ⟨w.heap.size + 1, 0, none⟩ (.bool true)).same D2 _ ((hb11.block _ (heap_lt' HD2.out)).trans HD2.out) rfl)
            have HBF : Hid (Below w.heap.size w (w11.setCell ⟨w.heap.size + 1, 0, none⟩ (.bool true))) := Lib.hid ((HBW0.out.trans (hb11.mono HBW0.out.size)).setCell (Nat.le_succ _) _)
            clear hr3 hb11
            go_wp2_with fail
            rw [← HPP.out]
            have hlt0 := HC8r.out.lt
            have hlt1 := HB9.out.size
            have hlt2 := heap_lt' HD10.out
            have hlt3 := HB4.out.size
            have hlt4 := heap_lt' HD1.out
            have hlt5 := heap_lt' HD2.out
            have hne : D ≠ D2 := by omega
            refine ⟨by simp, .inl ⟨_, _, rfl, run_takeDeferred HD2.out, ?_⟩⟩
            refine ⟨by simp, .inl ⟨_, _, rfl, run_takeDeferred ((World.putObj_heap_other hne).trans HD1.out), ?_⟩⟩
            refine ⟨_, results_bool rfl Try.underlying4 _ _ (w.heap.size + 1) true rfl ?_, rfl, below_put (below_put HBF.out HBF.out.size _ _ (by omega)) (by rw [World.putObj_size]; exact HBF.out.size) _ _ (by omega)⟩
            refine (World.cell?_of_block ((World.putObj_heap_other (by show w.heap.size + 1 ≠ D; omega)).trans (World.putObj_heap_other (by show w.heap.size + 1 ≠ D2; omega)))).trans ?_
            exact HR3.out.cell 0
          case stop2 =>
            rintro D2 c W hDs h hD2
            exact h.elim
    | some mn =>
      obtain ⟨m, n⟩ := mn
      obtain ⟨hT, hP2, hn1, hn2⟩ := hst n m rfl
      have HT := Lib.hid hT
      have HP2 := Lib.hid hP2
      clear hst hsp hT hP2
      go_wp2_with fail
      refine HRM.out.mono ?_
      rintro _ w5 ⟨at1, b1, hS, hat, ⟨v, rfl, hRm⟩, rfl, rfl⟩
      obtain ⟨Av, cv, rfl⟩ := Kd.R_slice hRm
      go_upto_region 6 with fail
      have hS6 := hS.alloc (.cells #[.int .i64 m.id, .string m.tag, .slice Av m.pl.length cv] 57)
      have hq6 := Blk.new w5 57 #[.int .i64 m.id, .string m.tag, .slice Av m.pl.length cv]
      have hRm6 := Kd.R_alloc hRm (.cells #[.int .i64 m.id, .string m.tag, .slice Av m.pl.length cv] 57)
      obtain ⟨q, hq⟩ : ∃ q, w5.heap.size = q := ⟨_, rfl⟩
      have hqs : wr.heap.size ≤ q := by rw [← hq]; exact hS.2.2.1
      rw [hq] at hq6 ⊢
      generalize w5.alloc (.cells #[.int .i64 m.id, .string m.tag, .slice Av m.pl.length cv] 57) = W6 at hS6 hq6 hRm6 ⊢
      have hen := end_any hS6.1 hS6.2.1
      have HEN : Hid (Calls Try.prog 24 #[.pointer (some ⟨bw + 2, 0, none⟩)] W6 fun e w' => e = .returned (.tuple #[.int .i64 ((p + n : Nat) : Int), .int .i64 0]) ∧ RS w W6 w' (bw + 2) l (p + n) false) := Lib.hid (by simpa using hen)
      have HS6 := Lib.hid hS6
      have HQ6 := Lib.hid hq6
      have HRM6 := Lib.hid hRm6
      obtain ⟨z, hz⟩ : ∃ z, p + n = z := ⟨_, rfl⟩
      rw [hz] at HEN HT HP2
      have HZ := Lib.hid hz
      clear hS hS6 hen hq6 hRm6 hRm hz hq
      go_wp2_with fail
      refine HEN.out.mono ?_
      rintro _ w7 ⟨rfl, hS7⟩
      have hS67 := HS6.out.trans hS7
      have hk7 := hS67.2.2
      have hw7 := Blk.keep HW1.out hk7 (by omega)
      have hp7 := Blk.keep HP1.out hk7 (by omega)
      have hq7 := Blk.keep HQ6.out hS7.2.2 (by omega)
      have hR17 := R_keep HR1.out hk7 (by omega)
      have hR27 := R_keep HR2.out hk7 (by omega)
      have hRm7 := Kd.R_lower (Kd.R_mono (Kd.R_bound (R_keep HRM6.out hS7.2.2 (by omega))) (ok' := fun k => wr.heap.size ≤ k) (fun k hk => hk.2.1)) hsr
      have hCh7 := HCh.out.trans ((RS_chg hS67 HBR.out [bw + 2, bw, bw + 1] (by simp)))
      have hI7 := hS67.1
      have hs7 : wr.heap.size ≤ w7.heap.size := hk7.1
      have HC7 := Lib.hid hCh7
      have HI7 := Lib.hid hI7
      have HR17 := Lib.hid hR17
      have HR27 := Lib.hid hR27
      have HRm7 := Lib.hid hRm7
      have HW7 := Lib.hid hw7
      have HP7 := Lib.hid hp7
      have HKL : Hid (k ≤ l.length + 1) := Lib.hid (Nat.le_trans HP.out.2.1 (allM_len l))
      have HU1 : Hid (∀ x, u1.ownBlock = some x → W4.heap.size ≤ x ∧ x < wr.heap.size) := Lib.hid (fun x hx => ⟨Kd.R_base HR1.out x hx, own_lt (Kd.R_own HR1.out).choose_spec x hx⟩)
      have x6 := hw7.cell 0
      have y0 := hq7.cell 0
      have y1 := hq7.cell 1
      have y2 := hq7.cell 2
      simp at x6 y0 y1 y2
      clear hS7 hS67 hk7 hw7 hp7 hq7 hR17 hR27 hRm7 hCh7 hI7 HS6 HQ6 HRM6 HEN HRM HW1 HR1 HP1 HR2 HCh
      go_wp2_with (first | ((with_reducible refine gate_builtin (b := .append) (xs := #[.tmp 32, .tmp 34]) rfl ?_); at_builtin; refine hold_it6 ?_) | fail)
      refine _root_.id ?_
      refine Kd.R_append kMs (w0 := w7) W4.heap.size rfl (.tmp 32) (.tmp 34) 72 57 zMsg 48 rfl Try.underlying72 info57 rfl (by decide) (by omega) u1 (((allM l).take k).map Prod.fst) m [.int .i64 m.id, .string m.tag, .slice Av m.pl.length cv] (fun _ => True) (fun x => wr.heap.size ≤ x) rfl rfl (kMs_mkM HRm7.out) (fun x hx => ⟨trivial, fun e => by have := (HU1.out x e.symm).2; omega⟩) (fun _ _ => trivial) HR17.out (Below.refl _ _) (by omega) (by rw [List.length_map, List.length_take]; have := HKL.out; have : min k (allM l).length ≤ k := Nat.min_le_left _ _; omega) ?_
      intro v8 w8 hR8 hb8 hg8 hat8
      obtain ⟨A8, c8, hv8⟩ := Kd.R_slice hR8
      generalize (((allM l).take k).map Prod.fst ++ [m]).length = N8 at hv8
      subst hv8
      have hne : ∀ x, x < W4.heap.size → x ∉ u1.ownBlock.toList := fun x hx hm => by have := (HU1.out x (by simpa using hm)).1; omega
      have hch8 := chg_opt hg8
      have hw8 := HW7.out.chg hch8 (hne bw (by omega))
      have hp8 := HP7.out.chg hch8 (hne (bw + 1) (by omega))
      have hI8 := HI7.out.grown hg8 (HI7.out.own_ne HR17.out (by decide))
      have hR28 := Kd.R_over HR27.out HR17.out (by decide) hg8
      have hC8 := chg_below HC7.out hb8
      have x8 := hw8.cell 0
      have f8 := hw8.frozen 0
      simp at x8
      have HR8 := Lib.hid hR8
      have HW8 := Lib.hid hw8
      have HP8 := Lib.hid hp8
      have HI8 := Lib.hid hI8
      have HR28 := Lib.hid hR28
      have HC8 := Lib.hid hC8
      clear hR8 hb8 hg8 hat8 hne hch8 hw8 hp8 hI8 hR28 hC8 HW7 HP7 HI7 HR17 HR27 HC7 HRm7 x6 y0 y1 y2
      go_upto_region 9 with fail
      obtain ⟨v9, hv9⟩ : ∃ v9, (Value.slice A8 N8 c8) = v9 := ⟨_, rfl⟩
      have hw9 := HW8.out.set_ 0 v9
      have hp9 := HP8.out.far (p := ⟨bw, 0, none⟩) (by show bw + 1 ≠ bw; omega) v9
      have hI9 := HI8.out.far (p := ⟨bw, 0, none⟩) (by show bw + 2 ≠ bw; omega) v9
      have hR8' := HR8.out
      rw [hv9] at hR8'
      have hR9 := R_over hR8' ((Chg.refl [bw] w8).setCell (p := ⟨bw, 0, none⟩) (.inl (by simp)) v9) (by simp; omega)
      have hR29 := R_over HR28.out ((Chg.refl [bw] w8).setCell (p := ⟨bw, 0, none⟩) (.inl (by simp)) v9) (by simp; omega)
      have hC9 := HC8.out.setCell (p := ⟨bw, 0, none⟩) (.inl (by simp)) v9
      rw [hv9]
      generalize w8.setCell ⟨bw, 0, none⟩ v9 = W9 at hw9 hp9 hI9 hR9 hR29 hC9 ⊢
      have HW9 := Lib.hid hw9
      have HP9 := Lib.hid hp9
      have HI9 := Lib.hid hI9
      have HR9 := Lib.hid hR9
      have HR29 := Lib.hid hR29
      have HC9 := Lib.hid hC9
      have HU2 : Hid (∀ x, u2.ownBlock = some x → W4.heap.size ≤ x) := Lib.hid (fun x hx => Kd.R_base HR29.out x hx)
      have hs9 := hC9.size
      have x9 := hp9.cell 0
      simp at x9
      clear hw9 hp9 hI9 hR9 hR29 hC9 hR8' HR8 HW8 HP8 HI8 HR28 HC8 x8 f8
      go_wp2_with (first | ((with_reducible refine gate_builtin (b := .append) (xs := #[.tmp 36, .tmp 38]) rfl ?_); at_builtin; refine hold_it6 ?_) | fail)
      refine _root_.id ?_
      refine Kd.R_append (Kd.int .i64) (w0 := W9) W4.heap.size rfl (.tmp 36) (.tmp 38) 31 3 (.int .i64 0) 8 rfl Try.underlying31 info3 rfl (by decide) (by omega) u2 (((allM l).take k).map fun x => (x.2 : Int)) (z : Int) [.int .i64 (z : Int)] (fun _ => True) (fun _ => False) rfl rfl rfl (fun _ hx => hx.elim) (fun _ _ => trivial) HR29.out (Below.refl _ _) hs9 (by rw [List.length_map, List.length_take]; have := HKL.out; have : min k (allM l).length ≤ k := Nat.min_le_left _ _; omega) ?_
      intro v10 w10 hR10 hb10 hg10 hat10
      obtain ⟨A10, c10, hv10⟩ := Kd.R_slice hR10
      generalize ((((allM l).take k).map fun x => (x.2 : Int)) ++ [(z : Int)]).length = N10 at hv10
      subst hv10
      have hne : ∀ x, x < W4.heap.size → x ∉ u2.ownBlock.toList := fun x hx hm => by have := HU2.out x (by simpa using hm); omega
      have hch10 := chg_opt hg10
      have hw10 := HW9.out.chg hch10 (hne bw (by omega))
      have hp10 := HP9.out.chg hch10 (hne (bw + 1) (by omega))
      have hI10 := HI9.out.grown hg10 (HI9.out.own_ne HR29.out (by decide))
      have hR110 := Kd.R_over HR9.out HR29.out (by decide) hg10
      have hC10 := chg_below HC9.out hb10
      have x10 := hp10.cell 0
      have f10 := hp10.frozen 0
      simp at x10
      obtain ⟨v11, hv11⟩ : ∃ v11, (Value.slice A10 N10 c10) = v11 := ⟨_, rfl⟩
      have hR10' := hR10
      rw [hv11] at hR10'
      have hw11 := hw10.far (p := ⟨bw + 1, 0, none⟩) (by show bw ≠ bw + 1; omega) v11
      have hp11 := hp10.set_ 0 v11
      have hI11 := hI10.far (p := ⟨bw + 1, 0, none⟩) (by show bw + 2 ≠ bw + 1; omega) v11
      have hR11 := R_over hR10' ((Chg.refl [bw + 1] w10).setCell (p := ⟨bw + 1, 0, none⟩) (.inl (by simp)) v11) (by simp; omega)
      have hR111 := R_over hR110 ((Chg.refl [bw + 1] w10).setCell (p := ⟨bw + 1, 0, none⟩) (.inl (by simp)) v11) (by simp; omega)
      have hC11 := hC10.setCell (p := ⟨bw + 1, 0, none⟩) (.inl (by simp)) v11
      have hTK : (allM l).take (k + 1) = (allM l).take k ++ [(m, z)] := by rw [List.take_add_one, HT.out]; rfl
      have hGot : Got w W4 l (bw + 2) bw (bw + 1) (k + 1) z (w10.setCell ⟨bw + 1, 0, none⟩ v11) := by
        refine ⟨HP2.out, hI11, hC11, ⟨v9, hw11, ?_⟩, ⟨v11, hp11, ?_⟩⟩
        · rw [hTK, List.map_append]; exact hR111
        · rw [hTK, List.map_append]; exact hR11
      rw [← hv11] at hGot
      have HGot := Lib.hid hGot
      have HNZ : Hid (p < z ∧ z ≤ l.length) := Lib.hid (by have := HZ.out; omega)
      clear hR10 hb10 hg10 hat10 hne hch10 hw10 hp10 hI10 hR110 hC10 hv11 hR10' hw11 hp11 hI11 hR11 hR111 hC11 hTK hGot HW9 HP9 HI9 HR9 HR29 HC9 x9
      go_wp2_with fail
      go_roundg (l.length - z + 1)
      case measure => have := HNZ.out; omega
      case rel => exact ⟨k + 1, z, by omega, by first | exact HGot | simpa using HGot⟩
end Go.Proofs.Ytlbfnnngemonoaa.Wir
