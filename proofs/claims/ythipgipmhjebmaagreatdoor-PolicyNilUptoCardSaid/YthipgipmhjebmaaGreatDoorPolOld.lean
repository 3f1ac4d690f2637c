/- What one call of the rule Old does in memory. -/
import Derived.Test.YthipgipmhjebmaaGreatDoorPolNext
import Derived.BigRegion
import Derived.Deep.RegionHeld3
import Derived.Deep.DeepCutAuto
import Derived.Deep.CutBlock
namespace Go.Proofs.YthipgipmhjebmaaGreatDoor.Pol
open Go.RowKit

set_option maxHeartbeats 400000 in
theorem pair_any (bl : Nat) (A : Option Addr) (n c : Nat) (xs : List (Int × Int)) (k : Nat) (a d : Int) (w : World) (hn : n = xs.length) (hl : w.cell? ⟨bl, 0, none⟩ = some (.slice A n c)) (hx : Chs w A xs) (hk : xs[k]? = some (a, d)) :
    Calls Tryz.prog 379 #[.int .i64 k, .pointer (some ⟨bl, 0, none⟩)] w fun e w' => e = .returned (.agg #[.int .i64 a, .int .i64 d]) ∧ Below w.heap.size w w' := by
  obtain ⟨bs, e, h0, h1, B2, m2, d2, h2⟩ := hx k a d hk
  subst e
  have hbs := World.block_lt_of_cell? w _ h0
  have hbl := World.block_lt_of_cell? w _ hl
  have hlt : k < n := by
    have := (List.getElem?_eq_some_iff.1 hk).1
    omega
  clear hx hk hn h2
  go_enter Tryz.func379, Tryz.ntmps379
  go_wp2
  go_region
  go_wp2
  exact bodyPost_ret (v := .agg #[.int .i64 a, .int .i64 d]) (by simp [results, Tryz.results379, go_sem]) rfl ⟨rfl, ((Below.refl _ _).alloc (Nat.le_refl _) _).drew⟩

theorem oldTo_step (f : Int → Int → Int) (xs : List (Int × Int)) (k : Nat) (hk : k < xs.length) (hp : oldTo f xs k < xs.length) :
    oldTo f xs (k + 1) = if f xs[k].1 xs[k].2 < f xs[oldTo f xs k].1 xs[oldTo f xs k].2 then k else oldTo f xs k := by
  rw [oldTo]
  simp [List.getD, hk, hp]

theorem keepT {bt bm : Nat} {n : Int} {wr w' : World} (hc : wr.cell? ⟨bt, 1, none⟩ = some (.map (some bm))) (hc' : wr.cell? ⟨bt, 0, none⟩ = some (.int .i64 n)) (hlt : bt < wr.heap.size) (hne : bt ≠ bm) (hb : Chg [bm] wr w') :
    w'.cell? ⟨bt, 1, none⟩ = some (.map (some bm)) ∧ w'.cell? ⟨bt, 0, none⟩ = some (.int .i64 n) ∧ Chg [bm] wr w' :=
  ⟨(World.cell?_of_block (hb.block bt hlt (by simpa using hne))).trans hc, (World.cell?_of_block (hb.block bt hlt (by simpa using hne))).trans hc', hb⟩

theorem keepS {bt bm : Nat} {wr w' : World} (hc : wr.cell? ⟨bt, 1, none⟩ = some (.map (some bm))) (hlt : bt < wr.heap.size) (hb : Below wr.heap.size wr w') : w'.cell? ⟨bt, 1, none⟩ = some (.map (some bm)) ∧ Below wr.heap.size wr w' :=
  ⟨(hb.cell (p := ⟨bt, 1, none⟩) hlt).trans hc, hb⟩

set_option maxHeartbeats 1000000 in
theorem old_any (bt bm nm : Nat) (f : Int → Int → Int) (A : Option Addr) (c : Nat) (xs : List (Int × Int)) (w : World) (hn : 0 < xs.length) (hm : xs.length ≤ 140737488355328) (hnm : nm < 1048576) (hne : bt ≠ bm)
    (hw : ∀ p ∈ xs, (Lit.int .i64 p.1).wf = true ∧ (Lit.int .i64 p.2).wf = true) (hx : Chs w A xs) (ho : Off [bt, bm] A) (hB : Blk w bt 76 #[.int .i64 nm, .map (some bm)]) (hM : MapIs w bm nm f) :
    Calls Tryz.prog 378 #[.pointer (some ⟨bt, 0, none⟩), .slice A xs.length c] w fun e w' => e = .returned (.int .i64 (oldTo f xs xs.length : Nat)) ∧ Blk w' bt 76 #[.int .i64 (nm + 1 : Nat), .map (some bm)] ∧
      MapIs w' bm (nm + 1) (fun x y => if (x, y) = xs.getD (oldTo f xs xs.length) (0, 0) then ((nm + 1 : Nat) : Int) else f x y) ∧ Chg [bt, bm] w w' := by
  have HX := Lib.hid hx
  have HW := Lib.hid hw
  have HO := Lib.hid ho
  clear hx hw ho
  have hbt := hB.lt
  have HM := Lib.hid hM
  clear hM
  go_enter Tryz.func378, Tryz.ntmps378
  go_wp2
  go_loopw [5, 7, 11] (fun p _ i wr => ∃ k : Nat, k ≤ xs.length ∧ i = .int .i64 k ∧ p = .int .i64 (oldTo f xs k : Nat) ∧ Below (w.heap.size + 1) (w.alloc (Obj.cells #[Value.slice A xs.length c] 30)) wr) (fun _ _ i _ => xs.length - (intOf i).toNat)
  case atStart => exact ⟨0, Nat.zero_le _, rfl, rfl, Below.refl _ _⟩
  case round =>
    obtain ⟨k, hk, rfl, rfl, hb⟩ := hrel
    have hbl := hb.cell (p := ⟨w.heap.size, 0, none⟩) (by simp)
    simp at hbl
    have hb0 : Below w.heap.size w wr := ((Below.refl _ _).alloc (Nat.le_refl _) _).trans (hb.mono (by omega))
    have hBr := hB.below hb0 hbt
    have hc1 := hBr.cell 1
    simp at hc1
    have HXr := Lib.hid (HX.out.chg (S := []) (Chg.of_below hb0 _) (fun _ _ => by simp))
    have HMr := Lib.hid (HM.out.chg (S := []) (Chg.of_below hb0 _) (by simp))
    have hbt1 := hBr.lt
    by_cases hlt : k < xs.length
    · have hpl := oldTo_lt f xs k hk hn
      generalize hpp : oldTo f xs k = pl at hpl
      have HP := Lib.hid hpp
      clear hpp
      have hxk : xs[k]? = some (xs[k].1, xs[k].2) := List.getElem?_eq_getElem hlt
      have hxp : xs[pl]? = some (xs[pl].1, xs[pl].2) := List.getElem?_eq_getElem hpl
      have Hxk := Lib.hid hxk
      have Hxp := Lib.hid hxp
      have hwk := HW.out xs[k] (List.getElem_mem hlt)
      have hwp := HW.out xs[pl] (List.getElem_mem hpl)
      have hl1 : ∀ w', Below wr.heap.size wr w' → (Instr.lookup 74 (.map (some bm)) (.agg #[.int .i64 xs[k].1, .int .i64 xs[k].2]) false).run Tryz.prog w' = .ok (.int .i64 (f xs[k].1 xs[k].2)) w' :=
        fun w' hb' => (HMr.out.chg (S := []) (Chg.of_below hb' _) (by simp)).look _ _ hwk.1 hwk.2
      have hl2 : ∀ w', Below wr.heap.size wr w' → (Instr.lookup 74 (.map (some bm)) (.agg #[.int .i64 xs[pl].1, .int .i64 xs[pl].2]) false).run Tryz.prog w' = .ok (.int .i64 (f xs[pl].1 xs[pl].2)) w' :=
        fun w' hb' => (HMr.out.chg (S := []) (Chg.of_below hb' _) (by simp)).look _ _ hwp.1 hwp.2
      clear hxk hxp hwk hwp
      have PK0 : ∀ w', Below wr.heap.size wr w' → Calls Tryz.prog 379 #[.int .i64 k, .pointer (some ⟨w.heap.size, 0, none⟩)] w' fun e w'' => e = .returned (.agg #[.int .i64 xs[k].1, .int .i64 xs[k].2]) ∧ Below wr.heap.size wr w'' :=
        fun w' hb' => (pair_any w.heap.size A xs.length c xs k xs[k].1 xs[k].2 w' rfl ((hb'.cell (p := ⟨w.heap.size, 0, none⟩) (World.block_lt_of_cell? wr _ hbl)).trans hbl) (HXr.out.chg (S := []) (Chg.of_below hb' _) (fun _ _ => by simp)) Hxk.out).mono fun _ _ ⟨he, h⟩ => ⟨he, hb'.trans (h.mono hb'.size)⟩
      have PP0 : ∀ w', Below wr.heap.size wr w' → Calls Tryz.prog 379 #[.int .i64 pl, .pointer (some ⟨w.heap.size, 0, none⟩)] w' fun e w'' => e = .returned (.agg #[.int .i64 xs[pl].1, .int .i64 xs[pl].2]) ∧ Below wr.heap.size wr w'' :=
        fun w' hb' => (pair_any w.heap.size A xs.length c xs pl xs[pl].1 xs[pl].2 w' rfl ((hb'.cell (p := ⟨w.heap.size, 0, none⟩) (World.block_lt_of_cell? wr _ hbl)).trans hbl) (HXr.out.chg (S := []) (Chg.of_below hb' _) (fun _ _ => by simp)) Hxp.out).mono fun _ _ ⟨he, h⟩ => ⟨he, hb'.trans (h.mono hb'.size)⟩
      have PK := Lib.hid PK0
      have PP := Lib.hid PP0
      clear PK0 PP0
      by_cases hg : f xs[k].1 xs[k].2 < f xs[pl].1 xs[pl].2
      all_goals
        have HN := Lib.hid (oldTo_step f xs k hlt (by rw [HP.out]; exact hpl))
        go_wp2
        go_region_held3 (fun w' => w'.cell? ⟨bt, 1, none⟩ = some (.map (some bm)) ∧ Below wr.heap.size wr w') (first | exact keepS hc1 hbt1 (Below.refl _ _).drew | exact keepS hc1 hbt1 (by assumption))
          (first | (go_at_call 379; (with_reducible refine (PK.out _ (by exact (‹_ ∧ Below wr.heap.size wr _› : _ ∧ Below wr.heap.size wr _).2)).mono ?_); rintro e w1 ⟨rfl, hb1⟩) | (go_at_call 379; (with_reducible refine (PP.out _ (by exact (‹_ ∧ Below wr.heap.size wr _› : _ ∧ Below wr.heap.size wr _).2)).mono ?_); rintro e w1 ⟨rfl, hb1⟩))
        all_goals
          go_wp2
          go_roundw
          case rel => exact ⟨k + 1, by omega, by go_num, by rw [HN.out]; simp only [HP.out]; first | rw [if_pos hg] | rw [if_neg (Int.not_lt.2 hg)], hb.trans (hb1.mono (by have := hb.size; simp at this; omega))⟩
          case measure => simp [intOf]; omega
    · have hke : k = xs.length := by omega
      have hpl := oldTo_lt f xs k hk hn
      have HP0 : Hid (oldTo f xs k = oldTo f xs xs.length) := by rw [hke]; exact rfl
      generalize hpp : oldTo f xs k = pl at hpl
      have HP := Lib.hid hpp
      clear hpp hke
      have hxp : xs[pl]? = some (xs[pl].1, xs[pl].2) := List.getElem?_eq_getElem hpl
      have Hxp := Lib.hid hxp
      have hwp := HW.out xs[pl] (List.getElem_mem hpl)
      have hc0 := hBr.cell 0
      have hf0 := hBr.frozen 0
      simp at hc0
      clear hxp
      have hB2 : Blk (wr.setCell ⟨bt, 0, none⟩ (.int .i64 ((nm : Int) + 1))) bt 76 #[.int .i64 ((nm : Int) + 1), .map (some bm)] := by
        simpa using hBr.set_ 0 (.int .i64 ((nm : Int) + 1))
      have hC2 : Chg [bt] wr (wr.setCell ⟨bt, 0, none⟩ (.int .i64 ((nm : Int) + 1))) := (Chg.refl _ _).setCell (.inl (by simp)) _
      go_wp2
      generalize wr.setCell ⟨bt, 0, none⟩ (.int .i64 ((nm : Int) + 1)) = w2 at hB2 hC2 ⊢
      clear hc0 hf0 hc1
      have hne1 : w.heap.size ≠ bt := by omega
      have hbl2 : w2.cell? ⟨w.heap.size, 0, none⟩ = some (.slice A xs.length c) := (World.cell?_of_block (hC2.block _ (World.block_lt_of_cell? wr _ hbl) (by simp; omega))).trans hbl
      have HX2 := Lib.hid (HXr.out.chg hC2 (fun ad e => by have := HO.out ad e; simp at this ⊢; exact this.1))
      have HM2 := Lib.hid (HMr.out.chg hC2 (by simp; omega))
      have hc20 := hB2.cell 0
      have hc21 := hB2.cell 1
      simp at hc20 hc21
      have hbt2 := hB2.lt
      have hbl2l := World.block_lt_of_cell? w2 _ hbl2
      have PP0 : ∀ w', Below w2.heap.size w2 w' → Calls Tryz.prog 379 #[.int .i64 pl, .pointer (some ⟨w.heap.size, 0, none⟩)] w' fun e w'' => e = .returned (.agg #[.int .i64 xs[pl].1, .int .i64 xs[pl].2]) ∧ Below w2.heap.size w2 w'' :=
        fun w' hb' => (pair_any w.heap.size A xs.length c xs pl xs[pl].1 xs[pl].2 w' rfl ((hb'.cell (p := ⟨w.heap.size, 0, none⟩) hbl2l).trans hbl2) (HX2.out.chg (S := []) (Chg.of_below hb' _) (fun _ _ => by simp)) Hxp.out).mono fun _ _ ⟨he, h⟩ => ⟨he, hb'.trans (h.mono hb'.size)⟩
      have PP := Lib.hid PP0
      clear PP0
      have hput : ∀ w' : World, ∃ w'' : World, Below w2.heap.size w2 w' → (Instr.mapUpdate 74 (.map (some bm)) (.agg #[.int .i64 xs[pl].1, .int .i64 xs[pl].2]) (.int .i64 ((nm : Int) + 1))).run Tryz.prog w' = .ok () w'' ∧
          MapIs w'' bm (nm + 1) (fun x y => if (x, y) = (xs[pl].1, xs[pl].2) then (nm : Int) + 1 else f x y) ∧ w'.grownBy w'' (some bm) := by
        intro w'
        by_cases hb' : Below w2.heap.size w2 w'
        · obtain ⟨w'', h⟩ := (HM2.out.chg (S := []) (Chg.of_below hb' _) (by simp)).put (by unfold maxLen; omega) xs[pl].1 xs[pl].2 ((nm : Int) + 1) hwp.1 hwp.2 (WalkArith.wf_i64 (by omega))
          exact ⟨w'', fun _ => h⟩
        · exact ⟨w', fun h => absurd h hb'⟩
      obtain ⟨G, hG⟩ := Classical.axiomOfChoice hput
      have hG1 : ∀ w' : World, Below w2.heap.size w2 w' → (Instr.mapUpdate 74 (.map (some bm)) (.agg #[.int .i64 xs[pl].1, .int .i64 xs[pl].2]) (.int .i64 ((nm : Int) + 1))).run Tryz.prog w' = .ok () (G w') := fun w' h => (hG w' h).1
      have HG := Lib.hid hG
      clear hG hput hwp hk
      go_region_held3 (fun w' => w'.cell? ⟨bt, 1, none⟩ = some (.map (some bm)) ∧ w'.cell? ⟨bt, 0, none⟩ = some (.int .i64 ((nm : Int) + 1)) ∧ Chg [bm] w2 w')
        (first | exact keepT hc21 hc20 hbt2 hne (Chg.refl _ _).drew | exact keepT hc21 hc20 hbt2 hne ((Chg.of_below hb1 _).grown (HG.out _ hb1).2.2 (by simp)) | exact keepT hc21 hc20 hbt2 hne (Chg.of_below hb1 _))
        (first | (go_at_call 379; (with_reducible refine (PP.out _ (Below.refl _ _).drew).mono ?_); rintro e w1 ⟨rfl, hb1⟩))
      have hg3 := (HG.out w1 hb1).2
      go_wp2
      go_ret
      have hC3 : Chg [bm] w2 (G w1) := (Chg.of_below hb1 _).grown hg3.2 (by simp)
      have e1 : xs.getD (oldTo f xs xs.length) (0, 0) = (xs[pl].1, xs[pl].2) := by rw [← HP0.out, HP.out]; simp [List.getD, hpl]
      refine ⟨ret_nat (by rw [← HP0.out, HP.out]), ?_, ?_, ?_⟩
      · exact hB2.chg hC3 (by simpa using hne)
      · rw [e1]; exact hg3.1
      · exact ((Chg.of_below hb0 _).trans (hC2.mono (by simp))).trans (hC3.mono (by simp))
end Go.Proofs.YthipgipmhjebmaaGreatDoor.Pol
