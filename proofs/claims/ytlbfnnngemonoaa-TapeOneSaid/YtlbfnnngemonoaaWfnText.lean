/- The writers: a real's form behind bytes (wire.laid). -/
import Derived.Test.YtlbfnnngemonoaaWfnLaid
namespace Go.Proofs.Ytlbfnnngemonoaa.Wir
open Go.RowKit Go.Proofs.Ytlbfnnngemonoaa.PWireReads
open Go.Proofs.Ytlbfnnngemonoaa.Fat (Blk Chg Off chg_opt)
open Go.Proofs.YtlbfnnngemonoaaW.PrintWords Go.Proofs.YtlbfnnngemonoaaW.PrintLast Go.Proofs.YtlbfnnngemonoaaW.PrintMore
set_option linter.unusedVariables false
set_option linter.unusedSimpArgs false
attribute [local go_sem] run_store_float run_store_complex

theorem strCells_bOf (s : ByteArray) : Lib.strCells s = encs (Value.int .u8) (bOf s) := by
  simp [Lib.strCells, encs, bOf]
theorem R_append_str {ops : Array Oper} {rest : List Oper} {o : Oper} {a : Act} {Q : Exit → Act → World → Prop} {w0 W : World} (base : Nat) (hgd : o.guard = none) (sl x : Operand)
    (ho : o.op = .call { callee := .builtin .append, args := #[sl, x], argTypes := #[45, 9] }) (v : Value) (xs : List Int) (s : ByteArray) (hs : a.eval sl = v) (hx : a.eval x = .string s)
    (hR : Kd.R (Kd.int .u8) 5 W base (fun _ => True) v xs) (hB : Below base w0 W) (hb : base ≤ W.heap.size) (hl : xs.length + s.size ≤ 140737488355328)
    (h : ∀ v1 w1, Kd.R (Kd.int .u8) 5 w1 base (fun _ => True) v1 (xs ++ bOf s) → Below base w0 w1 → W.grownBy w1 v.ownBlock → wpList Try.prog ops Q rest (a.put o.dst v1) w1) : wpList Try.prog ops Q (o :: rest) a W := by
  obtain ⟨i, hi, hz, hsz, hby⟩ := info_parts info5
  refine Lib.wpList_append_own_string W hgd sl x 45 9 ho base 5 i Try.underlying45 Try.underlying9 hi hz hsz hby v xs.length _ hs (Kd.own_of_R hR) s hx (by simp only [maxLen]; omega) hl hb (fun v1 w1 h1 h2 h3 => ?_)
  refine h v1 w1 ?_ ?_ h2
  · refine Kd.R_of_own ?_ (fun _ _ => trivial)
    rw [strCells_bOf] at h1
    have e : (xs ++ bOf s).length = xs.length + s.size := by simp [bOf]
    rw [e, encs, List.map_append]
    exact h1
  · exact hB.trans ((chg_opt h2).below hb (fun k hk => Kd.R_base hR k (by simpa using hk)))
set_option maxRecDepth 20000 in
set_option maxHeartbeats 4000000 in
theorem laid_text (s : ByteArray) (hs256 : s.size ≤ 256) (base : Nat) (b : Value) (xs : List Int) (w : World) (hR : Kd.R (Kd.int .u8) 5 w base (fun _ => True) b xs) (hb : base ≤ w.heap.size) (hl : xs.length ≤ 1000000) :
    Calls Try.prog 64 #[b, .agg #[.int .i64 4, .int .i64 0, .float .f64 0, .complex .f64 0 0, .string s]] w (LPost base w xs (vT s)) := by
  have hM : ∀ W : World, Calls Try.prog 54 #[.agg #[.int .i64 4, .int .i64 0, .float .f64 0, .complex .f64 0 0, .string s]] W fun e w' => e = .returned (.bool true) ∧ Below W.heap.size W w' := fun W => by
    have h := may_any (vT s) (Good.shp (.inr (.inr (.inr ⟨s, hs256, rfl⟩)))) W
    rw [Good.may (.inr (.inr (.inr ⟨s, hs256, rfl⟩)))] at h
    exact h
  have HM := Lib.hid hM
  have HR := Lib.hid hR
  have HOB := Lib.hid (Kd.R_lt hR)
  have HA := Lib.hid (Blk.new w 50 #[.int .i64 4, .int .i64 0, .float .f64 0, .complex .f64 0 0, .string s])
  have HBA := Lib.hid ((Below.refl w.heap.size w).alloc (Nat.le_refl _) (.cells #[.int .i64 4, .int .i64 0, .float .f64 0, .complex .f64 0 0, .string s] 50))
  generalize hPP : LPost base w xs (vT s) = PP
  have HPP := Lib.hid hPP
  clear hM hR hPP
  obtain ⟨A, c, rfl⟩ := Kd.R_slice HR.out
  go_enter Try.func64, Try.ntmps64
  go_upto_region 1 with fail
  generalize hWq : w.alloc (.cells #[.int .i64 4, .int .i64 0, .float .f64 0, .complex .f64 0 0, .string s] 50) = W1 at HA HBA ⊢
  clear hWq
  have hba := HA.out
  have x0 := hba.cell 0
  have x1 := hba.cell 1
  have x2 := hba.cell 2
  have x3 := hba.cell 3
  have x4 := hba.cell 4
  simp at x0 x1 x2 x3 x4
  clear hba
  go_wp2_with fail
  refine (HM.out _).mono ?_
  rintro e w2 ⟨rfl, hb2⟩
  have HA2 := Lib.hid (HA.out.below hb2 HA.out.lt)
  have HB2 := Lib.hid (HBA.out.trans (hb2.mono HBA.out.size))
  have HR2 := Lib.hid (Kd.R_below HR.out HB2.out)
  clear x0 x1 x2 x3 x4 hb2 HA HBA HR
  have hba := HA2.out
  have x0 := hba.cell 0
  simp at x0
  clear hba
  have hs2 := HB2.out.size
  go_upto_region 4 with (first | ((with_reducible refine gate_builtin (b := .append) (xs := #[.tmp 16, .tmp 20]) rfl ?_); at_builtin; refine Kd.R_append_rows (Kd.int .u8) (w0 := w) base rfl (.tmp 16) (.tmp 20) 45 5 (.int .u8 0) 1 rfl Try.underlying45 info5 rfl (by decide) (by omega) (.slice A xs.length c) xs [4] (some ⟨w2.heap.size, 0, none⟩) 1 1 (fun _ => True) (fun _ => False) rfl rfl (Kd.R_alloc HR2.out (.cells #[.int .u8 4] 5)) (C_blk (Blk.new w2 5 #[.int .u8 4]) [4] rfl (by decide)) (fun x cs hc => hc) (fun _ hk => hk.elim) (fun _ _ => trivial) ((HB2.out.mono hb).alloc (Nat.le_trans hb HB2.out.size) _) (by simp; omega) (by omega) ?_; intro v3 w3 hR3 hb3 hg3 hat3; obtain ⟨A3, c3, hv3⟩ := Kd.R_slice hR3; subst hv3; have HR3 := Lib.hid hR3; have HB3 := Lib.hid hb3; have HA3 := Lib.hid ((HA2.out.alloc (.cells #[.int .u8 4] 5)).chg (chg_opt hg3) (fun hx => by have := HOB.out w.heap.size (by simpa using hx); omega)); have HO3 := Lib.hid (Kd.R_lt hR3); clear hR3 hb3 hg3 hat3 x0) | fail)
  have HT := Lib.hid (two_new w3 #[.int .u8 0, .int .u8 0, .int .u8 0, .int .u8 0, .int .u8 0, .int .u8 0, .int .u8 0, .int .u8 0] #[.int .u8 0, .int .u8 0, .int .u8 0, .int .u8 0, .int .u8 0, .int .u8 0, .int .u8 0, .int .u8 0] 120 120)
  go_upto_region 5 with fail
  generalize hWq : ((w3.alloc (.cells #[.int .u8 0, .int .u8 0, .int .u8 0, .int .u8 0, .int .u8 0, .int .u8 0, .int .u8 0, .int .u8 0] 120)).alloc (.cells #[.int .u8 0, .int .u8 0, .int .u8 0, .int .u8 0, .int .u8 0, .int .u8 0, .int .u8 0, .int .u8 0] 120)) = W4 at HT ⊢
  clear hWq
  have HA4 := Lib.hid (HA3.out.below HT.out.2.2 HA3.out.lt)
  have HR4 := Lib.hid (Kd.R_below HR3.out HT.out.2.2)
  have HB4 := Lib.hid (HB3.out.trans (HT.out.2.2.mono (Nat.le_trans hb HB3.out.size)))
  have x0 := HA4.out.cell 0
  have x1 := HA4.out.cell 4
  simp at x0 x1
  have hs3 := HB3.out.size
  clear HA2 HA3 HB2 HR2 HR3 HM hs2
  have hR4 := HR4.out
  rw [show (xs ++ [(4 : Int)]).length = xs.length + 1 from by simp] at hR4
  have HR4 := Lib.hid hR4
  have HSZ : Hid (((xs ++ [4]).length + 2) * 1 ≤ 140737488355328) := Lib.hid (by simp; omega)
  have HO4 := Lib.hid (Kd.R_lt hR4)
  have HBox := Lib.hid (HA4.out.alloc (.cells #[.int .u8 ((s.size : Int) / 256), .int .u8 ((s.size : Int) % 256)] 5))
  have HOX : Hid (∀ k, (Value.slice A3 (xs.length + 1) c3).ownBlock = some k → k ≠ w.heap.size) := Lib.hid (fun k hk e => by
    subst e
    obtain ⟨q, hq, cells, hcl⟩ := (Kd.R_bound hR4).1 _ hk |>.2.2.2
    have h1 : W4.heap[w.heap.size]? = some (.cells _ 50 (0, 0)) := HA4.out
    rw [h1] at hcl
    injection hcl with hcl
    injection hcl with h2 h3 h4
    subst h3
    have hE : (Kd.int .u8).E = [] := rfl
    rw [hE] at hq
    simp at hq)
  have hb4 : base ≤ W4.heap.size := Nat.le_trans hb (by have := HB4.out.size; omega)
  clear hR4
  go_wp2_with (first | ((with_reducible refine gate_builtin (b := .append) (xs := #[.tmp 52, .tmp 62]) rfl ?_); at_builtin; refine hold_it ?_) | fail)
  refine id ?_
  refine Kd.R_append_rows (Kd.int .u8) (w0 := w) base rfl (.tmp 52) (.tmp 62) 45 5 (.int .u8 0) 1 rfl Try.underlying45 info5 rfl (by decide) (by omega) (.slice A3 (xs.length + 1) c3) (xs ++ [4]) [(s.size : Int) / 256, (s.size : Int) % 256] (some ⟨W4.heap.size, 0, none⟩) 2 2 (fun _ => True) (fun _ => False) rfl rfl (Kd.R_alloc HR4.out (.cells #[.int .u8 ((s.size : Int) / 256), .int .u8 ((s.size : Int) % 256)] 5)) (C_blk (Blk.new W4 5 #[.int .u8 ((s.size : Int) / 256), .int .u8 ((s.size : Int) % 256)]) [(s.size : Int) / 256, (s.size : Int) % 256] rfl (by simp)) (fun x cs hc => hc) (fun _ hk => hk.elim) (fun _ _ => trivial) (HB4.out.alloc hb4 _) (by simp; omega) HSZ.out ?_
  intro v7 w7 hR7 hb7 hg7 hat7
  obtain ⟨A7, c7, rfl⟩ := Kd.R_slice hR7
  have hbx := HBox.out.chg (chg_opt hg7) (fun hx => HOX.out w.heap.size (by simpa using hx) rfl)
  have x4 := hbx.cell 4
  simp at x4
  rw [show (xs ++ [(4 : Int)] ++ [(s.size : Int) / 256, (s.size : Int) % 256]).length = xs.length + 3 from by simp] at hR7
  have HR7 := Lib.hid hR7
  have HB7 := Lib.hid hb7
  have hb7' : base ≤ w7.heap.size := Nat.le_trans hb hb7.size
  clear hR7 hb7 hg7 hat7 hbx x0 x1 HBox
  have HSZ7 : Hid ((xs ++ [4] ++ [(s.size : Int) / 256, (s.size : Int) % 256]).length + s.size ≤ 140737488355328) := Lib.hid (by simp; omega)
  go_wp2_with (first | ((with_reducible refine gate_builtin (b := .append) (xs := #[.tmp 64, .tmp 66]) rfl ?_); at_builtin; refine hold_it ?_) | fail)
  refine id ?_
  refine R_append_str (w0 := w) base rfl (.tmp 64) (.tmp 66) rfl (.slice A7 (xs.length + 3) c7) _ s rfl rfl HR7.out HB7.out hb7' HSZ7.out ?_
  intro v8 w8 hR8 hb8 hg8
  have HR8 := Lib.hid hR8
  have HB8 := Lib.hid hb8
  clear hR8 hb8 hg8
  go_wp2_with fail
  rw [← HPP.out]
  refine ⟨v8, rfl, ?_, HB8.out⟩
  have h := HR8.out
  rw [List.append_assoc, List.append_assoc] at h
  exact h
end Go.Proofs.Ytlbfnnngemonoaa.Wir
