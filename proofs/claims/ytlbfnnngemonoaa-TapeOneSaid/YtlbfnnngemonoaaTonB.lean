/- tape.Encode lays calls; what is read has just those bytes as its form; the law TapeOne. -/
import Derived.Test.YtlbfnnngemonoaaTonA
import Derived.Lib.SlBytesConst
import Derived.Test.YtlbfnnngemonoaaTapHas
namespace Go.Proofs.Ytlbfnnngemonoaa.Wir
open Go.RowKit Go.Proofs.Ytlbfnnngemonoaa.PWireReads
open Go.Proofs.Ytlbfnnngemonoaa.Fat (Blk Chg Off chg_opt)
open Go.Proofs.YtlbfnnngemonoaaW.PrintWords Go.Proofs.YtlbfnnngemonoaaW.PrintLast Go.Proofs.YtlbfnnngemonoaaW.PrintMore
set_option linter.unusedVariables false
set_option linter.unusedSimpArgs false

def formCs : List Cl → List Int
  | [] => []
  | x :: r => formC x ++ formCs r
theorem cut_join (l : List Int) (a b : Nat) (h : a ≤ b) : l.take a ++ (l.take b).drop a = l.take b := by
  have := List.take_append_drop a (l.take b)
  rwa [List.take_take, Nat.min_eq_left h] at this
theorem cut_one (l : List Int) (a b : Nat) (h : a < b) (hl : a < l.length) : (l.take b).drop a = l.getD a 0 :: (l.take b).drop (a + 1) := by
  have hlen : a < (l.take b).length := by rw [List.length_take]; omega
  rw [List.drop_eq_getElem_cons hlen]
  congr 1
  rw [List.getElem_take, List.getD_eq_getElem?_getD, List.getElem?_eq_getElem hl]
  rfl
theorem rdW_form {l : List Int} (hB : By l) {a n : Nat} {s : ByteArray} (h : rdW l a = some (s, n)) : formN s = (l.take n).drop a ∧ s.size ≤ 32 := by
  unfold rdW at h
  split at h
  · cases h
  rename_i h1
  split at h
  · cases h
  rename_i h2
  split at h
  · cases h
  rename_i h3
  injection h with h
  injection h with e1 e2
  have hb := hB.at a
  obtain ⟨y, hy⟩ : ∃ y : Nat, l.getD a 0 = (y : Int) := ⟨(l.getD a 0).toNat, by omega⟩
  rw [hy, Int.toNat_natCast] at e1 e2 h3
  rw [hy] at h2
  have hBc : By ((l.take (a + 1 + y)).drop (a + 1)) := (hB.take _).drop _
  obtain ⟨q1, q2⟩ := bOf_str _ hBc
  rw [e1] at q1 q2
  have hlen : ((l.take (a + 1 + y)).drop (a + 1)).length = y := by rw [List.length_drop, List.length_take]; omega
  rw [hlen] at q2
  subst e2
  refine ⟨?_, by omega⟩
  rw [cut_one l a (a + 1 + y) (by omega) (by omega), formN, q1, q2, hy]
theorem rdL_form {l : List Int} (hB : By l) {a : Nat} {x : Int} (h : rdL l a = some x) : by8 (IntKind.u64.wrap x) = (l.take (a + 8)).drop a := by
  unfold rdL at h
  split at h
  · cases h
  rename_i h1
  injection h with h
  have hlen : ((l.take (a + 8)).drop a).length = 8 := by rw [List.length_drop, List.length_take]; omega
  obtain ⟨q1, q2, q3⟩ := by8_num _ hlen ((hB.take _).drop _)
  have e : IntKind.u64.wrap x = num ((l.take (a + 8)).drop a) := by
    rw [← h, IntKind.wrap_u64]
    unfold wrap64
    omega
  rw [e, q1]
theorem rdC_form {l : List Int} (hB : By l) {x : Cl} {n : Nat} (h : rdC l = some (x, n)) : formC x = l.take n ∧ SC x := by
  have one : ∀ k : Int, l.getD 0 0 = k → 0 < l.length → l.take 1 = [k] := fun k hk hl => by
    match l, hl with
    | a :: r, _ => simp at hk ⊢; exact hk
  unfold rdC at h
  split at h
  · rename_i hk
    cases hr : rdW l 1 with
    | none => rw [hr] at h; cases h
    | some y =>
      obtain ⟨s, m⟩ := y
      rw [hr] at h
      simp only [Option.map_some, Option.some.injEq, Prod.mk.injEq] at h
      obtain ⟨rfl, rfl⟩ := h
      obtain ⟨h1, h2⟩ := rdW_le hr
      obtain ⟨q1, q2⟩ := rdW_form hB hr
      refine ⟨?_, .inl ⟨s, q2, rfl⟩⟩
      have := cut_join l 1 m (by omega)
      rw [one 1 hk (by omega), ← q1] at this
      exact this
  split at h
  · rename_i _ hk
    cases hr : rdL l 1 with
    | none => rw [hr] at h; cases h
    | some t =>
      cases hr2 : rdW l 9 with
      | none => rw [hr, hr2] at h; cases h
      | some z =>
        obtain ⟨s, m⟩ := z
        cases hr3 : rdP (l.drop m) with
        | none => rw [hr, hr2] at h; simp only [Option.bind_some, hr3] at h; cases h
        | some q =>
          obtain ⟨p, j⟩ := q
          rw [hr, hr2] at h
          simp only [Option.bind_some, hr3, Option.map_some, Option.some.injEq, Prod.mk.injEq] at h
          obtain ⟨rfl, rfl⟩ := h
          obtain ⟨h1, h2⟩ := rdW_le hr2
          obtain ⟨q1, q2⟩ := rdW_form hB hr2
          have q3 := rdL_form hB hr
          obtain ⟨q4, q5, q6⟩ := form_rdP _ (hB.drop m) _ _ hr3
          obtain ⟨g1, g2, _⟩ := rdP_good _ _ _ hr3
          refine ⟨?_, .inr (.inl ⟨s, t, p, q2, g1, q5, by omega, q6, rfl⟩)⟩
          have c1 := cut_join l 1 9 (by omega)
          have c2 := cut_join l 9 m (by omega)
          rw [one 2 hk (by omega), ← q3] at c1
          rw [← c1, ← q1] at c2
          rw [List.take_add, ← c2, ← q4]
          simp [formC]
  split at h
  · rename_i _ _ hk
    cases hr : rdL l 1 with
    | none => rw [hr] at h; cases h
    | some y =>
      rw [hr] at h
      simp only [Option.map_some, Option.some.injEq, Prod.mk.injEq] at h
      obtain ⟨rfl, rfl⟩ := h
      have := rdL_le hr
      refine ⟨?_, .inr (.inr ⟨y, rfl⟩)⟩
      have c1 := cut_join l 1 9 (by omega)
      rw [one 3 hk (by omega), ← rdL_form hB hr] at c1
      exact c1
  · cases h
theorem decC_form : ∀ (k : Nat) (l : List Int) (xs : List Cl), By l → decC k l = some xs → formCs xs = l ∧ (∀ x ∈ xs, SC x) ∧ xs.length ≤ k := by
  intro k
  induction k with
  | zero =>
    intro l xs hB h
    rw [decC] at h
    split at h
    · rename_i h0
      injection h with h
      subst h
      exact ⟨(List.length_eq_zero_iff.1 h0).symm, by simp, by simp⟩
    · cases h
  | succ k ih =>
    intro l xs hB h
    rw [decC] at h
    split at h
    · rename_i h0
      injection h with h
      subst h
      exact ⟨(List.length_eq_zero_iff.1 h0).symm, by simp, by simp⟩
    · cases hr : rdC l with
      | none => rw [hr] at h; cases h
      | some y =>
        obtain ⟨x, n⟩ := y
        rw [hr] at h
        simp only at h
        cases hd : decC k (l.drop n) with
        | none => rw [hd] at h; cases h
        | some ys =>
          rw [hd] at h
          simp only [Option.map_some, Option.some.injEq] at h
          subst h
          obtain ⟨h1, h2, h3⟩ := ih _ _ (hB.drop n) hd
          obtain ⟨q1, q2⟩ := rdC_form hB hr
          refine ⟨?_, fun z hz => ?_, by simp; omega⟩
          · rw [formCs, q1, h1, List.take_append_drop]
          · rcases List.mem_cons.1 hz with rfl | hz
            · exact q2
            · exact h2 z hz
/-- What is read has just those bytes as its form. -/
theorem rdD_form {l : List Int} (hB : By l) {xs : List Cl} (h : rdD l = some xs) : [67, 77, 84, 49] ++ formCs xs = l ∧ (∀ x ∈ xs, SC x) ∧ xs.length ≤ 4096 := by
  unfold rdD at h
  split at h
  · cases h
  · rename_i hn
    obtain ⟨h1, h2, h3⟩ := decC_form 4096 _ _ (hB.drop 4) h
    refine ⟨?_, h2, h3⟩
    have h4 : l.take 4 = [67, 77, 84, 49] := Classical.byContradiction fun e => hn (.inr e)
    rw [h1, ← h4, List.take_append_drop]
theorem formCs_append : ∀ a b : List Cl, formCs (a ++ b) = formCs a ++ formCs b
  | [], _ => rfl
  | x :: r, b => by simp only [List.cons_append, formCs, formCs_append r b, List.append_assoc]
theorem formCs_take (xs : List Cl) (i : Nat) (hi : i < xs.length) : formCs (xs.take (i + 1)) = formCs (xs.take i) ++ formC (xs.getD i zCl) := by
  rw [List.take_add_one, List.getElem?_eq_getElem hi, formCs_append, List.getD_eq_getElem?_getD, List.getElem?_eq_getElem hi]
  simp [formCs]
theorem formCs_len : ∀ xs : List Cl, (∀ x ∈ xs, SC x) → (formCs xs).length ≤ 5000 * xs.length
  | [], _ => by simp [formCs]
  | x :: r, h => by
    have h1 := formC_len x (h x (by simp))
    have h2 := formCs_len r (fun u hu => h u (by simp [hu]))
    simp only [formCs, List.length_append, List.length_cons]
    omega
/-- A row of bytes of the call's own; or the constant's row, which the run time has marked. -/
def Hd (base : Nat) (W : World) (u : Value) (xs : List Int) : Prop := Kd.R (Kd.int .u8) 5 W base (fun _ => True) u xs ∨ (∃ g, u = .slice (some ⟨g, 0, none⟩) 4 4 ∧ xs = [67, 77, 84, 49] ∧ base ≤ g ∧ W.heap[g]? = some (.cells #[.int .u8 67, .int .u8 77, .int .u8 84, .int .u8 49] 5 (4, 5)))
theorem heap_lt {W : World} {g : Nat} {o : Obj} (h : W.heap[g]? = some o) : g < W.heap.size := by
  rcases Nat.lt_or_ge g W.heap.size with h' | h'
  · exact h'
  · rw [Array.getElem?_eq_none h'] at h; cases h
theorem Hd.below {base : Nat} {W W' : World} {u : Value} {xs : List Int} (h : Hd base W u xs) (hb : Below W.heap.size W W') : Hd base W' u xs := by
  rcases h with h | ⟨g, h1, h2, h3, h4⟩
  · exact .inl (Kd.R_below h hb)
  · exact .inr ⟨g, h1, h2, h3, (hb.block g (heap_lt h4)).trans h4⟩
theorem C_row {w : World} {g : Nat} {t : TypeId} {fr : Nat × Nat} (xs : List Int) (h : w.heap[g]? = some (.cells (xs.map (Value.int .u8)).toArray t fr)) (hl : xs.length ≤ 1000) : Kd.C (Kd.int .u8) w (some ⟨g, 0, none⟩) xs.length xs := by
  refine ⟨rfl, by omega, fun _ => ⟨_, rfl, fun j p hj => ⟨[.int .u8 p], rfl, rfl, fun i u hu => ?_⟩⟩⟩
  rcases i with _ | i
  · have := Option.some.inj hu
    subst this
    rw [addW]
    have hz : (Kd.int .u8).sz = 1 := rfl
    rw [hz, Nat.mul_one, Nat.add_zero, cell_of_row w g j _ t fr h]
    simp [hj]
  · simp at hu
theorem Hd.read {base : Nat} {W : World} {u : Value} {xs : List Int} (h : Hd base W u xs) : ∃ A c, u = .slice A xs.length c ∧ xs.length ≤ c ∧ Kd.C (Kd.int .u8) W A xs.length xs := by
  rcases h with h | ⟨g, rfl, rfl, h3, h4⟩
  · exact Kd.R_reads h
  · exact ⟨_, 4, rfl, by decide, C_row [67, 77, 84, 49] h4 (by decide)⟩
set_option maxRecDepth 20000 in
theorem Hd_append {ops : Array Oper} {rest : List Oper} {o : Oper} {a : Act} {Q : Exit → Act → World → Prop} {w0 W : World} (base : Nat) (hgd : o.guard = none) (sl x : Operand)
    (ho : o.op = .call { callee := .builtin .append, args := #[sl, x], argTypes := #[45, 45] }) (v : Value) (xs ys : List Int) (A : Option Addr) (c : Nat) (hs : a.eval sl = v) (hx : a.eval x = .slice A ys.length c)
    (hR : Hd base W v xs) (hC : Kd.C (Kd.int .u8) W A ys.length ys) (hy : 0 < ys.length) (hB : Below base w0 W) (hb : base ≤ W.heap.size) (hl : xs.length + ys.length ≤ 140737488355328)
    (h : ∀ v1 w1, Hd base w1 v1 (xs ++ ys) → Below base w0 w1 → wpList Try.prog ops Q rest (a.put o.dst v1) w1) : wpList Try.prog ops Q (o :: rest) a W := by
  rcases hR with hR | ⟨g, rfl, rfl, h3, h4⟩
  · refine Kd.R_append_rows (Kd.int .u8) (w0 := w0) base hgd sl x 45 5 (.int .u8 0) 1 ho Try.underlying45 info5 rfl (by decide) (by omega) v xs ys A ys.length c (fun _ => True) (fun _ => False) hs hx hR hC (fun x cs hc => hc) (fun _ hk => hk.elim) (fun _ _ => trivial) hB hb (by omega) ?_
    intro v1 w1 h1 h2 h3 h4
    exact h v1 w1 (.inl h1) h2
  · obtain ⟨i, hi, hz, hsz, hby⟩ := info_parts info5
    obtain ⟨ad, hA, _⟩ := byte_at hC 0 hy
    subst hA
    refine wpList_append_grows W hgd sl x 45 ho 5 i (.int .u8 0) 1 1 Try.underlying45 hi hz hsz hby rfl (by omega) (some ⟨g, 0, none⟩) 4 4 (encs (Value.int .u8) [67, 77, 84, 49]) hs (fun e => by cases e) rfl ?_ ad ys.length c (encs (Value.int .u8) ys) hx (by simp [encs]) ?_ ?_ (by omega) (by simp only [maxLen]; simp at hl; omega) (by simp at hl; omega) ?_
    · intro b e j u hj
      injection e with e
      subst e
      rw [addW, cell_of_row W g j _ 5 (4, 5) h4, List.getElem?_toArray]
      exact hj
    · intro j u hj
      have hjl : j < ys.length := by
        have := (List.getElem?_eq_some_iff.1 hj).1
        simpa [encs] using this
      obtain ⟨ad', e, hc⟩ := byte_at hC j hjl
      injection e with e
      subst e
      rw [hc, List.getD_eq_getElem?_getD, List.getElem?_eq_getElem hjl]
      rw [encs, List.getElem?_map, List.getElem?_eq_getElem hjl] at hj
      exact hj
    · intro u hu
      simp only [encs, List.mem_map] at hu
      obtain ⟨z, _, rfl⟩ := hu
      rfl
    · intro v' w' hown hg
      refine h v' w' (.inl ?_) (hB.trans ((chg_opt hg).below hb (by simp)))
      have e : encs (Value.int .u8) [67, 77, 84, 49] ++ encs (Value.int .u8) ys = encs (Value.int .u8) ([67, 77, 84, 49] ++ ys) := by simp [encs]
      have e2 : 4 + ys.length = ([67, 77, 84, 49] ++ ys : List Int).length := by simp; omega
      rw [e, e2] at hown
      exact Kd.R_lower (Kd.R_of_own (h1 := fun _ => rfl) (ok := fun _ => True) hown (fun _ _ => trivial)) hb
/-- Bytes that one may read. -/
def EncPost (w : World) (xs : List Int) (e : Ending) (w' : World) : Prop :=
  ∃ A c, e = .returned (.tuple #[.slice A xs.length c, .int .i64 0]) ∧ xs.length ≤ c ∧ Kd.C (Kd.int .u8) w' A xs.length xs ∧ Below w.heap.size w w'
theorem SC_good {x : Cl} (h : SC x) : 2 ≤ (formC x).length := by
  rcases h with ⟨s, hs, rfl⟩ | ⟨s, t, p, hs, hG, hF, h6, hz, rfl⟩ | ⟨r, rfl⟩ <;> simp [formC, formN, by8]
set_option maxRecDepth 20000 in
set_option maxHeartbeats 4000000 in
theorem enc_any (A : Option Addr) (c : Nat) (xs : List Cl) (w : World) (hC : Kd.C kCl w A xs.length xs) (hc : xs.length ≤ c) (hS : ∀ x ∈ xs, SC x) (h6 : xs.length ≤ 4096) :
    Calls Try.prog 42 #[.slice A xs.length c] w (EncPost w ([67, 77, 84, 49] ++ formCs xs)) := by
  obtain ⟨PP, hPP⟩ : ∃ PP, EncPost w ([67, 77, 84, 49] ++ formCs xs) = PP := ⟨_, rfl⟩
  rw [hPP]
  have HPP := Lib.hid hPP
  have HC := Lib.hid hC
  have HS := Lib.hid hS
  have b0 : decide ((4096 : Int) < (xs.length : Int)) = false := decide_eq_false (by omega)
  have b1 : decide (4096 < xs.length) = false := decide_eq_false (by omega)
  have HRH : Hid (Hd w.heap.size (w.alloc (.cells #[.int .u8 67, .int .u8 77, .int .u8 84, .int .u8 49] 5 (4, 5))) (.slice (some ⟨w.heap.size, 0, none⟩) 4 4) [67, 77, 84, 49]) := Lib.hid (.inr ⟨w.heap.size, rfl, rfl, Nat.le_refl _, heap_alloc_new w _⟩)
  have HBH := Lib.hid ((Below.refl w.heap.size w).alloc (Nat.le_refl _) (.cells #[.int .u8 67, .int .u8 77, .int .u8 84, .int .u8 49] 5 (4, 5)))
  have kc : ∀ W : World, (convert 45 45 (.slice (some ⟨W.heap.size, 0, none⟩) 4 4)).run Try.prog (W.alloc (.cells #[.int .u8 67, .int .u8 77, .int .u8 84, .int .u8 49] 5)) = .ok (.slice (some ⟨W.heap.size, 0, none⟩) 4 4) (W.alloc (.cells #[.int .u8 67, .int .u8 77, .int .u8 84, .int .u8 49] 5 (4, 5))) := fun W => Lib.run_convert_bytes_const W 45 5 #[.int .u8 67, .int .u8 77, .int .u8 84, .int .u8 49] 4 4 Try.underlying45 Try.underlying5
  clear hPP hC hS
  go_enter Try.func42, Try.ntmps42
  go_wp2_with fail
  generalize w.alloc (.cells #[.int .u8 67, .int .u8 77, .int .u8 84, .int .u8 49] 5 (4, 5)) = W1 at HRH HBH ⊢
  clear kc b0 b1
  go_loopw [4, 16] (fun u i wr => ∃ k : Nat, k ≤ xs.length ∧ i = .int .i64 k ∧ Hid (Hd w.heap.size wr u ([67, 77, 84, 49] ++ formCs (xs.take k))) ∧ Hid (Below w.heap.size w wr)) (fun _ i _ => xs.length - (intOf i).toNat)
  case atStart => exact ⟨0, by omega, rfl, HRH, HBH⟩
  case round =>
    clear HRH HBH
    obtain ⟨k, hk, rfl, HR, HB⟩ := hrel
    by_cases hlt : k < xs.length
    · have b0 : decide ((k : Int) < (xs.length : Int)) = true := by simp; omega
      obtain ⟨ad, Bx, cx, hA, x0, x1, x2, x3, x4, hxl, hxC⟩ := at_Cl (Kd.C_below HC.out HB.out) k hlt
      subst hA
      have hSk := HS.out (xs.getD k zCl) (by rw [List.getD_eq_getElem?_getD, List.getElem?_eq_getElem hlt]; exact List.getElem_mem hlt)
      have hft := formCs_take xs k hlt
      have hfl := formCs_len (xs.take k) (fun u hu => HS.out u (List.mem_of_mem_take hu))
      have hll : ([67, 77, 84, 49] ++ formCs (xs.take k)).length ≤ 100000000 := by
        have : (xs.take k).length ≤ 4096 := by rw [List.length_take]; omega
        simp only [List.length_append, List.length_cons, List.length_nil]
        omega
      have HT : Hid ([67, 77, 84, 49] ++ formCs (xs.take (k + 1)) = ([67, 77, 84, 49] ++ formCs (xs.take k)) ++ formC (xs.getD k zCl)) := Lib.hid (by rw [hft, List.append_assoc])
      generalize ([67, 77, 84, 49] ++ formCs (xs.take k)) = L0 at HR HT hll
      generalize xs.getD k zCl = x at x0 x1 x2 x3 x4 hxl hxC hSk HT
      have HSK := Lib.hid hSk
      have HWN := Lib.hid (w64n k (by omega))
      have hBn := Blk.new wr 123 #[.int .i64 x.k, .string x.s, .int .i64 x.t, .slice Bx x.p.length cx, .int .i64 x.r]
      have HBn := Lib.hid (below_alloc HB.out (.cells #[.int .i64 x.k, .string x.s, .int .i64 x.t, .slice Bx x.p.length cx, .int .i64 x.r] 123))
      have HBw : Hid (Below wr.heap.size wr (wr.alloc (.cells #[.int .i64 x.k, .string x.s, .int .i64 x.t, .slice Bx x.p.length cx, .int .i64 x.r] 123))) := Lib.hid ((Below.refl _ _).alloc (Nat.le_refl _) _)
      have HLL := Lib.hid hll
      clear hft hfl hSk hll
      go_upto_region 7 with fail
      generalize wr.alloc (.cells #[.int .i64 x.k, .string x.s, .int .i64 x.t, .slice Bx x.p.length cx, .int .i64 x.r] 123) = W2 at hBn HBn HBw ⊢
      clear x0 x1 x2 x3 x4
      have y0 := hBn.cell 0
      have y1 := hBn.cell 1
      have y2 := hBn.cell 2
      have y3 := hBn.cell 3
      have y4 := hBn.cell 4
      simp at y0 y1 y2 y3 y4
      have HF := Lib.hid (cform_any x HSK.out Bx cx W2 (Kd.C_below hxC HBw.out) hxl)
      have HR2 := Lib.hid (HR.out.below HBw.out)
      clear hBn hxC hxl HR HBw HB
      go_wp2_with fail
      refine HF.out.mono ?_
      rintro _ w3 ⟨u3, rfl, hR3, hb3⟩
      obtain ⟨A3, c3, rfl⟩ := Kd.R_slice hR3
      have HC3 := Lib.hid (Kd.R_reads' hR3).2.2
      have HR3 := Lib.hid (HR2.out.below hb3)
      have HB3 := Lib.hid (HBn.out.trans (hb3.mono HBn.out.size))
      have HFL := Lib.hid (formC_len x HSK.out)
      have HFL2 := Lib.hid (SC_good HSK.out)
      clear hR3 hb3 y0 y1 y2 y3 y4 HF HR2
      go_wp2_with (first | ((with_reducible refine gate_builtin (b := .append) (xs := #[.tmp 28, .tmp 29]) rfl ?_); at_builtin; refine hold_it ?_) | fail)
      refine _root_.id ?_
      refine Hd_append (w0 := w) w.heap.size rfl (.tmp 28) (.tmp 29) rfl u4 L0 (formC x) A3 c3 rfl rfl HR3.out HC3.out (by have := HFL2.out; omega) HB3.out HB3.out.size (by have := HLL.out; have := HFL.out; omega) ?_
      intro v4 w4 hR4 hb4
      have HR4 := Lib.hid hR4
      have HB4 := Lib.hid hb4
      clear hR4 hb4
      go_wp2_with fail
      go_roundw
      case rel => exact ⟨k + 1, by omega, by first | rfl | (rw [HWN.out]; rfl), by rw [HT.out]; exact HR4, HB4⟩
      case measure =>
        first | rw [HWN.out] | skip
        simp [intOf]
        omega
    · obtain rfl : k = xs.length := by omega
      rw [List.take_length] at HR
      obtain ⟨A1, c1, rfl, hle, hC1⟩ := HR.out.read
      have HC1 := Lib.hid hC1
      generalize hLX : [67, 77, 84, 49] ++ formCs xs = LX at HPP hle HC1
      clear hC1 HR hLX
      go_wp2_with fail
      rw [← HPP.out]
      exact ⟨A1, c1, rfl, hle, HC1.out, HB.out⟩
end Go.Proofs.Ytlbfnnngemonoaa.Wir
namespace Go.Proofs.Ytlbfnnngemonoaa.Wir
open Go.RowKit Go.Proofs.Ytlbfnnngemonoaa.PWireReads
open Go.Proofs.Ytlbfnnngemonoaa.Fat (Blk Chg Off chg_opt)
open Go.Proofs.YtlbfnnngemonoaaW.PrintWords Go.Proofs.YtlbfnnngemonoaaW.PrintLast Go.Proofs.YtlbfnnngemonoaaW.PrintMore
set_option linter.unusedVariables false
set_option linter.unusedSimpArgs false

theorem same9_go (l : List Int) (hl : l.length ≤ 140737488355328) : ∀ d j : Nat, j + d = l.length → chordmaillaw26_same.l0 (d + 1) l l j = some true := by
  intro d
  induction d with
  | zero =>
    intro j hj
    rw [chordmaillaw26_same.l0, if_neg (by omega)]
  | succ d ih =>
    intro j hj
    rw [chordmaillaw26_same.l0, if_pos (by omega), if_pos (by omega), if_pos (by omega), if_pos rfl, show wrap64 ((j : Int) + 1) = ((j + 1 : Nat) : Int) from by unfold wrap64; omega]
    exact ih (j + 1) (by omega)
theorem same9_any (A B : Option Addr) (c d : Nat) (l : List Int) (w : World) (hC : Kd.C (Kd.int .u8) w A l.length l) (hc : l.length ≤ c) (hD : Kd.C (Kd.int .u8) w B l.length l) (hd : l.length ≤ d) (hl : l.length ≤ 140737488355328) :
    Calls Try.prog 38 #[.slice A l.length c, .slice B l.length d] w fun e w' => e = .returned (.bool true) ∧ Below w.heap.size w w' :=
  (chordmaillaw26_same.calls (l.length + 1) A c l B d l true w hC hc hD hd (by
    unfold chordmaillaw26_same.f
    rw [if_pos rfl]
    exact same9_go l hl l.length 0 (by omega))).mono fun e w' h => ⟨h.1, h.2.below⟩
def xk : Cl := ⟨1, { data := #[107] }, 0, [], 0⟩
theorem C_xk (w : World) : Kd.C kCl (w.alloc (.cells #[.int .i64 1, .string { data := #[107] }, .int .i64 0, .slice none 0 0, .int .i64 0] 123)) (some ⟨w.heap.size, 0, none⟩) 1 [xk] := by
  refine ⟨rfl, by simp [maxLen], fun _ => ⟨_, rfl, fun j p hj => ?_⟩⟩
  obtain ⟨rfl, rfl⟩ : j = 0 ∧ xk = p := by
    rcases j with _ | j
    · simp at hj; exact ⟨rfl, hj⟩
    · simp at hj
  have hB := Blk.new w 123 #[.int .i64 1, .string { data := #[107] }, .int .i64 0, .slice none 0 0, .int .i64 0]
  refine ⟨[.int .i64 1, .string { data := #[107] }, .int .i64 0, .slice none 0 0, .int .i64 0], rfl, ⟨[_], [_, _, _, _], rfl, rfl, ⟨[_], [_, _, _], rfl, rfl, ⟨[_], [_, _], rfl, rfl, ⟨[_], [_], rfl, ⟨none, 0, rfl, Nat.le_refl _, Kd.C_nil _ _⟩, rfl⟩⟩⟩⟩, fun i u hu => ?_⟩
  have e : (⟨w.heap.size, 0, none⟩ : Addr).add (0 * kCl.sz + i) = ⟨w.heap.size, i, none⟩ := by
    rw [Nat.zero_mul, Nat.zero_add]
    unfold Addr.add
    split
    · rename_i h; rw [h]
    · simp
  rw [e, hB.cell, List.getElem?_toArray]
  exact hu
set_option maxRecDepth 20000 in
set_option maxHeartbeats 2000000 in
theorem awake41_any (w : World) : Calls Try.prog 41 #[] w fun e w' => e = .returned (.bool true) ∧ Below w.heap.size w w' := by
  have h1 := fun W => enc_any (some ⟨W.heap.size, 0, none⟩) 1 [xk] (W.alloc (.cells #[.int .i64 1, .string { data := #[107] }, .int .i64 0, .slice none 0 0, .int .i64 0] 123)) (C_xk W) (Nat.le_refl _) (by intro x hx; have e : x = xk := (by simpa using hx); rw [e]; exact .inl ⟨_, by decide, rfl⟩) (by decide)
  have e1 : [67, 77, 84, 49] ++ formCs [xk] = [67, 77, 84, 49, 1, 1, 107] := by kernel_rfl
  rw [e1] at h1
  have h2 := fun W => dec_any (some ⟨W.heap.size, 0, none⟩) 7 [67, 77, 84, 49, 1, 1, 107] (W.alloc (.cells #[.int .u8 67, .int .u8 77, .int .u8 84, .int .u8 49, .int .u8 1, .int .u8 1, .int .u8 107] 5 (7, 8))) (C_row [67, 77, 84, 49, 1, 1, 107] (fr := (7, 8)) (heap_alloc_new W _) (by decide)) (by decide) (by unfold By; decide) (by decide)
  have e2 : rdD [67, 77, 84, 49, 1, 1, 107] = some [xk] := by kernel_rfl
  rw [e2] at h2
  have kc : ∀ W : World, (convert 45 45 (.slice (some ⟨W.heap.size, 0, none⟩) 7 7)).run Try.prog (W.alloc (.cells #[.int .u8 67, .int .u8 77, .int .u8 84, .int .u8 49, .int .u8 1, .int .u8 1, .int .u8 107] 5)) = .ok (.slice (some ⟨W.heap.size, 0, none⟩) 7 7) (W.alloc (.cells #[.int .u8 67, .int .u8 77, .int .u8 84, .int .u8 49, .int .u8 1, .int .u8 1, .int .u8 107] 5 (7, 8))) := fun W => Lib.run_convert_bytes_const W 45 5 _ 7 7 Try.underlying45 Try.underlying5
  have H1 := Lib.hid h1
  have H2 := Lib.hid h2
  clear h1 h2 e1 e2
  go_enter Try.func41, Try.ntmps41
  go_wp2_with fail
  refine (H1.out _).mono ?_
  rintro _ w1 ⟨A1, c1, rfl, hc1, hC1, hb1⟩
  have HC1 := Lib.hid hC1
  have HB1 : Hid (Below w.heap.size w w1) := Lib.hid (((Below.refl _ _).alloc (Nat.le_refl _) _).trans (hb1.mono (by simp)))
  clear hC1 hb1
  go_wp2_with fail
  refine (H2.out _).mono ?_
  rintro _ w2 ⟨hb2, A2, c2, rfl, hR2⟩
  have hb12 : Below w1.heap.size w1 w2 := ((Below.refl _ _).alloc (Nat.le_refl _) _).trans (hb2.mono (by simp))
  have hC2 := Kd.C_below HC1.out hb12
  have hst : (convert 45 9 (.slice A1 7 c1)).run Try.prog w2 = .ok (.string (strOfNums [67, 77, 84, 49, 1, 1, 107])) w2 := Kd.C_string Try.underlying45 Try.underlying5 Try.underlying9 hC2
  have e3 : strOfNums [67, 77, 84, 49, 1, 1, 107] = { data := #[67, 77, 84, 49, 1, 1, 107] } := by kernel_rfl
  rw [e3] at hst
  obtain ⟨ad, Bx, cx, hA, x0, x1, x2, x3, x4, hxl, hxC⟩ := at_Cl (l := [xk]) (Kd.R_reads' hR2).2.2 0 (by decide)
  subst hA
  replace x0 : w2.cell? ad = some (.int .i64 1) := by simpa [Addr.add, xk] using x0
  have hda : (ad.add (0 * 5)) = ad := by simp [Addr.add]
  rw [hda] at x1
  replace x1 : w2.cell? ⟨ad.block, ad.off + 1, none⟩ = some (.string { data := #[107] }) := x1
  have HB2 := Lib.hid (HB1.out.trans (hb12.mono HB1.out.size))
  clear hC2 hR2 hxC hxl x2 x3 x4 hb12 hb2 e3 hda
  go_wp2_with fail
  go_ret
  exact ⟨rfl, HB2.out⟩
set_option maxRecDepth 20000 in
set_option maxHeartbeats 4000000 in
theorem tapeone_any (A : Option Addr) (c : Nat) (l : List Int) (w : World) (hC : Kd.C (Kd.int .u8) w A l.length l) (hc : l.length ≤ c) (hl : l.length + 2 ≤ 140737488355328) (hBy : By l) :
    Calls Try.prog 9 #[.slice A l.length c] w fun e w' => e = .returned (.bool true) ∧ Below w.heap.size w w' := by
  have HAW := Lib.hid (fun W => awake41_any W)
  have HC := Lib.hid hC
  have HD := Lib.hid (fun (A1 : Option Addr) (c1 : Nat) (W : World) hC hc => dec_any A1 c1 l W hC hc hBy (by omega))
  have HF := Lib.hid (fun xs (h : rdD l = some xs) => rdD_form hBy h)
  clear hC hBy
  go_enter Try.func9, Try.ntmps9
  go_wp2_with fail
  refine (HAW.out _).mono ?_
  rintro _ w1 ⟨rfl, hb1⟩
  have HC1 := Lib.hid (Kd.C_alloc (Kd.C_below HC.out hb1) (.cells #[] 5))
  have HR0 := Lib.hid (Kd.R_of_own (h1 := fun _ => rfl) (ok := fun _ => True) (own_lit w1 w1.heap.size 5 .u8 [] (Nat.le_refl _) (by simp)) (fun _ _ => trivial))
  have HB0 := Lib.hid ((Below.refl w1.heap.size w1).alloc (Nat.le_refl _) (.cells #[] 5))
  have HB1 := Lib.hid hb1
  clear hb1
  go_wp2_with (first | ((with_reducible refine gate_builtin (b := .append) (xs := #[.tmp 10, .tmp 11]) rfl ?_); at_builtin; refine hold_it ?_) | fail)
  refine _root_.id ?_
  refine Kd.R_append_rows (Kd.int .u8) (w0 := w1) w1.heap.size rfl (.tmp 10) (.tmp 11) 45 5 (.int .u8 0) 1 rfl Try.underlying45 info5 rfl (by decide) (by omega) (.slice (some ⟨w1.heap.size, 0, none⟩) 0 0) [] l A l.length c (fun _ => True) (fun _ => False) rfl rfl HR0.out HC1.out (fun x cs hc => hc) (fun _ hk => hk.elim) (fun _ _ => trivial) HB0.out HB0.out.size (by simp; omega) ?_
  intro v3 w3 hR3 hb3 hg3 hat3
  rw [List.nil_append] at hR3
  obtain ⟨A1, c1, rfl⟩ := Kd.R_slice hR3
  have HR3 := Lib.hid hR3
  have HB3 := Lib.hid (HB1.out.trans (hb3.mono HB1.out.size))
  clear hR3 hb3 hg3 hat3 HC1 HR0 HB0
  have hd := HD.out A1 c1 w3 (Kd.R_reads' HR3.out).2.2 (Kd.R_reads' HR3.out).2.1
  generalize ho : rdD l = o at hd HF
  have HX := Lib.hid hd
  clear hd HD ho
  cases o with
  | none =>
    go_wp2_with fail
    refine HX.out.mono ?_
    rintro _ w4 ⟨hb4, rfl⟩
    have HB4 := Lib.hid (HB3.out.trans (hb4.mono HB3.out.size))
    clear hb4 HX
    go_wp2_with fail
    go_ret
    exact ⟨rfl, HB4.out⟩
  | some xs =>
    obtain ⟨hf, hS, hx6⟩ := HF.out xs rfl
    go_wp2_with fail
    refine HX.out.mono ?_
    rintro _ w4 ⟨hb4, Al, cl, rfl, hR4⟩
    have hen := enc_any Al cl xs w4 (Kd.R_reads' hR4).2.2 (Kd.R_reads' hR4).2.1 hS hx6
    rw [hf] at hen
    have HE := Lib.hid hen
    have HB4 := Lib.hid (HB3.out.trans (hb4.mono HB3.out.size))
    clear hb4 HX hR4 hen hf hS HF
    go_wp2_with fail
    refine HE.out.mono ?_
    rintro _ w5 ⟨A5, c5, rfl, hc5, hC5, hb5⟩
    have HB5 := Lib.hid (HB4.out.trans (hb5.mono HB4.out.size))
    have HS9 := Lib.hid (same9_any A A5 c c5 l w5 (Kd.C_below HC.out HB5.out) hc hC5 hc5 (by omega))
    clear hC5 hb5 HE
    go_wp2_with fail
    refine HS9.out.mono ?_
    rintro _ w6 ⟨rfl, hb6⟩
    go_wp2_with fail
    go_ret
    exact ⟨rfl, HB5.out.trans (hb6.mono HB5.out.size)⟩
end Go.Proofs.Ytlbfnnngemonoaa.Wir
