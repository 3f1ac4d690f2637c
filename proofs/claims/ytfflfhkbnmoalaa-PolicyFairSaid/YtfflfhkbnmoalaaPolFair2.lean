/- The walk through chordmaillaw25.PolicyFair. -/
import Derived.Test.YtfflfhkbnmoalaaPolFairPure
namespace Go.Proofs.Ytfflfhkbnmoalaa.Pol.Fair
open Go.RowKit Go.Proofs.YtfflfhkbnmoalaaW.PrintWords

theorem chgOf {w w' : World} {row : Option Nat} (h : w.grownBy w' row) : Chg row.toList w w' :=
  ⟨h.os, h.tape, h.output, h.size, fun k hk hn => h.block k hk (fun e => hn (by rw [← e]; simp))⟩
theorem chgGrown {S : List Nat} {a w w' : World} {row : Option Nat} (h : Chg S a w) (hg : w.grownBy w' row) (hr : ∀ g, row = some g → a.heap.size ≤ g) : Chg S a w' :=
  ⟨hg.os.trans h.os, hg.tape.trans h.tape, hg.output.trans h.output, Nat.le_trans h.size hg.size, fun k hk hn => (hg.block k (Nat.lt_of_lt_of_le hk h.size) (fun e => by have := hr k e.symm; omega)).trans (h.block k hk hn)⟩
theorem plGrown {S : List Nat} {w w' : World} {p B : Nat} {s : PS} {row : Option Nat} (h : Pl w p S s) (hg : w.grownBy w' row) (hr : ∀ g, row = some g → B ≤ g) (hS : ∀ x ∈ S, x < B) : Pl w' p S s :=
  h.chg (chgOf hg) (fun x hx hm => by
    have : row = some x := by simpa using hm
    have := hr x this
    have := hS x hx
    omega)
theorem own_chg {S : List Nat} {w w' : World} {base n size : Nat} {e : TypeId} {v : Value} {xs : List Value} (h : w.ownsRow base e size v n xs) (hc : Chg S w w') (hS : ∀ g, v.ownBlock = some g → g ∉ S) : w'.ownsRow base e size v n xs :=
  own_move h (fun k hk => hc.block k (own_lt h k hk) (hS k hk))

def oCells (L : List (Int × Int)) (t : Nat) : List Value := (List.range t).map fun i => .int .i64 (yO L i : Nat)
def tCells (L : List (Int × Int)) (t : Nat) : List Value := (List.range t).map fun i => .int .i64 (L.getD (yT L i) (0, 0)).1
theorem oCells_succ (L : List (Int × Int)) (t : Nat) : oCells L (t + 1) = oCells L t ++ [.int .i64 (yO L t : Nat)] := by simp [oCells, List.range_succ]
theorem tCells_succ (L : List (Int × Int)) (t : Nat) : tCells L (t + 1) = tCells L t ++ [.int .i64 (L.getD (yT L t) (0, 0)).1] := by simp [tCells, List.range_succ]
theorem info3 : (Try.prog.info? 3).map (fun i => (i.zero, i.size, i.bytes)) = some (some (.int .i64 0), 1, 8) := by kernel_rfl

/-- What holds in the rounds: what the two policies keep, the two rows, what has changed since the first round. -/
structure Round (L : List (Int × Int)) (p q : Nat) (S T : List Nat) (wL wr : World) (sO sT : PS) (n m : Nat) (v12 v13 : Value) : Prop where
  pO : Pl wr p S sO
  pT : Pl wr q T sT
  a : wr.ownsRow wL.heap.size 3 1 v12 n (oCells L n)
  b : wr.ownsRow wL.heap.size 3 1 v13 m (tCells L m)
  ne : ∀ g, v12.ownBlock = some g → v13.ownBlock ≠ some g
  chg : Chg (S ++ T) wL wr
  lS : ∀ x ∈ S, x < wL.heap.size
  lT : ∀ x ∈ T, x < wL.heap.size
  dis : ∀ x ∈ S, x ∈ T → False
section
variable {L : List (Int × Int)} {p q : Nat} {S T : List Nat} {wL wr w' : World} {sO sT s' : PS} {n m : Nat} {v12 v13 : Value}
theorem Round.below (h : Round L p q S T wL wr sO sT n m v12 v13) (hb : Below wr.heap.size wr w') : Round L p q S T wL w' sO sT n m v12 v13 :=
  ⟨h.pO.chg (T := []) (Chg.of_below hb _) (by simp), h.pT.chg (T := []) (Chg.of_below hb _) (by simp), own_chg (S := []) h.a (Chg.of_below hb _) (by simp), own_chg (S := []) h.b (Chg.of_below hb _) (by simp), h.ne, h.chg.trans (Chg.of_below hb _), h.lS, h.lT, h.dis⟩
theorem Round.stepO (h : Round L p q S T wL wr sO sT n m v12 v13) (hp : Pl w' p S s') (hc : Chg S wr w') : Round L p q S T wL w' s' sT n m v12 v13 :=
  ⟨hp, h.pT.chg hc (fun x hx hy => h.dis x hy hx), own_chg h.a hc (fun g hg hm => by have := own_base h.a g hg; have := h.lS g hm; omega), own_chg h.b hc (fun g hg hm => by have := own_base h.b g hg; have := h.lS g hm; omega), h.ne,
    h.chg.trans (hc.mono (fun x hx => List.mem_append_left _ hx)), h.lS, h.lT, h.dis⟩
theorem Round.stepT (h : Round L p q S T wL wr sO sT n m v12 v13) (hp : Pl w' q T s') (hc : Chg T wr w') : Round L p q S T wL w' sO s' n m v12 v13 :=
  ⟨h.pO.chg hc (fun x hx hy => h.dis x hx hy), hp, own_chg h.a hc (fun g hg hm => by have := own_base h.a g hg; have := h.lT g hm; omega), own_chg h.b hc (fun g hg hm => by have := own_base h.b g hg; have := h.lT g hm; omega), h.ne,
    h.chg.trans (hc.mono (fun x hx => List.mem_append_right _ hx)), h.lS, h.lT, h.dis⟩
theorem Round.appA {v' : Value} (h : Round L p q S T wL wr sO sT n m v12 v13) (ho : w'.ownsRow wL.heap.size 3 1 v' (n + 1) (oCells L n ++ [.int .i64 (yO L n : Nat)])) (hg : wr.grownBy w' v12.ownBlock) (hat : v'.ownBlock = v12.ownBlock ∨ v'.ownBlock = some wr.heap.size) :
    Round L p q S T wL w' sO sT (n + 1) m v' v13 :=
  ⟨plGrown h.pO hg (own_base h.a) h.lS, plGrown h.pT hg (own_base h.a) h.lT, by rw [oCells_succ]; exact ho, own_chg h.b (chgOf hg) (fun g hg' hm => by
    have e : v12.ownBlock = some g := by simpa using hm
    exact h.ne g e hg'), fun g hg' hb => by
    rcases hat with e | e
    · exact h.ne g (e.symm.trans hg') hb
    · rw [e] at hg'
      injection hg' with hg'
      have := own_lt h.b g hb
      omega, chgGrown h.chg hg (own_base h.a), h.lS, h.lT, h.dis⟩
theorem Round.appB {v' : Value} (h : Round L p q S T wL wr sO sT n m v12 v13) (ho : w'.ownsRow wL.heap.size 3 1 v' (m + 1) (tCells L m ++ [.int .i64 (L.getD (yT L m) (0, 0)).1])) (hg : wr.grownBy w' v13.ownBlock) (hat : v'.ownBlock = v13.ownBlock ∨ v'.ownBlock = some wr.heap.size) :
    Round L p q S T wL w' sO sT n (m + 1) v12 v' :=
  ⟨plGrown h.pO hg (own_base h.b) h.lS, plGrown h.pT hg (own_base h.b) h.lT, own_chg h.a (chgOf hg) (fun g hg' hm => by
    have e : v13.ownBlock = some g := by simpa using hm
    exact h.ne g hg' e), by rw [tCells_succ]; exact ho, fun g hg' hb => by
    rcases hat with e | e
    · exact h.ne g hg' (e.symm.trans hb)
    · rw [e] at hb
      injection hb with hb
      have := own_lt h.a g hg'
      omega, chgGrown h.chg hg (own_base h.b), h.lS, h.lT, h.dis⟩
end
theorem Round.appA0 {L : List (Int × Int)} {p q : Nat} {S T : List Nat} {wL wr w' : World} {o : Obj} {sO sT : PS} {n m : Nat} {v12 v13 v' : Value} (h : Round L p q S T wL (wr.alloc o) sO sT n m v12 v13) (ho : w'.ownsRow wL.heap.size 3 1 v' (n + 1) (oCells L n ++ [.int .i64 (yO L n : Nat)])) (hg : (wr.alloc o).grownBy w' v12.ownBlock) (hat : v'.ownBlock = v12.ownBlock ∨ v'.ownBlock = some (wr.alloc o).heap.size) :
    Round L p q S T wL w' sO sT (n + 1) m v' v13 := Round.appA h ho hg hat
theorem Round.appB0 {L : List (Int × Int)} {p q : Nat} {S T : List Nat} {wL wr w' : World} {o : Obj} {sO sT : PS} {n m : Nat} {v12 v13 v' : Value} (h : Round L p q S T wL (wr.alloc o) sO sT n m v12 v13) (ho : w'.ownsRow wL.heap.size 3 1 v' (m + 1) (tCells L m ++ [.int .i64 (L.getD (yT L m) (0, 0)).1])) (hg : (wr.alloc o).grownBy w' v13.ownBlock) (hat : v'.ownBlock = v13.ownBlock ∨ v'.ownBlock = some (wr.alloc o).heap.size) :
    Round L p q S T wL w' sO sT n (m + 1) v12 v' := Round.appB h ho hg hat
theorem readsNew1 (w : World) (a : Int) : Reads (w.alloc (.cells #[.int .i64 a] 3)) (w.heap.size + 1) 1 (some ⟨w.heap.size, 0, none⟩) 1 [.int .i64 a] := by
  refine ⟨rfl, fun _ => ⟨_, rfl, Nat.lt_succ_self _, fun j u hu => ?_⟩⟩
  rw [add0, (Blk.new w 3 _).cell]
  simpa using hu
theorem tmod_bd (a d : Int) (hd : 0 < d) : -d < a.tmod d ∧ a.tmod d < d := by
  have h := Int.tmod_lt_of_pos a hd
  have h2 := Int.tmod_lt_of_pos (-a) hd
  rw [Int.neg_tmod] at h2
  omega
theorem oCell {w : World} {B g n c : Nat} {L : List (Int × Int)} (h : w.ownsRow B 3 1 (.slice (some ⟨g, 0, none⟩) n c) n (oCells L n)) : ∀ i, i < n → w.cell? ⟨g, i, none⟩ = some (.int .i64 (yO L i : Nat)) := by
  intro i hi
  have hc := World.ownsRow.cells h (g := g) rfl i (.int .i64 (yO L i : Nat)) (by simp [oCells, hi])
  rw [add0] at hc
  exact hc
theorem tCell {w : World} {B g n c : Nat} {L : List (Int × Int)} (h : w.ownsRow B 3 1 (.slice (some ⟨g, 0, none⟩) n c) n (tCells L n)) : ∀ i, i < n → w.cell? ⟨g, i, none⟩ = some (.int .i64 (L.getD (yT L i) (0, 0)).1) := by
  intro i hi
  have hc := World.ownsRow.cells h (g := g) rfl i (.int .i64 (L.getD (yT L i) (0, 0)).1) (by simp [tCells, hi])
  rw [add0] at hc
  exact hc
theorem start3 : PS.start 3 7 = .turns (-1) := rfl

set_option maxRecDepth 20000 in
set_option maxHeartbeats 2000000 in
theorem fair_any (A : Option Addr) (c : Nat) (xs : List (Int × Int)) (fr : Int) (w : World) (hx : kP.C w A xs.length xs) (hxc : xs.length ≤ c) (hw : ∀ p ∈ xs, wfP p) (hbig : xs.length ≤ 9223372036854775807) :
    Calls Try.prog 4 #[.slice A xs.length c, .int .i64 fr] w fun e w' => e = .returned (.bool true) ∧ Below w.heap.size w w' := by
  have HX := Lib.hid hx
  have HW := Lib.hid hw
  clear hx hw
  go_enter Try.func4, Try.ntmps4
  go_wp2_with fail
  refine (awake_any _).mono ?_
  rintro e w1 ⟨rfl, hb1⟩
  by_cases h60 : 60 < xs.length
  · go_wp2_with fail
    go_ret
    exact ⟨rfl, hb1⟩
  by_cases h0 : xs.length = 0
  · have b0 : ((xs.length : Int) == 0) = true := by rw [beq_iff_eq]; omega
    have b1 : decide ((60 : Int) < xs.length) = false := by simp; omega
    clear h60
    generalize xs.length = n at *
    subst h0
    go_wp2_with fail
    go_ret
    exact ⟨rfl, hb1⟩
  have HU := Lib.hid (unlike_any A c xs w1 (Kd.C_below HX.out hb1) (by omega))
  have h0' : 0 < xs.length := by omega
  have b0 : ((xs.length : Int) == 0) = false := by rw [beq_eq_false_iff_ne]; omega
  clear h0
  go_wp2_with fail
  refine HU.out.mono ?_
  rintro e w2 ⟨v, L, rfl, hok, hown, hb2⟩
  obtain ⟨Al, cl, rfl⟩ := own_slice hown
  have hL60 : L.length ≤ 60 := by have := hok.len; omega
  have hLpos : 0 < L.length := List.length_pos_iff.2 (hok.some_ h0')
  have hcl : L.length ≤ cl := own_cap hown
  have hLw : ∀ p ∈ L, wfP p := fun p hp => HW.out p (hok.from_ p hp)
  have HLW := Lib.hid hLw
  have HS := Lib.hid hok.sorted
  have HOL := Lib.hid hown
  have hb12 : Below w.heap.size w w2 := hb1.trans (hb2.mono hb1.size)
  have hs12 := hb12.size
  have hLb := own_base hown
  have HLb := Lib.hid hLb
  clear hok hown hLw hLb hb1 hb2 HU b0 h0'
  go_wp2_with fail
  refine (actors_any Al cl L _ (OwnP.toC HOL.out hL60) hL60 hLpos).mono ?_
  rintro e w3 ⟨rfl, hb3⟩
  generalize hK : grp L (L.length - 1) + 1 = K
  have HK := Lib.hid hK
  clear hK
  go_wp2_with fail
  refine (new_5 7 _).mono ?_
  rintro e w4 ⟨p, S, rfl, hP4, hS4, hb4⟩
  go_wp2_with fail
  refine (new_3 7 _).mono ?_
  rintro e wL ⟨q, T, rfl, hT5, hTT, hb5⟩
  have hP5 := hP4.chg (T := []) (Chg.of_below hb5 _) (by simp)
  have hlt4 := hP4.lt
  have hlt5 := hT5.lt
  have hb34 : Below w2.heap.size w2 wL := (hb3.trans (hb4.mono hb3.size)).trans (hb5.mono (Nat.le_trans hb3.size hb4.size))
  have hOL5 : OwnP wL w1.heap.size (.slice Al L.length cl) L := own_chg (S := []) HOL.out (Chg.of_below hb34 _) (by simp)
  have HOL5 := Lib.hid hOL5
  have hR0 : Round L p q S T wL wL ((PS.start 5 7).steps L 0) ((PS.start 3 7).steps L 0) 0 0 (.slice none 0 0) (.slice none 0 0) := ⟨hP5, hT5, ⟨rfl, .inl ⟨rfl, rfl⟩⟩, ⟨rfl, .inl ⟨rfl, rfl⟩⟩, by simp [Value.ownBlock], Chg.refl _ _,
    fun x hx => Nat.lt_of_lt_of_le (hlt4 x hx) hb5.size, hlt5, fun x hx hy => by have := hlt4 x hx; have := hTT x hy; omega⟩
  have HSb := Lib.hid (fun x (hx : x ∈ S) => Nat.le_trans hb3.size (hS4 x hx) : ∀ x ∈ S, w2.heap.size ≤ x)
  have HTb := Lib.hid (fun x (hx : x ∈ T) => Nat.le_trans (Nat.le_trans hb3.size hb4.size) (hTT x hx) : ∀ x ∈ T, w2.heap.size ≤ x)
  have hbL : Below w.heap.size w wL := hb12.trans (hb34.mono hs12)
  clear hP4 hS4 hb4 hb3 hT5 hTT hb5 hP5 hlt4 hlt5 hOL5
  obtain ⟨i0, hi0, hz0, hz1, hz2⟩ := info_parts info3
  have HI := Lib.hid hi0
  clear hi0
  go_wp2_with fail
  go_loopw [12, 13, 14, 15, 16, 17, 18] (fun v12 v13 i _ _ _ _ wr => ∃ t : Nat, t ≤ 3 * L.length ∧ i = .int .i64 t ∧ Round L p q S T wL wr ((PS.start 5 7).steps L t) ((PS.start 3 7).steps L t) t t v12 v13) (fun _ _ i _ _ _ _ _ => 3 * L.length - (intOf i).toNat)
  case atStart => exact ⟨0, by omega, rfl, hR0⟩
  case round =>
    clear hR0
    obtain ⟨t, ht, rfl, hR⟩ := hrel
    have HR := Lib.hid hR
    clear hR
    by_cases hlt : t < 3 * L.length
    · have hOLr : OwnP wr w1.heap.size (.slice Al L.length cl) L := own_chg HOL5.out HR.out.chg (fun g hg => by
        have h1 := own_lt HOL.out g hg
        intro hm
        rcases List.mem_append.1 hm with hm | hm
        · have := HSb.out g hm; omega
        · have := HTb.out g hm; omega)
      have HOr := Lib.hid hOLr
      have HOL6 := Lib.hid (fun w' (hc : Chg (S ++ T) wL w') => (own_chg HOL5.out hc (fun g hg hm => by
        have h1 := own_lt HOL.out g hg
        rcases List.mem_append.1 hm with hm | hm
        · have := HSb.out g hm; omega
        · have := HTb.out g hm; omega) : OwnP w' w1.heap.size (.slice Al L.length cl) L))
      have HLn := Lib.hid (fun w' (hc : Chg (S ++ T) wL w') => lent_full Al cl L w' (OwnP.toC (HOL6.out w' hc) hL60) hcl (by omega))
      have hsr := HR.out.chg.size
      have hyO : yO L t < L.length := by rw [yO_eq L HS.out hLpos]; exact Nat.mod_lt _ hLpos
      have hyT : yT L t < L.length := yT_lt L hLpos t
      clear hOLr HOr
      go_wp2_with fail
      refine (HLn.out _ HR.out.chg).mono ?_
      rintro e w6 ⟨A2, c2, rfl, hch, hA2, hb6⟩
      have HR6 := Lib.hid (HR.out.below hb6)
      have HN6 := Lib.hid (next_any p S _ A2 c2 L w6 HR6.out.pO (old_ok L HS.out hLpos t (by omega)) hLpos (by omega) HLW.out hch (fun ad e hm => by have := hA2 ad e; have := HR6.out.lS _ hm; omega))
      have HyO := Lib.hid (show (((PS.start 5 7).steps L t).next L).1 = yO L t from rfl)
      rw [HyO.out] at HN6
      generalize hxo : yO L t = xo at hyO HN6
      have HXO := Lib.hid hxo
      have hs6 : wL.heap.size ≤ w6.heap.size := HR6.out.chg.size
      clear hch hA2 hb6 hxo HyO
      go_wp2_with fail
      refine HN6.out.mono ?_
      rintro e w7 ⟨rfl, hP7, hc7⟩
      have HR7 := Lib.hid (HR6.out.stepO hP7 hc7)
      clear hP7 hc7 HN6
      go_wp2_with fail
      refine (HLn.out _ HR7.out.chg).mono ?_
      rintro e w8 ⟨A3, c3, rfl, hch, hA3, hb8⟩
      have HR8 := Lib.hid (HR7.out.below hb8)
      have hs7 : wL.heap.size ≤ w7.heap.size := HR7.out.chg.size
      have HN8 := Lib.hid (next_any q T _ A3 c3 L w8 HR8.out.pT (turns_ok L t) hLpos (by omega) HLW.out hch (fun ad e hm => by have := hA3 ad e; have := HR8.out.lT _ hm; omega))
      have HyT := Lib.hid (show (((PS.start 3 7).steps L t).next L).1 = yT L t from rfl)
      rw [HyT.out] at HN8
      generalize hxt : yT L t = xt at hyT HN8
      have HXT := Lib.hid hxt
      clear hch hA3 hb8 hxt HyT
      go_wp2_with fail
      refine HN8.out.mono ?_
      rintro e w9 ⟨rfl, hP9, hc9⟩
      have HR9 := Lib.hid (HR8.out.stepT hP9 hc9)
      clear hP9 hc9 HN8
      have HGT := Lib.hid (show (L.getD (yT L t) (0, 0)).1 = L[xt].1 by rw [HXT.out]; simp [List.getD, hyT])
      generalize hlx : L[xt].1 = lx at HGT
      have HLX := Lib.hid hlx
      clear hlx
      have hs9 : wL.heap.size ≤ w9.heap.size := HR9.out.chg.size
      go_wp2_with (first
        | (at_builtin
           refine wpList_append_any _ rfl (.tmp 96) (.tmp 98) 36 rfl wL.heap.size 3 i0 _ 1 8 Try.underlying36 HI.out hz0 hz1 hz2 rfl (by decide) _ t _ rfl (HR9.out.a.alloc _) (w9.heap.size + 1) (some ⟨w9.heap.size, 0, none⟩) 1 1 [.int .i64 xo] rfl (readsNew1 w9 xo) (by simp [Value.oneCell']) (by simp only [maxLen]; omega) (by omega) (by simp; omega) ?_
           intro v10 w10 hown10 hg10 hat10
           have HRx := Lib.hid ((HR9.out.below ((Below.refl _ _).alloc (Nat.le_refl _) (.cells #[.int .i64 xo] 3))))
           have HR10 := Lib.hid (Round.appA0 HRx.out (by rw [HXO.out]; exact hown10) hg10 hat10)
           obtain ⟨g, hA, hg, hl0, _⟩ := OwnP.at_ (HOL6.out w10 HR10.out.chg) xt hyT
           subst hA
           rw [HLX.out] at hl0
           have hs10 : wL.heap.size ≤ w10.heap.size := HR10.out.chg.size
           clear hown10 hg10 hat10)
        | (at_builtin
           go_loud (refine wpList_append_any _ rfl (.tmp 100) (.tmp 106) 36 rfl wL.heap.size 3 i0 _ 1 8 Try.underlying36 HI.out hz0 hz1 hz2 rfl (by decide) _ t _ rfl (HR10.out.b.alloc _) (w10.heap.size + 1) (some ⟨w10.heap.size, 0, none⟩) 1 1 [.int .i64 lx] rfl (readsNew1 w10 lx) (by simp [Value.oneCell']) (by simp only [maxLen]; omega) (by omega) (by simp; omega) ?_)
           intro v11 w11 hown11 hg11 hat11
           have HRy := Lib.hid ((HR10.out.below ((Below.refl _ _).alloc (Nat.le_refl _) (.cells #[.int .i64 lx] 3))))
           have HR11 := Lib.hid (Round.appB0 HRy.out (by rw [HGT.out]; exact hown11) hg11 hat11)
           clear hown11 hg11 hat11))
      go_roundw
      case rel => exact ⟨t + 1, by omega, by go_num, HR11.out⟩
      case measure => simp [intOf]; omega
    · have et : t = 3 * L.length := by omega
      subst et
      obtain ⟨ga, capa, hva, _, _⟩ := World.ownsRow.form HR.out.a (by omega)
      subst hva
      obtain ⟨gb, capb, hvb, _, _⟩ := World.ownsRow.form HR.out.b (by omega)
      subst hvb
      have HCA := Lib.hid (oCell HR.out.a)
      have HCB := Lib.hid (tCell HR.out.b)
      have HBR := Lib.hid (hbL.trans (HR.out.chg.below hbL.size (fun x hx => by
        rcases List.mem_append.1 hx with hm | hm
        · have := HSb.out x hm; omega
        · have := HTb.out x hm; omega)))
      have hcapa := own_cap HR.out.a
      have hcapb := own_cap HR.out.b
      have hmb := tmod_bd fr (2 * (L.length : Int) + 1) (by omega)
      obtain ⟨hm1, hm2⟩ := hmb
      have hqz : ((2 * (L.length : Int) + 1 == 0)) = false := by rw [beq_eq_false_iff_ne]; omega
      by_cases hneg : fr.tmod (2 * (L.length : Int) + 1) < 0
      · generalize hat : fr.tmod (2 * (L.length : Int) + 1) = m at hm1 hm2 hneg
        obtain ⟨a, ha⟩ : ∃ a : Nat, m + 2 * (L.length : Int) + 1 = (a : Int) := ⟨(m + 2 * (L.length : Int) + 1).toNat, by omega⟩
        have HA := Lib.hid ha
        have ha2 : a ≤ 2 * L.length := by omega
        clear ha
        go_wp2_with fail
        rw [HA.out]
        clear hm1 hm2 hneg hqz hat HA
        go_loopw [4, 20, 21] (fun _ vi _ wq => ∃ i nq : Nat, a ≤ i ∧ i ≤ a + L.length ∧ vi = .int .i64 i ∧ wq = wr.drewN nq) (fun _ vi _ _ => a + L.length - (intOf vi).toNat)
        case atStart => exact ⟨a, 0, Nat.le_refl _, by omega, rfl, rfl⟩
        case round =>
          obtain ⟨i, nq, hai, hi, rfl, rfl⟩ := hrel
          by_cases hilt : i < a + L.length
          · obtain ⟨wo, hwo⟩ : ∃ wo : World, wo = wr := ⟨_, rfl⟩
            subst hwo
            go_wp2_with fail
            go_loopw [4, 21] (fun _ vj wq => ∃ j nq' : Nat, a ≤ j ∧ j ≤ i ∧ vj = .int .i64 j ∧ wq = wo.drewN nq') (fun _ vj _ => i - (intOf vj).toNat)
            case atStart => exact ⟨a, nq, Nat.le_refl _, hai, rfl, rfl⟩
            case round =>
              obtain ⟨j, nq', haj, hj, rfl, rfl⟩ := hrel
              by_cases hjlt : j < i
              · have c1 := HCA.out i (by omega)
                have c2 := HCA.out j (by omega)
                have c3 := HCB.out i (by omega)
                have c4 := HCB.out j (by omega)
                have hne := yO_ne L HS.out hLpos i j hjlt (by omega)
                generalize yO L i = x1 at c1 hne
                generalize yO L j = x2 at c2 hne
                have b1 : ((x1 : Int) == (x2 : Int)) = false := by rw [beq_eq_false_iff_ne]; omega
                have s1 : IntKind.i64.wrap ((i : Int) - (a : Int)) = (i : Int) - (a : Int) := by rw [IntKind.wrap_i64]; omega
                clear hne
                by_cases hk : (i : Int) - (a : Int) < (K : Int)
                · have hne2 := yT_ne HS.out hLpos i j hjlt (by rw [HK.out]; omega)
                  generalize (L.getD (yT L i) (0, 0)).1 = y1 at c3 hne2
                  generalize (L.getD (yT L j) (0, 0)).1 = y2 at c4 hne2
                  have b2 : (y1 == y2) = false := by rw [beq_eq_false_iff_ne]; exact hne2
                  have b3 : decide ((i : Int) - (a : Int) < (K : Int)) = true := by simpa using hk
                  clear hne2
                  go_wp2_with fail
                  go_quiet (fail)
                  go_wp2_with fail
                  go_roundw
                  case rel => exact ⟨j + 1, _, by omega, by omega, by go_num, rfl⟩
                  case measure => simp [intOf]; omega
                · have b3 : decide ((i : Int) - (a : Int) < (K : Int)) = false := by simpa using hk
                  clear hk c3 c4
                  go_wp2_with fail
                  go_quiet (fail)
                  go_wp2_with fail
                  go_roundw
                  case rel => exact ⟨j + 1, _, by omega, by omega, by go_num, rfl⟩
                  case measure => simp [intOf]; omega
              · go_wp2_with fail
                go_roundw
                case rel => exact ⟨i + 1, _, by omega, by omega, by go_num, rfl⟩
                case measure => simp [intOf]; omega
          · go_wp2_with fail
            go_ret
            exact ⟨rfl, below_drewN HBR.out _⟩
      · generalize hat : fr.tmod (2 * (L.length : Int) + 1) = m at hm1 hm2 hneg
        obtain ⟨a, rfl⟩ : ∃ a : Nat, m = (a : Int) := ⟨m.toNat, by omega⟩
        have ha2 : a ≤ 2 * L.length := by omega
        go_wp2_with fail
        clear hm1 hm2 hneg hqz hat
        go_loopw [4, 20, 21] (fun _ vi _ wq => ∃ i nq : Nat, a ≤ i ∧ i ≤ a + L.length ∧ vi = .int .i64 i ∧ wq = wr.drewN nq) (fun _ vi _ _ => a + L.length - (intOf vi).toNat)
        case atStart => exact ⟨a, 0, Nat.le_refl _, by omega, rfl, rfl⟩
        case round =>
          obtain ⟨i, nq, hai, hi, rfl, rfl⟩ := hrel
          by_cases hilt : i < a + L.length
          · obtain ⟨wo, hwo⟩ : ∃ wo : World, wo = wr := ⟨_, rfl⟩
            subst hwo
            go_wp2_with fail
            go_loopw [4, 21] (fun _ vj wq => ∃ j nq' : Nat, a ≤ j ∧ j ≤ i ∧ vj = .int .i64 j ∧ wq = wo.drewN nq') (fun _ vj _ => i - (intOf vj).toNat)
            case atStart => exact ⟨a, nq, Nat.le_refl _, hai, rfl, rfl⟩
            case round =>
              obtain ⟨j, nq', haj, hj, rfl, rfl⟩ := hrel
              by_cases hjlt : j < i
              · have c1 := HCA.out i (by omega)
                have c2 := HCA.out j (by omega)
                have c3 := HCB.out i (by omega)
                have c4 := HCB.out j (by omega)
                have hne := yO_ne L HS.out hLpos i j hjlt (by omega)
                generalize yO L i = x1 at c1 hne
                generalize yO L j = x2 at c2 hne
                have b1 : ((x1 : Int) == (x2 : Int)) = false := by rw [beq_eq_false_iff_ne]; omega
                have s1 : IntKind.i64.wrap ((i : Int) - (a : Int)) = (i : Int) - (a : Int) := by rw [IntKind.wrap_i64]; omega
                clear hne
                by_cases hk : (i : Int) - (a : Int) < (K : Int)
                · have hne2 := yT_ne HS.out hLpos i j hjlt (by rw [HK.out]; omega)
                  generalize (L.getD (yT L i) (0, 0)).1 = y1 at c3 hne2
                  generalize (L.getD (yT L j) (0, 0)).1 = y2 at c4 hne2
                  have b2 : (y1 == y2) = false := by rw [beq_eq_false_iff_ne]; exact hne2
                  have b3 : decide ((i : Int) - (a : Int) < (K : Int)) = true := by simpa using hk
                  clear hne2
                  go_wp2_with fail
                  go_quiet (fail)
                  go_wp2_with fail
                  go_roundw
                  case rel => exact ⟨j + 1, _, by omega, by omega, by go_num, rfl⟩
                  case measure => simp [intOf]; omega
                · have b3 : decide ((i : Int) - (a : Int) < (K : Int)) = false := by simpa using hk
                  clear hk c3 c4
                  go_wp2_with fail
                  go_quiet (fail)
                  go_wp2_with fail
                  go_roundw
                  case rel => exact ⟨j + 1, _, by omega, by omega, by go_num, rfl⟩
                  case measure => simp [intOf]; omega
              · go_wp2_with fail
                go_roundw
                case rel => exact ⟨i + 1, _, by omega, by omega, by go_num, rfl⟩
                case measure => simp [intOf]; omega
          · go_wp2_with fail
            go_ret
            exact ⟨rfl, below_drewN HBR.out _⟩
end Go.Proofs.Ytfflfhkbnmoalaa.Pol.Fair
