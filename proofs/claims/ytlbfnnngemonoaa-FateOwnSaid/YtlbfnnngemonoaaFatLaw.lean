/- chordmaillaw24.FateBooks: the walk of the law. -/
import Derived.Test.YtlbfnnngemonoaaFatStep
namespace Go.Proofs.Ytlbfnnngemonoaa.Fat
open Go.RowKit Go.Proofs.Ytlbfnnngemonoaa.PFateBooks
open Go.Proofs.YtlbfnnngemonoaaW.PrintWords Go.Proofs.YtlbfnnngemonoaaW.PrintLast Go.Proofs.YtlbfnnngemonoaaW.PrintMore
set_option linter.unusedVariables false
set_option linter.unusedSimpArgs false

/-! ### new books -/
theorem new_any (w : World) : Calls Try.prog 10 #[] w fun e w' => ∃ p : Nat, e = .returned (.pointer (some ⟨p, 0, none⟩)) ∧ w.heap.size ≤ p ∧ Bk w' p [p] [] 0 ∧ Below w.heap.size w w' := by
  go_enter Try.func10, Try.ntmps10
  go_wp2_with fail
  go_ret
  exact ⟨_, rfl, Nat.le_refl _, ⟨.slice none 0 0, by simp [Value.ownBlock], Blk.new _ _ _, Kd.R_nil _ _ _ _ _⟩, (Below.refl _ _).alloc (Nat.le_refl _) _⟩

/-! ### a step of the law's lists (type 33) -/
structure St where
  fire : Bool
  ac : Int
  er : Int
  ids : List Int
def zSt : St := ⟨false, 0, 0, []⟩
def kSt : Kd St := Kd.iso (Kd.pair Kd.bool (Kd.pair (Kd.int .i64) (Kd.pair (Kd.int .i64) (Kd.slice 3 (Kd.int .i64))))) (fun x : St => (x.fire, x.ac, x.er, x.ids))
theorem kSt_open {w : World} {x : St} {cs : List Value} (h : kSt.K w x cs) : ∃ A c, cs = [.bool x.fire, .int .i64 x.ac, .int .i64 x.er, .slice A x.ids.length c] ∧ x.ids.length ≤ c ∧ Kd.C (Kd.int .i64) w A x.ids.length x.ids := by
  obtain ⟨_, _, rfl, rfl, ⟨_, _, rfl, rfl, ⟨_, _, rfl, rfl, ⟨A, c, rfl, h1, h2⟩⟩⟩⟩ := h
  exact ⟨A, c, rfl, h1, h2⟩
theorem at_St {w : World} {A : Option Addr} {l : List St} (h : Kd.C kSt w A l.length l) (i : Nat) (hi : i < l.length) :
    ∃ ad B c, A = some ad ∧ w.cell? (ad.add (i * 4)) = some (.bool (l.getD i zSt).fire) ∧ w.cell? ⟨(ad.add (i * 4)).block, (ad.add (i * 4)).off + 1, none⟩ = some (.int .i64 (l.getD i zSt).ac) ∧ w.cell? ⟨(ad.add (i * 4)).block, (ad.add (i * 4)).off + 2, none⟩ = some (.int .i64 (l.getD i zSt).er) ∧ w.cell? ⟨(ad.add (i * 4)).block, (ad.add (i * 4)).off + 3, none⟩ = some (.slice B (l.getD i zSt).ids.length c) ∧
      (l.getD i zSt).ids.length ≤ c ∧ Kd.C (Kd.int .i64) w B (l.getD i zSt).ids.length (l.getD i zSt).ids := by
  obtain ⟨ad, cs, e, _, hK, hc0⟩ := Kd.C_get h zSt i (by omega) (by omega)
  have hc : ∀ j u, cs[j]? = some u → w.cell? (ad.add (i * 4 + j)) = some u := hc0
  obtain ⟨B, c, rfl, h1, h2⟩ := kSt_open hK
  exact ⟨ad, B, c, e, hc 0 _ rfl, by rw [← add_field _ _ 1 (by omega)]; exact hc 1 _ rfl, by rw [← add_field _ _ 2 (by omega)]; exact hc 2 _ rfl, by rw [← add_field _ _ 3 (by omega)]; exact hc 3 _ rfl, h1, h2⟩
theorem C_off {w : World} {A : Option Addr} {ids : List Int} {G : List Nat} {B : Nat} (h : Kd.C (Kd.int .i64) w A ids.length ids) (hB : w.heap.size ≤ B) (hG : ∀ x ∈ G, B ≤ x) : ids.length ≠ 0 → Off G A := by
  intro h0 ad e hx
  obtain ⟨a2, hA2, hc⟩ := int_at h 0 (by omega)
  rw [e] at hA2
  obtain rfl := Option.some.inj hA2
  have h1 := World.block_lt_of_cell? w _ hc
  rw [add_block] at h1
  have := hG _ hx
  omega
/-- A step at both books. -/
theorem does_any {P1 P2 : Option Addr} {G : List Nat} {ts : List S134} {n : Int} (w : World) (h : Bo w P1 P2 G ts n) (s : St) (A2 : Option Addr) (c2 : Nat) (hI : Kd.C (Kd.int .i64) w A2 s.ids.length s.ids) (hc2 : s.ids.length ≤ c2) (hl : s.ids.length * 8 ≤ 140737488355328) (hn : 0 ≤ n ∧ n ≤ 4611686018427387000) (o2 : s.ids.length ≠ 0 → Off G A2) (hm : (ts.length + 1) * 40 ≤ 140737488355328) :
    Calls Try.prog 11 #[.pointer P1, .pointer P2, .agg #[.bool s.fire, .int .i64 s.ac, .int .i64 s.er, .slice A2 s.ids.length c2]] w (DPost w P1 P2 G ts n) := by
  obtain ⟨f, ac, e, ids⟩ := s
  cases f with
  | false => exact does_offer w h ac e A2 ids.length c2 hm
  | true => exact does_fire w h ac e A2 c2 ids hI hc2 hl hn o2

theorem new_bo {w1 w2 : World} {p q : Nat} (hP : Bk w1 p [p] [] 0) (hb : Below w1.heap.size w1 w2) (hQ : Bk w2 q [q] [] 0) (hq : w1.heap.size ≤ q) :
    Bo ((w2.alloc (.cells #[.slice none 0 0, .int .i64 0] 28)).alloc (.cells #[.slice none 0 0, .int .i64 0] 28)) (some ⟨p, 0, none⟩) (some ⟨w2.heap.size, 0, none⟩) [p, w2.heap.size] [] 0 ∧
    Bo ((w2.alloc (.cells #[.slice none 0 0, .int .i64 0] 28)).alloc (.cells #[.slice none 0 0, .int .i64 0] 28)) (some ⟨q, 0, none⟩) (some ⟨w2.heap.size + 1, 0, none⟩) [q, w2.heap.size + 1] [] 0 ∧ p < q ∧ p < w2.heap.size ∧ q < w2.heap.size := by
  have hbA := ((Below.refl w2.heap.size w2).alloc (Nat.le_refl _) (.cells #[.slice none 0 0, .int .i64 0] 28)).alloc (by simp) (.cells #[.slice none 0 0, .int .i64 0] 28)
  have hp := hP.lt p (by simp)
  have hq2 := hQ.lt q (by simp)
  have hs := hb.size
  have r1 : Blk ((w2.alloc (.cells #[.slice none 0 0, .int .i64 0] 28)).alloc (.cells #[.slice none 0 0, .int .i64 0] 28)) w2.heap.size 28 #[.slice none 0 0, .int .i64 0] := (Blk.new w2 28 #[.slice none 0 0, .int .i64 0]).alloc _
  have r2 : Blk ((w2.alloc (.cells #[.slice none 0 0, .int .i64 0] 28)).alloc (.cells #[.slice none 0 0, .int .i64 0] 28)) (w2.heap.size + 1) 28 #[.slice none 0 0, .int .i64 0] := by
    have h := Blk.new (w2.alloc (.cells #[.slice none 0 0, .int .i64 0] 28)) 28 #[.slice none 0 0, .int .i64 0]
    have e : (w2.alloc (.cells #[.slice none 0 0, .int .i64 0] 28)).heap.size = w2.heap.size + 1 := by simp
    rw [e] at h
    exact h
  refine ⟨.inr ⟨p, w2.heap.size, [p], [w2.heap.size], rfl, rfl, rfl, by simp; omega, (hP.below hb).below hbA, ⟨.slice none 0 0, by simp [Value.ownBlock], r1, Kd.R_nil _ _ _ _ _⟩⟩, .inr ⟨q, w2.heap.size + 1, [q], [w2.heap.size + 1], rfl, rfl, rfl, by simp; omega, hQ.below hbA, ⟨.slice none 0 0, by simp [Value.ownBlock], r2, Kd.R_nil _ _ _ _ _⟩⟩, by omega, by omega, by omega⟩
theorem after_step {w wr wa : World} {Q1 Q2 : Option Addr} {G1 G2 G1' : List Nat} {ts2 : List S134} {n2 : Int} (hB : Below w.heap.size w wr) (hG1 : ∀ x ∈ G1, w.heap.size ≤ x) (hGG : ∀ x ∈ G1, x ∉ G2) (hBo2 : Bo wr Q1 Q2 G2 ts2 n2) (hC : Chg G1 wr wa) (hG' : ∀ x ∈ G1', x ∈ G1 ∨ wr.heap.size ≤ x) :
    Below w.heap.size w wa ∧ (∀ x ∈ G1', w.heap.size ≤ x) ∧ (∀ x ∈ G1', x ∉ G2) ∧ Bo wa Q1 Q2 G2 ts2 n2 := by
  have hs := hB.size
  refine ⟨hB.trans (hC.below hB.size hG1), fun x hx => ?_, fun x hx h2 => ?_, hBo2.chg hC (fun x hx h1 => hGG x h1 hx)⟩
  · rcases hG' x hx with h | h
    · exact hG1 x h
    · omega
  · rcases hG' x hx with h | h
    · exact hGG x h h2
    · have := hBo2.lt x h2; omega

set_option maxRecDepth 20000 in
set_option maxHeartbeats 4000000 in
theorem books_true (A1 A2 : Option Addr) (c1 c2 : Nat) (l m : List St) (w : World) (hl : Kd.C kSt w A1 l.length l) (hm : Kd.C kSt w A2 m.length m) (h1 : l.length ≤ c1) (h2 : m.length ≤ c2)
    (hlz : l.length * 48 ≤ 140737488355328) (hmz : m.length * 48 ≤ 140737488355328) (hli : ∀ i, i < l.length → (l.getD i zSt).ids.length * 8 ≤ 140737488355328) (hmi : ∀ i, i < m.length → (m.getD i zSt).ids.length * 8 ≤ 140737488355328) :
    Calls Try.prog 3 #[.slice A1 l.length c1, .slice A2 m.length c2, .bool true] w fun e w' => e = .returned (.bool true) ∧ Below w.heap.size w w' := by
  have HL := Lib.hid hl
  have HM := Lib.hid hm
  have HLI := Lib.hid hli
  have HMI := Lib.hid hmi
  clear hl hm hli hmi
  go_enter Try.func3, Try.ntmps3
  go_wp2_with fail
  refine (new_any w).mono ?_
  rintro r w1 ⟨p, rfl, hp, hP, hb1⟩
  go_wp2_with fail
  refine (new_any w1).mono ?_
  rintro r w2 ⟨q, rfl, hq, hQ, hb2⟩
  obtain ⟨hA, hBq, hpq, hpd, hqd⟩ := new_bo hP hb2 hQ hq
  have hb12 := hb1.trans (hb2.mono hb1.size)
  have hs1 := hb1.size
  have hs2 := hb2.size
  have hsz : Below w.heap.size w ((w2.alloc (.cells #[.slice none 0 0, .int .i64 0] 28)).alloc (.cells #[.slice none 0 0, .int .i64 0] 28)) := (hb12.alloc (by omega) _).alloc (by simp; omega) _
  have HBS := Lib.hid (⟨hp, hq, hpq, hpd, hqd, hs1, hs2⟩ : w.heap.size ≤ p ∧ w1.heap.size ≤ q ∧ p < q ∧ p < w2.heap.size ∧ q < w2.heap.size ∧ w.heap.size ≤ w1.heap.size ∧ w1.heap.size ≤ w2.heap.size)
  have HA0 := Lib.hid hA
  have HBq0 := Lib.hid hBq
  have HSZ0 := Lib.hid hsz
  clear hA hBq hpq hpd hqd hb12 hs1 hs2 hsz hp hq hP hQ hb1 hb2
  go_wp2_with fail
  have hA := HA0.out
  have hBq := HBq0.out
  have hsz := HSZ0.out
  obtain ⟨hp, hq, hpq, hpd, hqd, hs1, hs2⟩ := HBS.out
  clear HA0 HBq0 HSZ0 HBS
  generalize hWg : ((w2.alloc (.cells #[.slice none 0 0, .int .i64 0] 28)).alloc (.cells #[.slice none 0 0, .int .i64 0] 28)) = W0 at hA hBq hsz ⊢
  clear hWg
  generalize hdg : w2.heap.size = d at hA hBq hpd hqd ⊢
  clear hA
  obtain ⟨Pa, hPa⟩ : ∃ Pa : Option Addr, Pa = none := ⟨_, rfl⟩
  obtain ⟨Pb, hPb⟩ : ∃ Pb : Option Addr, Pb = none := ⟨_, rfl⟩
  obtain ⟨GA, hGA0⟩ : ∃ GA : List Nat, GA = [] := ⟨_, rfl⟩
  have hA : Bo W0 Pa Pb GA [] 0 := .inl ⟨hPa, hPb, hGA0⟩
  have hGA : ∀ x ∈ GA, w.heap.size ≤ x := by rw [hGA0]; simp
  have hGB : ∀ x ∈ GA, x ∉ [q, d + 1] := by rw [hGA0]; simp
  clear hGA0
  have HA := Lib.hid hA
  have HBq := Lib.hid hBq
  have HW0 := Lib.hid hsz
  have HG10 : Hid (∀ x ∈ GA, w.heap.size ≤ x) := Lib.hid hGA
  have HG20 : Hid (∀ x ∈ [q, d + 1], w.heap.size ≤ x) := Lib.hid (by simp; omega)
  have HGG0 : Hid (∀ x ∈ GA, x ∉ [q, d + 1]) := Lib.hid hGB
  clear hA hBq hsz hGA hGB
  go_loopw [11] (fun i wr => ∃ (k : Nat) (ts1 ts2 : List S134) (n1 n2 : Int) (G1 G2 : List Nat), i = .int .i64 k ∧ (k ≤ l.length ∨ k ≤ m.length) ∧ Hid (Bo wr Pa Pb G1 ts1 n1) ∧ Hid (Bo wr (some ⟨q, 0, none⟩) (some ⟨d + 1, 0, none⟩) G2 ts2 n2) ∧ ts1.length ≤ k ∧ ts1.length ≤ l.length ∧ ts2.length ≤ k ∧ ts2.length ≤ m.length ∧ 0 ≤ n1 ∧ n1 ≤ k ∧ 0 ≤ n2 ∧ n2 ≤ k ∧ Hid (Below w.heap.size w wr) ∧ Hid (∀ x ∈ G1, w.heap.size ≤ x) ∧ Hid (∀ x ∈ G2, w.heap.size ≤ x) ∧ Hid (∀ x ∈ G1, x ∉ G2)) (fun i _ => (l.length + m.length) - (intOf i).toNat)
  case atStart => exact ⟨0, [], [], 0, 0, GA, [q, d + 1], rfl, .inl (Nat.zero_le _), HA, HBq, by simp, by simp, by simp, by simp, by omega, by omega, by omega, by omega, HW0, HG10, HG20, HGG0⟩
  case round =>
    clear HA HBq HW0 HG10 HG20 HGG0
    obtain ⟨k, ts1, ts2, n1, n2, G1, G2, rfl, hk, HBo1, HBo2, ht1, ht1', ht2, ht2', hn1, hn1', hn2, hn2', HB, HG1, HG2, HGG⟩ := hrel
    subst hPa hPb
    by_cases hk1 : k < l.length
    · have b1 : decide ((k : Int) < (l.length : Int)) = true := by simp; omega
      by_cases hk2 : k < m.length
      · have b2 : decide ((k : Int) < (m.length : Int)) = true := by simp; omega
        have hLI := HLI.out k hk1
        obtain ⟨ad, B, c, hA, f0w, f1w, f2w, f3w, hcB, hCB⟩ := at_St HL.out k hk1
        subst hA
        have hadw := World.block_lt_of_cell? w _ f0w
        have f0 := (World.cell?_of_block (HB.out.block _ hadw)).trans f0w
        have f1 := (World.cell?_of_block (HB.out.block _ (World.block_lt_of_cell? w _ f1w))).trans f1w
        have f2 := (World.cell?_of_block (HB.out.block _ (World.block_lt_of_cell? w _ f2w))).trans f2w
        have f3 := (World.cell?_of_block (HB.out.block _ (World.block_lt_of_cell? w _ f3w))).trans f3w
        generalize l.getD k zSt = s at f0 f1 f2 f3 hcB hCB hLI
        have HD := Lib.hid (does_any wr HBo1.out s B c (Kd.C_below hCB HB.out) hcB hLI (by omega) (C_off hCB (Nat.le_refl _) HG1.out) (by omega))
        clear f0w f1w f2w f3w hadw
        go_wp2_with fail
        refine HD.out.mono ?_
        rintro r wa ⟨rfl, G1', ts1', n1', hBo1', hlen1, hn1a, hn1b, hC1, hG1'⟩
        obtain ⟨hBa, hG1a, hGGa, hBo2a⟩ := after_step HB.out HG1.out HGG.out HBo2.out hC1 hG1'
        have HBo1a := Lib.hid hBo1'
        have HBa := Lib.hid hBa
        have HG1a := Lib.hid hG1a
        have HGGa := Lib.hid hGGa
        have HBo2a := Lib.hid hBo2a
        clear hBo1' hC1 hG1' hBa hG1a hGGa hBo2a f0 f1 f2 f3 HD hcB hCB hLI HB HG1 HGG HBo1 HBo2
        have HWN := Lib.hid (w64n k (by omega))

        have hMI := HMI.out k hk2
        obtain ⟨ad2, B2, cc2, hA2, g0w, g1w, g2w, g3w, hcB2, hCB2⟩ := at_St HM.out k hk2
        subst hA2
        have hadw2 := World.block_lt_of_cell? w _ g0w
        have g0 := (World.cell?_of_block (HBa.out.block _ hadw2)).trans g0w
        have g1 := (World.cell?_of_block (HBa.out.block _ (World.block_lt_of_cell? w _ g1w))).trans g1w
        have g2 := (World.cell?_of_block (HBa.out.block _ (World.block_lt_of_cell? w _ g2w))).trans g2w
        have g3 := (World.cell?_of_block (HBa.out.block _ (World.block_lt_of_cell? w _ g3w))).trans g3w
        generalize m.getD k zSt = s2 at g0 g1 g2 g3 hcB2 hCB2 hMI
        have HD2 := Lib.hid (does_any _ HBo2a.out s2 B2 cc2 (Kd.C_below hCB2 HBa.out) hcB2 hMI (by omega) (C_off hCB2 (Nat.le_refl _) HG2.out) (by omega))
        clear g0w g1w g2w g3w hadw2
        go_wp2_with fail
        refine HD2.out.mono ?_
        rintro r wb ⟨rfl, G2', ts2', n2', hBo2', hlen2, hn2a, hn2b, hC2, hG2'⟩
        obtain ⟨hBb, hG2b, hGGb, hBo1b⟩ := after_step HBa.out HG2.out (fun x hx h1 => HGGa.out x h1 hx) HBo1a.out hC2 hG2'
        have HBo2b := Lib.hid hBo2'
        have HBb := Lib.hid hBb
        have HG2b := Lib.hid hG2b
        have HGGb := Lib.hid hGGb
        have HBo1b := Lib.hid hBo1b
        clear hBo2' hC2 hG2' hBb hG2b hGGb hBo1b g0 g1 g2 g3 HD2 hcB2 hCB2 hMI HBa HG2 HGGa HBo1a HBo2a
        go_wp2_with fail
        go_roundw
        case rel => exact ⟨k + 1, ts1', ts2', n1', n2', G1', G2', by first | rfl | (rw [HWN.out]; rfl), by omega, HBo1b, HBo2b, by omega, by omega, by omega, by omega, by omega, by omega, by omega, by omega, HBb, HG1a, HG2b, (Lib.hid (fun x hx h2 => HGGb.out x h2 hx))⟩
        case measure =>
          first | rw [HWN.out] | skip
          simp [intOf]
          omega
      · have b2 : decide ((k : Int) < (m.length : Int)) = false := by simp; omega
        have hLI := HLI.out k hk1
        obtain ⟨ad, B, c, hA, f0w, f1w, f2w, f3w, hcB, hCB⟩ := at_St HL.out k hk1
        subst hA
        have hadw := World.block_lt_of_cell? w _ f0w
        have f0 := (World.cell?_of_block (HB.out.block _ hadw)).trans f0w
        have f1 := (World.cell?_of_block (HB.out.block _ (World.block_lt_of_cell? w _ f1w))).trans f1w
        have f2 := (World.cell?_of_block (HB.out.block _ (World.block_lt_of_cell? w _ f2w))).trans f2w
        have f3 := (World.cell?_of_block (HB.out.block _ (World.block_lt_of_cell? w _ f3w))).trans f3w
        generalize l.getD k zSt = s at f0 f1 f2 f3 hcB hCB hLI
        have HD := Lib.hid (does_any wr HBo1.out s B c (Kd.C_below hCB HB.out) hcB hLI (by omega) (C_off hCB (Nat.le_refl _) HG1.out) (by omega))
        clear f0w f1w f2w f3w hadw
        go_wp2_with fail
        refine HD.out.mono ?_
        rintro r wa ⟨rfl, G1', ts1', n1', hBo1', hlen1, hn1a, hn1b, hC1, hG1'⟩
        obtain ⟨hBa, hG1a, hGGa, hBo2a⟩ := after_step HB.out HG1.out HGG.out HBo2.out hC1 hG1'
        have HBo1a := Lib.hid hBo1'
        have HBa := Lib.hid hBa
        have HG1a := Lib.hid hG1a
        have HGGa := Lib.hid hGGa
        have HBo2a := Lib.hid hBo2a
        clear hBo1' hC1 hG1' hBa hG1a hGGa hBo2a f0 f1 f2 f3 HD hcB hCB hLI HB HG1 HGG HBo1 HBo2
        have HWN := Lib.hid (w64n k (by omega))
        go_wp2_with fail
        go_roundw
        case rel => exact ⟨k + 1, ts1', ts2, n1', n2, G1', G2, by first | rfl | (rw [HWN.out]; rfl), by omega, HBo1a, HBo2a, by omega, by omega, by omega, by omega, by omega, by omega, by omega, by omega, HBa, HG1a, HG2, HGGa⟩
        case measure =>
          first | rw [HWN.out] | skip
          simp [intOf]
          omega
    · have b1 : decide ((k : Int) < (l.length : Int)) = false := by simp; omega
      by_cases hk2 : k < m.length
      · have b2 : decide ((k : Int) < (m.length : Int)) = true := by simp; omega
        have HBa := HB
        have HBo1a := HBo1
        have HBo2a := HBo2
        have HGGa := HGG
        clear HB HBo1 HBo2 HGG
        have HWN := Lib.hid (w64n k (by omega))

        have hMI := HMI.out k hk2
        obtain ⟨ad2, B2, cc2, hA2, g0w, g1w, g2w, g3w, hcB2, hCB2⟩ := at_St HM.out k hk2
        subst hA2
        have hadw2 := World.block_lt_of_cell? w _ g0w
        have g0 := (World.cell?_of_block (HBa.out.block _ hadw2)).trans g0w
        have g1 := (World.cell?_of_block (HBa.out.block _ (World.block_lt_of_cell? w _ g1w))).trans g1w
        have g2 := (World.cell?_of_block (HBa.out.block _ (World.block_lt_of_cell? w _ g2w))).trans g2w
        have g3 := (World.cell?_of_block (HBa.out.block _ (World.block_lt_of_cell? w _ g3w))).trans g3w
        generalize m.getD k zSt = s2 at g0 g1 g2 g3 hcB2 hCB2 hMI
        have HD2 := Lib.hid (does_any _ HBo2a.out s2 B2 cc2 (Kd.C_below hCB2 HBa.out) hcB2 hMI (by omega) (C_off hCB2 (Nat.le_refl _) HG2.out) (by omega))
        clear g0w g1w g2w g3w hadw2
        go_wp2_with fail
        refine HD2.out.mono ?_
        rintro r wb ⟨rfl, G2', ts2', n2', hBo2', hlen2, hn2a, hn2b, hC2, hG2'⟩
        obtain ⟨hBb, hG2b, hGGb, hBo1b⟩ := after_step HBa.out HG2.out (fun x hx h1 => HGGa.out x h1 hx) HBo1a.out hC2 hG2'
        have HBo2b := Lib.hid hBo2'
        have HBb := Lib.hid hBb
        have HG2b := Lib.hid hG2b
        have HGGb := Lib.hid hGGb
        have HBo1b := Lib.hid hBo1b
        clear hBo2' hC2 hG2' hBb hG2b hGGb hBo1b g0 g1 g2 g3 HD2 hcB2 hCB2 hMI HBa HG2 HGGa HBo1a HBo2a
        go_wp2_with fail
        go_roundw
        case rel => exact ⟨k + 1, ts1, ts2', n1, n2', G1, G2', by first | rfl | (rw [HWN.out]; rfl), by omega, HBo1b, HBo2b, by omega, by omega, by omega, by omega, by omega, by omega, by omega, by omega, HBb, HG1, HG2b, (Lib.hid (fun x hx h2 => HGGb.out x h2 hx))⟩
        case measure =>
          first | rw [HWN.out] | skip
          simp [intOf]
          omega
      · have b2 : decide ((k : Int) < (m.length : Int)) = false := by simp; omega
        go_wp2_with fail
        have HT1 := Lib.hid (told_bo HBo1.out (by omega))
        refine HT1.out.mono ?_
        rintro r wa ⟨rfl, hba⟩
        have hT2 := told_bo (HBo2.out.below hba) (by omega)
        go_wp2_with fail
        refine hT2.mono ?_
        rintro r wb ⟨rfl, hbb⟩
        go_wp2_with fail
        go_ret
        exact ⟨rfl, (HB.out.trans (hba.mono HB.out.size)).trans (hbb.mono (Nat.le_trans HB.out.size hba.size))⟩

set_option maxRecDepth 20000 in
set_option maxHeartbeats 4000000 in
theorem books_false (A1 A2 : Option Addr) (c1 c2 : Nat) (l m : List St) (w : World) (hl : Kd.C kSt w A1 l.length l) (hm : Kd.C kSt w A2 m.length m) (h1 : l.length ≤ c1) (h2 : m.length ≤ c2)
    (hlz : l.length * 48 ≤ 140737488355328) (hmz : m.length * 48 ≤ 140737488355328) (hli : ∀ i, i < l.length → (l.getD i zSt).ids.length * 8 ≤ 140737488355328) (hmi : ∀ i, i < m.length → (m.getD i zSt).ids.length * 8 ≤ 140737488355328) :
    Calls Try.prog 3 #[.slice A1 l.length c1, .slice A2 m.length c2, .bool false] w fun e w' => e = .returned (.bool true) ∧ Below w.heap.size w w' := by
  have HL := Lib.hid hl
  have HM := Lib.hid hm
  have HLI := Lib.hid hli
  have HMI := Lib.hid hmi
  clear hl hm hli hmi
  go_enter Try.func3, Try.ntmps3
  go_wp2_with fail
  refine (new_any w).mono ?_
  rintro r w1 ⟨p, rfl, hp, hP, hb1⟩
  go_wp2_with fail
  refine (new_any w1).mono ?_
  rintro r w2 ⟨q, rfl, hq, hQ, hb2⟩
  obtain ⟨hA, hBq, hpq, hpd, hqd⟩ := new_bo hP hb2 hQ hq
  have hb12 := hb1.trans (hb2.mono hb1.size)
  have hs1 := hb1.size
  have hs2 := hb2.size
  have hsz : Below w.heap.size w ((w2.alloc (.cells #[.slice none 0 0, .int .i64 0] 28)).alloc (.cells #[.slice none 0 0, .int .i64 0] 28)) := (hb12.alloc (by omega) _).alloc (by simp; omega) _
  have HBS := Lib.hid (⟨hp, hq, hpq, hpd, hqd, hs1, hs2⟩ : w.heap.size ≤ p ∧ w1.heap.size ≤ q ∧ p < q ∧ p < w2.heap.size ∧ q < w2.heap.size ∧ w.heap.size ≤ w1.heap.size ∧ w1.heap.size ≤ w2.heap.size)
  have HA0 := Lib.hid hA
  have HBq0 := Lib.hid hBq
  have HSZ0 := Lib.hid hsz
  clear hA hBq hpq hpd hqd hb12 hs1 hs2 hsz hp hq hP hQ hb1 hb2
  go_wp2_with fail
  have hA := HA0.out
  have hBq := HBq0.out
  have hsz := HSZ0.out
  obtain ⟨hp, hq, hpq, hpd, hqd, hs1, hs2⟩ := HBS.out
  clear HA0 HBq0 HSZ0 HBS
  generalize hWg : ((w2.alloc (.cells #[.slice none 0 0, .int .i64 0] 28)).alloc (.cells #[.slice none 0 0, .int .i64 0] 28)) = W0 at hA hBq hsz ⊢
  clear hWg
  generalize hdg : w2.heap.size = d at hA hBq hpd hqd ⊢
  obtain ⟨Pa, hPa⟩ : ∃ Pa : Option Addr, Pa = some ⟨p, 0, none⟩ := ⟨_, rfl⟩
  obtain ⟨Pb, hPb⟩ : ∃ Pb : Option Addr, Pb = some ⟨d, 0, none⟩ := ⟨_, rfl⟩
  obtain ⟨GA, hGA0⟩ : ∃ GA : List Nat, GA = [p, d] := ⟨_, rfl⟩
  rw [← hPa, ← hPb, ← hGA0] at hA
  have hGA : ∀ x ∈ GA, w.heap.size ≤ x := by rw [hGA0]; simp; omega
  have hGB : ∀ x ∈ GA, x ∉ [q, d + 1] := by rw [hGA0]; simp; omega
  clear hGA0
  have HA := Lib.hid hA
  have HBq := Lib.hid hBq
  have HW0 := Lib.hid hsz
  have HG10 : Hid (∀ x ∈ GA, w.heap.size ≤ x) := Lib.hid hGA
  have HG20 : Hid (∀ x ∈ [q, d + 1], w.heap.size ≤ x) := Lib.hid (by simp; omega)
  have HGG0 : Hid (∀ x ∈ GA, x ∉ [q, d + 1]) := Lib.hid hGB
  clear hA hBq hsz hGA hGB
  go_loopw [11] (fun i wr => ∃ (k : Nat) (ts1 ts2 : List S134) (n1 n2 : Int) (G1 G2 : List Nat), i = .int .i64 k ∧ (k ≤ l.length ∨ k ≤ m.length) ∧ Hid (Bo wr Pa Pb G1 ts1 n1) ∧ Hid (Bo wr (some ⟨q, 0, none⟩) (some ⟨d + 1, 0, none⟩) G2 ts2 n2) ∧ ts1.length ≤ k ∧ ts1.length ≤ l.length ∧ ts2.length ≤ k ∧ ts2.length ≤ m.length ∧ 0 ≤ n1 ∧ n1 ≤ k ∧ 0 ≤ n2 ∧ n2 ≤ k ∧ Hid (Below w.heap.size w wr) ∧ Hid (∀ x ∈ G1, w.heap.size ≤ x) ∧ Hid (∀ x ∈ G2, w.heap.size ≤ x) ∧ Hid (∀ x ∈ G1, x ∉ G2)) (fun i _ => (l.length + m.length) - (intOf i).toNat)
  case atStart => exact ⟨0, [], [], 0, 0, GA, [q, d + 1], rfl, .inl (Nat.zero_le _), HA, HBq, by simp, by simp, by simp, by simp, by omega, by omega, by omega, by omega, HW0, HG10, HG20, HGG0⟩
  case round =>
    clear HA HBq HW0 HG10 HG20 HGG0
    obtain ⟨k, ts1, ts2, n1, n2, G1, G2, rfl, hk, HBo1, HBo2, ht1, ht1', ht2, ht2', hn1, hn1', hn2, hn2', HB, HG1, HG2, HGG⟩ := hrel
    subst hPa hPb
    by_cases hk1 : k < l.length
    · have b1 : decide ((k : Int) < (l.length : Int)) = true := by simp; omega
      by_cases hk2 : k < m.length
      · have b2 : decide ((k : Int) < (m.length : Int)) = true := by simp; omega
        have hLI := HLI.out k hk1
        obtain ⟨ad, B, c, hA, f0w, f1w, f2w, f3w, hcB, hCB⟩ := at_St HL.out k hk1
        subst hA
        have hadw := World.block_lt_of_cell? w _ f0w
        have f0 := (World.cell?_of_block (HB.out.block _ hadw)).trans f0w
        have f1 := (World.cell?_of_block (HB.out.block _ (World.block_lt_of_cell? w _ f1w))).trans f1w
        have f2 := (World.cell?_of_block (HB.out.block _ (World.block_lt_of_cell? w _ f2w))).trans f2w
        have f3 := (World.cell?_of_block (HB.out.block _ (World.block_lt_of_cell? w _ f3w))).trans f3w
        generalize l.getD k zSt = s at f0 f1 f2 f3 hcB hCB hLI
        have HD := Lib.hid (does_any wr HBo1.out s B c (Kd.C_below hCB HB.out) hcB hLI (by omega) (C_off hCB (Nat.le_refl _) HG1.out) (by omega))
        clear f0w f1w f2w f3w hadw
        go_wp2_with fail
        refine HD.out.mono ?_
        rintro r wa ⟨rfl, G1', ts1', n1', hBo1', hlen1, hn1a, hn1b, hC1, hG1'⟩
        obtain ⟨hBa, hG1a, hGGa, hBo2a⟩ := after_step HB.out HG1.out HGG.out HBo2.out hC1 hG1'
        have HBo1a := Lib.hid hBo1'
        have HBa := Lib.hid hBa
        have HG1a := Lib.hid hG1a
        have HGGa := Lib.hid hGGa
        have HBo2a := Lib.hid hBo2a
        clear hBo1' hC1 hG1' hBa hG1a hGGa hBo2a f0 f1 f2 f3 HD hcB hCB hLI HB HG1 HGG HBo1 HBo2
        have HWN := Lib.hid (w64n k (by omega))

        have hMI := HMI.out k hk2
        obtain ⟨ad2, B2, cc2, hA2, g0w, g1w, g2w, g3w, hcB2, hCB2⟩ := at_St HM.out k hk2
        subst hA2
        have hadw2 := World.block_lt_of_cell? w _ g0w
        have g0 := (World.cell?_of_block (HBa.out.block _ hadw2)).trans g0w
        have g1 := (World.cell?_of_block (HBa.out.block _ (World.block_lt_of_cell? w _ g1w))).trans g1w
        have g2 := (World.cell?_of_block (HBa.out.block _ (World.block_lt_of_cell? w _ g2w))).trans g2w
        have g3 := (World.cell?_of_block (HBa.out.block _ (World.block_lt_of_cell? w _ g3w))).trans g3w
        generalize m.getD k zSt = s2 at g0 g1 g2 g3 hcB2 hCB2 hMI
        have HD2 := Lib.hid (does_any _ HBo2a.out s2 B2 cc2 (Kd.C_below hCB2 HBa.out) hcB2 hMI (by omega) (C_off hCB2 (Nat.le_refl _) HG2.out) (by omega))
        clear g0w g1w g2w g3w hadw2
        go_wp2_with fail
        refine HD2.out.mono ?_
        rintro r wb ⟨rfl, G2', ts2', n2', hBo2', hlen2, hn2a, hn2b, hC2, hG2'⟩
        obtain ⟨hBb, hG2b, hGGb, hBo1b⟩ := after_step HBa.out HG2.out (fun x hx h1 => HGGa.out x h1 hx) HBo1a.out hC2 hG2'
        have HBo2b := Lib.hid hBo2'
        have HBb := Lib.hid hBb
        have HG2b := Lib.hid hG2b
        have HGGb := Lib.hid hGGb
        have HBo1b := Lib.hid hBo1b
        clear hBo2' hC2 hG2' hBb hG2b hGGb hBo1b g0 g1 g2 g3 HD2 hcB2 hCB2 hMI HBa HG2 HGGa HBo1a HBo2a
        go_wp2_with fail
        go_roundw
        case rel => exact ⟨k + 1, ts1', ts2', n1', n2', G1', G2', by first | rfl | (rw [HWN.out]; rfl), by omega, HBo1b, HBo2b, by omega, by omega, by omega, by omega, by omega, by omega, by omega, by omega, HBb, HG1a, HG2b, (Lib.hid (fun x hx h2 => HGGb.out x h2 hx))⟩
        case measure =>
          first | rw [HWN.out] | skip
          simp [intOf]
          omega
      · have b2 : decide ((k : Int) < (m.length : Int)) = false := by simp; omega
        have hLI := HLI.out k hk1
        obtain ⟨ad, B, c, hA, f0w, f1w, f2w, f3w, hcB, hCB⟩ := at_St HL.out k hk1
        subst hA
        have hadw := World.block_lt_of_cell? w _ f0w
        have f0 := (World.cell?_of_block (HB.out.block _ hadw)).trans f0w
        have f1 := (World.cell?_of_block (HB.out.block _ (World.block_lt_of_cell? w _ f1w))).trans f1w
        have f2 := (World.cell?_of_block (HB.out.block _ (World.block_lt_of_cell? w _ f2w))).trans f2w
        have f3 := (World.cell?_of_block (HB.out.block _ (World.block_lt_of_cell? w _ f3w))).trans f3w
        generalize l.getD k zSt = s at f0 f1 f2 f3 hcB hCB hLI
        have HD := Lib.hid (does_any wr HBo1.out s B c (Kd.C_below hCB HB.out) hcB hLI (by omega) (C_off hCB (Nat.le_refl _) HG1.out) (by omega))
        clear f0w f1w f2w f3w hadw
        go_wp2_with fail
        refine HD.out.mono ?_
        rintro r wa ⟨rfl, G1', ts1', n1', hBo1', hlen1, hn1a, hn1b, hC1, hG1'⟩
        obtain ⟨hBa, hG1a, hGGa, hBo2a⟩ := after_step HB.out HG1.out HGG.out HBo2.out hC1 hG1'
        have HBo1a := Lib.hid hBo1'
        have HBa := Lib.hid hBa
        have HG1a := Lib.hid hG1a
        have HGGa := Lib.hid hGGa
        have HBo2a := Lib.hid hBo2a
        clear hBo1' hC1 hG1' hBa hG1a hGGa hBo2a f0 f1 f2 f3 HD hcB hCB hLI HB HG1 HGG HBo1 HBo2
        have HWN := Lib.hid (w64n k (by omega))
        go_wp2_with fail
        go_roundw
        case rel => exact ⟨k + 1, ts1', ts2, n1', n2, G1', G2, by first | rfl | (rw [HWN.out]; rfl), by omega, HBo1a, HBo2a, by omega, by omega, by omega, by omega, by omega, by omega, by omega, by omega, HBa, HG1a, HG2, HGGa⟩
        case measure =>
          first | rw [HWN.out] | skip
          simp [intOf]
          omega
    · have b1 : decide ((k : Int) < (l.length : Int)) = false := by simp; omega
      by_cases hk2 : k < m.length
      · have b2 : decide ((k : Int) < (m.length : Int)) = true := by simp; omega
        have HBa := HB
        have HBo1a := HBo1
        have HBo2a := HBo2
        have HGGa := HGG
        clear HB HBo1 HBo2 HGG
        have HWN := Lib.hid (w64n k (by omega))

        have hMI := HMI.out k hk2
        obtain ⟨ad2, B2, cc2, hA2, g0w, g1w, g2w, g3w, hcB2, hCB2⟩ := at_St HM.out k hk2
        subst hA2
        have hadw2 := World.block_lt_of_cell? w _ g0w
        have g0 := (World.cell?_of_block (HBa.out.block _ hadw2)).trans g0w
        have g1 := (World.cell?_of_block (HBa.out.block _ (World.block_lt_of_cell? w _ g1w))).trans g1w
        have g2 := (World.cell?_of_block (HBa.out.block _ (World.block_lt_of_cell? w _ g2w))).trans g2w
        have g3 := (World.cell?_of_block (HBa.out.block _ (World.block_lt_of_cell? w _ g3w))).trans g3w
        generalize m.getD k zSt = s2 at g0 g1 g2 g3 hcB2 hCB2 hMI
        have HD2 := Lib.hid (does_any _ HBo2a.out s2 B2 cc2 (Kd.C_below hCB2 HBa.out) hcB2 hMI (by omega) (C_off hCB2 (Nat.le_refl _) HG2.out) (by omega))
        clear g0w g1w g2w g3w hadw2
        go_wp2_with fail
        refine HD2.out.mono ?_
        rintro r wb ⟨rfl, G2', ts2', n2', hBo2', hlen2, hn2a, hn2b, hC2, hG2'⟩
        obtain ⟨hBb, hG2b, hGGb, hBo1b⟩ := after_step HBa.out HG2.out (fun x hx h1 => HGGa.out x h1 hx) HBo1a.out hC2 hG2'
        have HBo2b := Lib.hid hBo2'
        have HBb := Lib.hid hBb
        have HG2b := Lib.hid hG2b
        have HGGb := Lib.hid hGGb
        have HBo1b := Lib.hid hBo1b
        clear hBo2' hC2 hG2' hBb hG2b hGGb hBo1b g0 g1 g2 g3 HD2 hcB2 hCB2 hMI HBa HG2 HGGa HBo1a HBo2a
        go_wp2_with fail
        go_roundw
        case rel => exact ⟨k + 1, ts1, ts2', n1, n2', G1, G2', by first | rfl | (rw [HWN.out]; rfl), by omega, HBo1b, HBo2b, by omega, by omega, by omega, by omega, by omega, by omega, by omega, by omega, HBb, HG1, HG2b, (Lib.hid (fun x hx h2 => HGGb.out x h2 hx))⟩
        case measure =>
          first | rw [HWN.out] | skip
          simp [intOf]
          omega
      · have b2 : decide ((k : Int) < (m.length : Int)) = false := by simp; omega
        go_wp2_with fail
        have HT1 := Lib.hid (told_bo HBo1.out (by omega))
        refine HT1.out.mono ?_
        rintro r wa ⟨rfl, hba⟩
        have hT2 := told_bo (HBo2.out.below hba) (by omega)
        go_wp2_with fail
        refine hT2.mono ?_
        rintro r wb ⟨rfl, hbb⟩
        go_wp2_with fail
        go_ret
        exact ⟨rfl, (HB.out.trans (hba.mono HB.out.size)).trans (hbb.mono (Nat.le_trans HB.out.size hba.size))⟩

end Go.Proofs.Ytlbfnnngemonoaa.Fat
