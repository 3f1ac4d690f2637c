/- The walk through chordmaillaw25.PolicyLots. -/
import Derived.Test.YtfflfhkbnmoalaaPolAwake
import Derived.Test.YtfflfhkbnmoalaaPPolicyLotsx1
namespace Go.Proofs.Ytfflfhkbnmoalaa.Pol
open Go.RowKit Go.Proofs.YtfflfhkbnmoalaaW.PrintWords Go.Proofs.YtfflfhkbnmoalaaW.PrintLast
open PPolicyLots (S42 S46 k42 k46 chordmaillaw25_lent.f chordmaillaw25_lent.l0 chordmaillaw25_lent.calls rd_T42)

/-- A pair of ints, as two cells. -/
def kP : Kd (Int × Int) := Kd.pair (Kd.int .i64) (Kd.int .i64)
theorem C_iso {α β : Type} {d : Kd α} {f : β → α} {w : World} {A : Option Addr} {n : Nat} {ys : List β} (h : d.C w A n (ys.map f)) : (Kd.iso d f).C w A n ys := by
  obtain ⟨h1, h2, h3⟩ := h
  refine ⟨by simpa using h1, h2, fun hn => ?_⟩
  obtain ⟨ad, e, hc⟩ := h3 hn
  refine ⟨ad, e, fun j p hp => ?_⟩
  exact hc j (f p) (by simp [hp])

theorem at_LP {w : World} {A : Option Addr} {xs : List (List (Int × Int))} (h : (Kd.slice 42 kP).C w A xs.length xs) (i : Nat) (hi : i < xs.length) :
    ∃ ad A0 c0, A = some ad ∧ w.cell? (ad.add i) = some (.slice A0 xs[i].length c0) ∧ xs[i].length ≤ c0 ∧ kP.C w A0 xs[i].length xs[i] := by
  obtain ⟨ad, c, e, _, hK, hc0⟩ := Kd.C_get h ([] : List (Int × Int)) i (by omega) (by omega)
  have hc : ∀ j u, c[j]? = some u → w.cell? (ad.add (i * 1 + j)) = some u := hc0
  have e1 : xs.getD (i : Int).toNat [] = xs[i] := by simp [List.getD, hi]
  rw [e1] at hK
  obtain ⟨A0, c0, rfl, l0, g0⟩ := hK
  exact ⟨ad, A0, c0, e, by have hq := hc 0 _ rfl; rwa [Nat.mul_one, Nat.add_zero] at hq, l0, g0⟩

theorem at_P {w : World} {A : Option Addr} {xs : List (Int × Int)} (h : kP.C w A xs.length xs) (i : Nat) (hi : i < xs.length) :
    ∃ ad, A = some ad ∧ w.cell? (ad.add (i * 2)) = some (.int .i64 xs[i].1) ∧ w.cell? ⟨(ad.add (i * 2)).block, (ad.add (i * 2)).off + 1, none⟩ = some (.int .i64 xs[i].2) := by
  obtain ⟨ad, c, e, _, hK, hc0⟩ := Kd.C_get h ((0, 0) : Int × Int) i (by omega) (by omega)
  have hc : ∀ j u, c[j]? = some u → w.cell? (ad.add (i * 2 + j)) = some u := hc0
  have e1 : xs.getD (i : Int).toNat (0, 0) = xs[i] := by simp [List.getD, hi]
  rw [e1] at hK
  obtain ⟨_, _, rfl, rfl, rfl⟩ := hK
  exact ⟨ad, e, hc 0 _ rfl, by rw [← add_field _ _ 1 (by omega)]; exact hc 1 _ rfl⟩

namespace Lots
def toS (p : Int × Int) : S42 := ⟨p.1, p.2⟩
theorem C42 {w : World} {A : Option Addr} {n : Nat} {xs : List (Int × Int)} (h : kP.C w A n xs) : k42.C w A n (xs.map toS) := by
  refine C_iso (d := kP) (f := fun x : S42 => (x.f0, x.f1)) ?_
  rw [List.map_map]
  have : ((fun x : S42 => (x.f0, x.f1)) ∘ toS) = id := rfl
  rw [this, List.map_id]
  exact h
def lentS (p : Int × Int) : S46 := ⟨p.1, p.2, []⟩
theorem lent_l (xs : List (Int × Int)) (hm : xs.length ≤ 1048576) : ∀ (d k : Nat) (i : Nat), i ≤ xs.length → xs.length - i = d → d < k →
    chordmaillaw25_lent.l0 k (xs.map toS) ((xs.take i).map lentS) i = some (xs.map lentS)
  | 0, k, i, hi, hd, hk => by
    obtain ⟨k, rfl⟩ : ∃ m, k = m + 1 := ⟨k - 1, by omega⟩
    have : i = xs.length := by omega
    subst this
    simp only [chordmaillaw25_lent.l0]
    rw [if_neg (by simp), List.take_length]
  | d + 1, k, i, hi, hd, hk => by
    obtain ⟨k, rfl⟩ : ∃ m, k = m + 1 := ⟨k - 1, by omega⟩
    have hlt : i < xs.length := by omega
    have ih := lent_l xs hm d k (i + 1) (by omega) (by omega) (by omega)
    simp only [chordmaillaw25_lent.l0]
    rw [if_pos (by simp; omega), if_pos (by omega), if_pos (by simp; omega)]
    have e1 : rd_T42 (xs.map toS) (i : Int) = toS xs[i] := by simp [rd_T42, List.getD, hlt]
    have e2 : wrap64 ((i : Int) + 1) = ((i + 1 : Nat) : Int) := by unfold wrap64; omega
    rw [e1, e2, ← ih, List.take_succ_eq_append_getElem hlt, List.map_append]
    rfl
theorem lent_any (A : Option Addr) (c : Nat) (xs : List (Int × Int)) (w : World) (hx : kP.C w A xs.length xs) (hc : xs.length ≤ c) (hm : xs.length ≤ 1048576) :
    Calls Try.prog 15 #[.slice A xs.length c] w fun e w' => ∃ A' c', e = .returned (.slice A' xs.length c') ∧ Below w.heap.size w w' := by
  have h := chordmaillaw25_lent.calls (xs.length + 1) A c (xs.map toS) (xs.map lentS) w (by simpa using C42 hx) (by simpa using hc) (by
    unfold chordmaillaw25_lent.f
    exact lent_l xs hm xs.length (xs.length + 1) 0 (by omega) (by omega) (by omega))
  rw [List.length_map] at h
  refine h.mono ?_
  rintro e w' ⟨v0, rfl, hS, hb⟩
  obtain ⟨A', c', rfl⟩ := Kd.S_slice hS
  rw [List.length_map]
  exact ⟨A', c', rfl, hb⟩

theorem own_slice {w : World} {base : Nat} {e : TypeId} {size n : Nat} {v : Value} {xs : List Value} (h : w.ownsRow base e size v n xs) : ∃ A c, v = .slice A n c := by
  rcases h.2 with ⟨rfl, rfl⟩ | ⟨g, cap, cur, rfl, _⟩
  · exact ⟨none, 0, rfl⟩
  · exact ⟨_, _, rfl⟩

theorem news3 (w : World) (o : Obj) (a b c : Value) : ∀ (j : Nat) (u : Value), [a, b, c][j]? = some u → ((w.alloc o).alloc (.cells #[a, b, c] 46)).cell? ((⟨w.heap.size + 1, 0, none⟩ : Addr).add j) = some u := by
  intro j u h
  have hb := Blk.new (w.alloc o) 46 #[a, b, c]
  simp only [World.size_alloc] at hb
  have hj : j < 3 := (List.getElem?_eq_some_iff.1 h).1
  rcases (by omega : j = 0 ∨ j = 1 ∨ j = 2) with rfl | rfl | rfl
  · simp at h; subst h; exact hb.cell 0
  · simp at h; subst h; exact hb.cell 1
  · simp at h; subst h; exact hb.cell 2

theorem news3' (w : World) (o : Obj) (a b c : Value) : ∀ (j : Nat) (u : Value), [a, b, c][j]? = some u → (((w.alloc o).alloc (.cells #[a, b, c] 46)).drew).cell? ((⟨w.heap.size + 1, 0, none⟩ : Addr).add j) = some u := news3 w o a b c
theorem lots_below {B : Nat} {w1 wr w4 : World} {o1 o2 : Obj} {v : Value} {k : Nat} {inner : List Value} (hb : Below B w1 wr) (hown : wr.ownsRow B 46 3 v k inner) (hg : ((wr.alloc o1).alloc o2).grownBy w4 v.ownBlock) (hB : B ≤ wr.heap.size := by first | assumption | exact (Below.size ‹_›)) : Below B w1 w4 :=
  ((hb.alloc hB o1).alloc (by simp; omega) o2).grown hg (by simp; omega) (own_base hown)
theorem lots_below' {B : Nat} {w1 wr w4 : World} {o1 o2 : Obj} {v : Value} {k : Nat} {inner : List Value} (hb : Below B w1 wr) (hown : wr.ownsRow B 46 3 v k inner) (hg : (((wr.alloc o1).alloc o2).drew).grownBy w4 v.ownBlock) (hB : B ≤ wr.heap.size := by first | assumption | exact (Below.size ‹_›)) : Below B w1 w4 :=
  ((hb.alloc hB o1).alloc (by simp; omega) o2).drew.grown hg (by simp; omega) (own_base hown)

theorem info46' : (Try.prog.info? 46).map (fun i => (i.zero, i.size, i.bytes)) = some (some (.agg #[(.int .i64 0), (.int .i64 0), (.slice none 0 0)]), 3, 40) := by kernel_rfl

set_option maxRecDepth 20000 in
set_option maxHeartbeats 1000000 in
theorem lots_any (seed : Int) (A B : Option Addr) (ca cb : Nat) (one two : List (List (Int × Int))) (w : World) (h1 : (Kd.slice 42 kP).C w A one.length one) (h2 : (Kd.slice 42 kP).C w B two.length two)
    (hl1 : ∀ l ∈ one, l.length ≤ 1048576) (hl2 : ∀ l ∈ two, l.length ≤ 1048576) :
    Calls Try.prog 5 #[.int .u64 seed, .slice A one.length ca, .slice B two.length cb] w fun e w' => e = .returned (.bool true) ∧ Below w.heap.size w w' := by
  have H1 := Lib.hid h1
  have H2 := Lib.hid h2
  have HL1 := Lib.hid hl1
  have HL2 := Lib.hid hl2
  clear h1 h2 hl1 hl2
  go_enter Try.func5, Try.ntmps5
  go_wp2_with fail
  refine (awake_any _).mono ?_
  rintro e w1 ⟨rfl, hb1⟩
  go_wp2_with fail
  refine (new_4 seed _).mono ?_
  rintro e w2 ⟨p, S, rfl, hP2, hS2, hb2⟩
  go_wp2_with fail
  refine (new_4 seed _).mono ?_
  rintro e w3 ⟨q, T, rfl, hQ3, hT3, hb3⟩
  have hP3 := hP2.chg (T := []) (Chg.of_below hb3 _) (by simp)
  have hlt3 := hP2.lt
  have HD := Lib.hid (fun x (hx : x ∈ S) (hy : x ∈ T) => by have := hlt3 x hx; have := hT3 x hy; omega : ∀ x ∈ S, x ∈ T → False)
  have hbb : Below w.heap.size w w3 := (hb1.trans (hb2.mono hb1.size)).trans (hb3.mono (Nat.le_trans hb1.size hb2.size))
  have HS := Lib.hid (fun x (hx : x ∈ S) => Nat.le_trans hb1.size (hS2 x hx) : ∀ x ∈ S, w.heap.size ≤ x)
  have HT := Lib.hid (fun x (hx : x ∈ T) => Nat.le_trans (Nat.le_trans hb1.size hb2.size) (hT3 x hx) : ∀ x ∈ T, w.heap.size ≤ x)
  clear hP2 hS2 hT3 hlt3 hb1 hb2 hb3
  go_wp2_with fail
  have hPl : Pl w3 p S (.lot seed) := hP3
  have hQl : Pl w3 q T (.lot seed) := hQ3
  clear hP3 hQ3
  go_loopw [11, 12, 13, 14, 15, 16, 17, 18, 19] (fun i _ _ _ _ _ _ _ _ wr => ∃ (k : Nat) (x : Int), k ≤ one.length ∧ i = .int .i64 k ∧ Pl wr p S (.lot x) ∧ Pl wr q T (.lot x) ∧ Below w.heap.size w wr) (fun i _ _ _ _ _ _ _ _ _ => one.length - (intOf i).toNat)
  case atStart => exact ⟨0, seed, Nat.zero_le _, rfl, hPl, hQl, hbb⟩
  case round =>
    clear hPl hQl hbb
    obtain ⟨i, x, hi, rfl, hP, hQ, hb⟩ := hrel
    have HP := Lib.hid hP
    have HQ := Lib.hid hQ
    clear hP hQ
    by_cases hlt : i < one.length ∧ i < 100
    · obtain ⟨hlt, hlt2⟩ := hlt
      obtain ⟨ad, A1, c1, rfl, hcell, hcap, hC1⟩ := at_LP H1.out i hlt
      have hcr := (hb.cell (World.block_lt_of_cell? w _ hcell)).trans hcell
      have hlen := HL1.out one[i] (List.getElem_mem hlt)
      have HLn := Lib.hid (Lots.lent_any A1 c1 one[i] wr (Kd.C_below hC1 hb) hcap hlen)
      clear hcell hcap hC1
      generalize one[i].length = n at hcr hlen HLn
      go_wp2_with fail
      refine HLn.out.mono ?_
      rintro e w1 ⟨A2, c2, rfl, hb1⟩
      have HP1 := Lib.hid (HP.out.chg (T := []) (Chg.of_below hb1 _) (by simp))
      have HQ1 := Lib.hid (HQ.out.chg (T := []) (Chg.of_below hb1 _) (by simp))
      have hbw1 : Below w.heap.size w w1 := hb.trans (hb1.mono hb.size)
      clear hb hb1 hcr HLn HP HQ
      go_wp2_with fail
      obtain ⟨i0, hi0, hz0, hz1, hz2⟩ := info_parts info46'
      obtain ⟨wo, rfl⟩ : ∃ wo : World, wo = wr := ⟨_, rfl⟩
      go_loopw [13, 14, 15] (fun v j _ wq => ∃ (k : Nat) (inner : List Value), k ≤ n ∧ j = .int .i64 k ∧ wq.ownsRow w1.heap.size 46 3 v k inner ∧ Below w1.heap.size w1 wq) (fun _ j _ _ => n - (intOf j).toNat)
      case atStart => exact ⟨0, [], Nat.zero_le _, rfl, ⟨rfl, .inl ⟨rfl, rfl⟩⟩, Below.refl _ _⟩
      case round =>
        obtain ⟨k, inner, hk, rfl, hown, hbq⟩ := hrel
        have HO := Lib.hid hown
        have HI := Lib.hid hi0
        clear hown
        by_cases hkn : k < n
        · by_cases hi2 : i < two.length
          · obtain ⟨ad2, A3, c3, rfl, hcell2, _, hC2⟩ := at_LP H2.out i hi2
            have hc2r : wr.cell? (ad2.add i) = some (.slice A3 two[i].length c3) := ((hbw1.trans (hbq.mono hbw1.size)).cell (World.block_lt_of_cell? w _ hcell2)).trans hcell2
            have hlen2 := HL2.out two[i] (List.getElem_mem hi2)
            by_cases hk2 : k < two[i].length
            · obtain ⟨ad3, rfl, hx0, hx1⟩ := at_P hC2 k hk2
              have hy0 := ((hbw1.trans (hbq.mono hbw1.size)).cell (World.block_lt_of_cell? w _ hx0)).trans hx0
              have hy1 := ((hbw1.trans (hbq.mono hbw1.size)).cell (World.block_lt_of_cell? w _ hx1)).trans hx1
              have hlt3 := World.block_lt_of_cell? wr _ hy0
              have hlt2' := World.block_lt_of_cell? wr _ hc2r
              have ha0 : ∀ o, (wr.alloc o).cell? (ad2.add i) = some (.slice (some ad3) two[i].length c3) := fun o => (World.cell?_alloc_lt wr o _ hlt2').trans hc2r
              have ha1 : ∀ o, (wr.alloc o).cell? (ad3.add (k * 2)) = some (.int .i64 two[i][k].1) := fun o => (World.cell?_alloc_lt wr o _ hlt3).trans hy0
              have ha2 : ∀ o, (wr.alloc o).cell? ⟨(ad3.add (k * 2)).block, (ad3.add (k * 2)).off + 1, none⟩ = some (.int .i64 two[i][k].2) := fun o => (World.cell?_alloc_lt wr o ⟨(ad3.add (k * 2)).block, (ad3.add (k * 2)).off + 1, none⟩ hlt3).trans hy1
              clear hcell2 hC2 hx0 hx1 hc2r hy0 hy1
              generalize two[i][k].1 = y0 at ha1
              generalize two[i][k].2 = y1 at ha2
              generalize two[i].length = n2 at ha0 hlen2 hk2
              go_wp2_with fail
              go_region
              go_wp2_with (at_builtin; refine wpList_append_own _ rfl (.tmp 93) (.tmp 95) 39 rfl w1.heap.size 46 i0 _ 3 40 Try.underlying39 HI.out hz0 hz1 hz2 rfl (by decide) _ k inner rfl (((HO.out.alloc _).alloc _).drew) ⟨wr.heap.size + 1, 0, none⟩ 1 1 [.int .i64 y0, .int .i64 y1, .slice none 0 0] rfl rfl ?c1 ?c2 ?c3 ?c4 ?c5 ?_)
              case c1 => exact news3' wr _ _ _ _
              case c2 => simp [Value.oneCell']
              case c3 => unfold maxLen; omega
              case c4 => omega
              case c5 => have := hbq.size; simp; omega
              intro v1 w4 hown4 hg4 _
              go_wp2
              go_roundw
              case rel => exact ⟨k + 1, _, by omega, by go_num, hown4, by first | exact lots_below hbq HO.out hg4 | exact lots_below' hbq HO.out hg4⟩
              case measure => simp [intOf]; omega
            · clear hC2 hcell2
              generalize two[i].length = n2 at hc2r hlen2 hk2
              have hlt2' := World.block_lt_of_cell? wr _ hc2r
              have ha0 : ∀ o, (wr.alloc o).cell? (ad2.add i) = some (.slice A3 n2 c3) := fun o => (World.cell?_alloc_lt wr o _ hlt2').trans hc2r
              clear hc2r
              go_wp2_with (at_builtin; refine wpList_append_own _ rfl (.tmp 93) (.tmp 95) 39 rfl w1.heap.size 46 i0 _ 3 40 Try.underlying39 HI.out hz0 hz1 hz2 rfl (by decide) _ k inner rfl ((HO.out.alloc _).alloc _) ⟨wr.heap.size + 1, 0, none⟩ 1 1 [.int .i64 k, .int .i64 (-(k : Int)), .slice none 0 0] rfl rfl ?c1 ?c2 ?c3 ?c4 ?c5 ?_)
              case c1 => exact news3 wr _ _ _ _
              case c2 => simp [Value.oneCell']
              case c3 => unfold maxLen; omega
              case c4 => omega
              case c5 => have := hbq.size; simp; omega
              intro v1 w4 hown4 hg4 _
              go_wp2
              go_roundw
              case rel => exact ⟨k + 1, _, by omega, by go_num, hown4, by first | exact lots_below hbq HO.out hg4 | exact lots_below' hbq HO.out hg4⟩
              case measure => simp [intOf]; omega
          · go_wp2_with (at_builtin; refine wpList_append_own _ rfl (.tmp 93) (.tmp 95) 39 rfl w1.heap.size 46 i0 _ 3 40 Try.underlying39 HI.out hz0 hz1 hz2 rfl (by decide) _ k inner rfl ((HO.out.alloc _).alloc _) ⟨wr.heap.size + 1, 0, none⟩ 1 1 [.int .i64 k, .int .i64 (-(k : Int)), .slice none 0 0] rfl rfl ?c1 ?c2 ?c3 ?c4 ?c5 ?_)
            case c1 => exact news3 wr _ _ _ _
            case c2 => simp [Value.oneCell']
            case c3 => unfold maxLen; omega
            case c4 => omega
            case c5 => have := hbq.size; simp; omega
            intro v1 w4 hown4 hg4 _
            go_wp2
            go_roundw
            case rel => exact ⟨k + 1, _, by omega, by go_num, hown4, by first | exact lots_below hbq HO.out hg4 | exact lots_below' hbq HO.out hg4⟩
            case measure => simp [intOf]; omega
        · obtain rfl : k = n := by omega
          obtain ⟨Av, cv, rfl⟩ := own_slice HO.out
          have HPq := Lib.hid (HP1.out.chg (T := []) (Chg.of_below hbq _) (by simp))
          have HQq := Lib.hid (HQ1.out.chg (T := []) (Chg.of_below hbq _) (by simp))
          have hbwq : Below w.heap.size w wr := hbw1.trans (hbq.mono hbw1.size)
          clear hbq hbw1 HP1 HQ1 HO
          by_cases h0 : k = 0
          · subst h0
            go_wp2_with fail
            refine (next_empty p S (.lot x) _ _ _ HPq.out).mono ?_
            rintro e w5 ⟨rfl, hb5⟩
            have HP5 := Lib.hid (HPq.out.chg (T := []) (Chg.of_below hb5 _) (by simp))
            have HQ5 := Lib.hid (HQq.out.chg (T := []) (Chg.of_below hb5 _) (by simp))
            go_wp2_with fail
            refine (next_empty q T (.lot x) _ _ _ HQ5.out).mono ?_
            rintro e w6 ⟨rfl, hb6⟩
            have HP6 := Lib.hid (HP5.out.chg (T := []) (Chg.of_below hb6 _) (by simp))
            have HQ6 := Lib.hid (HQ5.out.chg (T := []) (Chg.of_below hb6 _) (by simp))
            go_wp2
            go_roundw
            case rel => exact ⟨i + 1, x, by omega, by go_num, HP6.out, HQ6.out, (hbwq.trans (hb5.mono hbwq.size)).trans (hb6.mono (Nat.le_trans hbwq.size hb5.size))⟩
            case measure => simp [intOf]; omega
          · have hn0 : 0 < k := by omega
            have hr := lotAt_lt x k hn0
            have HNp := Lib.hid (next_lot p S x A2 k c2 wr HPq.out hn0 (by omega))
            have HNq := Lib.hid (fun w5 (h : Pl w5 q T (.lot x)) => next_lot q T x Av k cv w5 h hn0 (by omega))
            generalize lotAt x k = r at hr HNp HNq
            go_wp2_with fail
            refine HNp.out.mono ?_
            rintro e w5 ⟨rfl, hP5, hc5⟩
            have HP5 := Lib.hid hP5
            have HQ5 := Lib.hid (HQq.out.chg hc5 (fun y hy hy2 => HD.out y hy2 hy))
            have hb5 : Below w.heap.size w w5 := hbwq.trans (hc5.below hbwq.size HS.out)
            clear hP5 hc5
            go_wp2_with fail
            refine (HNq.out _ HQ5.out).mono ?_
            rintro e w6 ⟨rfl, hQ6, hc6⟩
            have HQ6 := Lib.hid hQ6
            have HP6 := Lib.hid (HP5.out.chg hc6 (fun y hy hy2 => HD.out y hy hy2))
            have hb6 : Below w.heap.size w w6 := hb5.trans (hc6.below hb5.size HT.out)
            clear hQ6 hc6
            go_wp2
            go_roundw
            case rel => exact ⟨i + 1, lotNext x, by omega, by go_num, HP6.out, HQ6.out, hb6⟩
            case measure => simp [intOf]; omega
    · by_cases h1 : i < one.length
      · have h2 : ¬ i < 100 := fun h => hlt ⟨h1, h⟩
        clear hlt
        go_wp2_with fail
        go_ret
        exact ⟨rfl, hb⟩
      · clear hlt
        go_wp2_with fail
        go_ret
        exact ⟨rfl, hb⟩
end Lots
end Go.Proofs.Ytfflfhkbnmoalaa.Pol
