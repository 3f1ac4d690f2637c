/- chordmaillaw25.PolicyPicks: the walk of the law: it answers true. -/
import Derived.Test.YtfflfhkbnmoalaaPicDuo
namespace Go.Proofs.Ytfflfhkbnmoalaa.Pic
open Go.RowKit Go.Proofs.Ytfflfhkbnmoalaa.Pol Go.Proofs.Ytfflfhkbnmoalaa.PPolicyPicks
open Go.Proofs.YtfflfhkbnmoalaaW.PrintWords Go.Proofs.YtfflfhkbnmoalaaW.PrintLast Go.Proofs.YtfflfhkbnmoalaaW.PrintMore
set_option linter.unusedVariables false
set_option linter.unusedSimpArgs false

theorem R_over {α : Type} {d : Kd α} {e : Nat} {w w' : World} {base : Nat} {v : Value} {xs : List α} {G : List Nat} (h : d.R e w base (fun _ => True) v xs) (hc : Chg G w w') (hG : ∀ x ∈ G, x < base) : d.R e w' base (fun _ => True) v xs :=
  Kd.R_mono (Kd.R_move (Kd.R_bound h) (fun k hk => hc.block k hk.2.2.1 (fun hx => by have := hG k hx; have := hk.2.1; omega))) (fun _ _ => trivial)

theorem row_of {w : World} {AL : Option Addr} {L : List (List S42)} (h : Kd.C (Kd.slice 42 k42) w AL L.length L) (i : Nat) (hi : i < L.length) :
    ∃ ad A0 c0, AL = some ad ∧ w.cell? (ad.add i) = some (.slice A0 L[i].length c0) ∧ L[i].length ≤ c0 ∧ Kd.C k42 w A0 L[i].length L[i] := by
  obtain ⟨ad, c, e, _, hK, hc0⟩ := Kd.C_get h ([] : List S42) i (by omega) (by omega)
  have hc : ∀ j u, c[j]? = some u → w.cell? (ad.add (i * 1 + j)) = some u := hc0
  have er : L.getD ((i : Nat) : Int).toNat [] = L[i] := by simp [List.getD, hi]
  rw [er] at hK
  obtain ⟨A0, c0, rfl, l0, g0⟩ := hK
  exact ⟨ad, A0, c0, e, by have hq := hc 0 _ rfl; rwa [Nat.mul_one, Nat.add_zero] at hq, l0, g0⟩

theorem off_of {α : Type} {d : Kd α} {e : Nat} {w : World} {base : Nat} {A : Option Addr} {n c : Nat} {xs : List α} {G : List Nat} (h : d.R e w base (fun _ => True) (.slice A n c) xs) (hG : ∀ x ∈ G, x < base) : Off G A := by
  obtain ⟨inner, ho⟩ := Kd.R_own h
  intro ad e hx
  rcases ho.2 with ⟨hv, _⟩ | ⟨g, cap, cur, hv, hg, _⟩
  · injection hv with h1
    rw [e] at h1
    cases h1
  · injection hv with h1
    rw [e] at h1
    obtain rfl := Option.some.inj h1
    have := hG _ hx
    simp at this
    omega
theorem reads46 {w : World} {base g c : Nat} {xs : List S42} (h : Kd.R k46 46 w base (fun _ => True) (.slice (some ⟨g, 0, none⟩) (xs.length + 1) c) (r46 xs ++ [mark])) : Kd.C k46 w (some ⟨g, 0, none⟩) (xs.length + 1) (r46 xs ++ [mark]) := by
  have h1 := (Kd.R_reads' h).2.2
  have hlen : (r46 xs ++ [mark]).length = xs.length + 1 := by simp [r46_len]
  rw [hlen] at h1
  exact h1
theorem reads104 {w : World} {base c : Nat} {A : Option Addr} {xs : List S42} (h : Kd.R k104 104 w base (fun _ => True) (.slice A xs.length c) (r104 xs)) : Kd.C k104 w A xs.length (r104 xs) := by
  have h1 := (Kd.R_reads' h).2.2
  rw [r104_len] at h1
  exact h1

set_option maxRecDepth 20000 in
set_option maxHeartbeats 4000000 in
theorem picks_go (k seed : Int) (AL : Option Addr) (cL : Nat) (L : List (List S42)) (w : World) (hL : Kd.C (Kd.slice 42 k42) w AL L.length L) (hcL : L.length ≤ cL) (hwf : ∀ xs ∈ L, ∀ p ∈ pr xs, (Lit.int .i64 p.1).wf = true ∧ (Lit.int .i64 p.2).wf = true) :
    Calls Try.prog 7 #[.int .i64 k, .int .u64 seed, .slice AL L.length cL] w fun e w' => e = .returned (.bool true) ∧ Below w.heap.size w w' := by
  have HL := Lib.hid hL
  have HWF := Lib.hid hwf
  clear hL hwf
  obtain ⟨err, Mid, h13, h20⟩ := du_new k seed w
  have H13 := Lib.hid h13
  have H20 := Lib.hid h20
  clear h13 h20
  go_enter Try.func7, Try.ntmps7
  go_wp2_with fail
  refine H13.out.mono ?_
  rintro e w1 ⟨P1, rfl, hM1, hb1⟩
  go_wp2_with fail
  refine (H20.out P1 w1 hM1 hb1).mono ?_
  rintro e w2 ⟨P2, G, rfl, hD, hG, hb2⟩
  have be : (err != err) = false := by simp
  have HD := Lib.hid hD
  have HG := Lib.hid hG
  have HB := Lib.hid (hb1.trans (hb2.mono hb1.size))
  have hi : (P1.isNone == P2.isNone) = true := by rw [hD.isn]; simp
  clear H13 H20 hD hG hM1 hb1 hb2
  go_wp2_with fail
  go_loopw [11, 12, 13] (fun vq vr i W => ∃ (n : Nat) (Q1 Q2 : Option Addr) (G1 G2 : List Nat), n ≤ L.length ∧ n ≤ 200 ∧ i = .int .i64 n ∧ vq = .pointer Q1 ∧ vr = .pointer Q2 ∧ Hid (Below w.heap.size w W) ∧ Hid (Du W P1 P2 G1 n) ∧ Hid (Du W Q1 Q2 G2 n) ∧ Hid (∀ x ∈ G1, w.heap.size ≤ x) ∧ Hid (∀ x ∈ G2, w.heap.size ≤ x) ∧ Hid (∀ x ∈ G1, x ∉ G2)) (fun _ _ i _ => L.length - (intOf i).toNat)
  case atStart => exact ⟨0, none, none, G, [], Nat.zero_le _, by omega, rfl, rfl, rfl, HB, HD, Lib.hid (Du.nil _ _), HG, Lib.hid (by simp), Lib.hid (by simp)⟩
  case round =>
    clear HB HD HG hi
    obtain ⟨n, Q1, Q2, G1, G2, hn, hn2, rfl, rfl, rfl, HB, HD1, HD2, HG1, HG2, HGG⟩ := hrel
    by_cases hlt : n < L.length
    · have b0 : decide ((n : Int) < (L.length : Int)) = true := by simp; omega
      by_cases h2 : n < 200
      · have b1 : decide ((n : Int) < 200) = true := by simp; omega
        obtain ⟨ad, A0, c0, hA, x0w, hc0, hx0⟩ := row_of HL.out n hlt
        subst hA
        have hadw := World.block_lt_of_cell? w _ x0w
        have x0 := (World.cell?_of_block (HB.out.block _ hadw)).trans x0w
        have hwx := HWF.out L[n] (List.getElem_mem hlt)
        generalize L[n] = xs at x0 x0w hc0 hx0 hwx
        have HX0 := Lib.hid x0w
        clear x0w
        have HX := Lib.hid hx0
        have HWX := Lib.hid hwx
        clear hx0 hwx
        by_cases hbig : 400 < xs.length
        · have b2 : decide ((xs.length : Int) > 400) = true := by simp; omega
          go_wp2_with fail
          go_ret
          exact ⟨rfl, HB.out⟩
        · have b2 : decide ((xs.length : Int) > 400) = false := by simp; omega
          have hm : xs.length ≤ 400 := by omega
          clear hbig
          go_wp2_with fail
          refine (choices_any A0 c0 xs wr (Kd.C_below HX.out HB.out) hc0 hm).mono ?_
          rintro e wa ⟨g, c, v, rfl, hgc, hRa, hRb, hba⟩
          obtain ⟨Ab, cb, rfl⟩ := Kd.R_slice hRb
          rw [r104_len] at hRb
          rw [r104_len]
          have lt1 := HD1.out.lt
          have lt2 := HD2.out.lt
          have oa : Off G1 (some ⟨g, 0, none⟩) := off_of hRa lt1
          obtain ⟨kk, y, Mid2, h14, h22⟩ := du_next (HD1.out.below hba) (by omega) g c Ab cb xs hm HWX.out (reads46 hRa) (reads104 hRb) oa (fun W' hc => reads104 (R_over hRb hc lt1)) (off_of hRb lt1)
          have HBa := Lib.hid (HB.out.trans (hba.mono HB.out.size))
          have HD2a := Lib.hid (HD2.out.below hba)
          have HRa := Lib.hid hRa
          have HRb := Lib.hid hRb
          have H14 := Lib.hid h14
          have H22 := Lib.hid h22
          have hszr := hba.size
          have hsw := HB.out.size
          have LT1 := Lib.hid lt1
          have LT2 := Lib.hid lt2
          clear hRa hRb h14 h22 oa HB HD1 HD2 hba x0 lt1 lt2
          go_wp2_with fail
          refine H14.out.mono ?_
          rintro e wb ⟨rfl, hMb, hCb⟩
          go_wp2_with fail
          refine (H22.out wb hMb hCb).mono ?_
          rintro e wc ⟨rfl, G1', hD1c, hCc, hG1'⟩
          have HD1c := Lib.hid hD1c
          have HG1' := Lib.hid hG1'
          have HD2c := Lib.hid ((HD2a.out.chg hCb (fun x hx h1 => HGG.out x h1 hx)).chg hCc (fun x hx h1 => HGG.out x h1 hx))
          have HRac := Lib.hid (R_over (R_over HRa.out hCb LT1.out) hCc LT1.out)
          have HRbc := Lib.hid (R_over (R_over HRb.out hCb LT1.out) hCc LT1.out)
          have HBb := HBa.out.trans (hCb.below HBa.out.size HG1.out)
          have HBc := Lib.hid (HBb.trans (hCc.below HBb.size HG1.out))
          have hszc : wa.heap.size ≤ wc.heap.size := Nat.le_trans hCb.size hCc.size
          have x0 := (World.cell?_of_block (HBc.out.block _ hadw)).trans HX0.out
          have be1 : (kk != kk) = false := by simp
          have be2 : (y != y) = false := by simp
          clear hMb hCb hCc hD1c hG1' HBb HBa HD2a HRa HRb H14 H22
          go_wp2_with fail
          refine (stay_any g c A0 c0 xs wc (reads46 HRac.out) hgc (Kd.C_below HX.out HBc.out) hm).mono ?_
          rintro e wd ⟨rfl, hbd⟩
          have hszd := hbd.size
          have HD1d := Lib.hid (HD1c.out.below hbd)
          have HD2d := Lib.hid (HD2c.out.below hbd)
          have HBd := Lib.hid (HBc.out.trans (hbd.mono HBc.out.size))
          have HRad := Lib.hid (Kd.R_below HRac.out hbd)
          have HRbd := Lib.hid (Kd.R_below HRbc.out hbd)
          have LT1c := Lib.hid HD1c.out.lt
          have HGL : Hid (∀ x ∈ G1', w.heap.size ≤ x) := Lib.hid (fun x hx => by
            rcases HG1'.out x hx with h | h
            · exact HG1.out x h
            · omega)
          have HDI : Hid (∀ x ∈ G1', x ∉ G2) := Lib.hid (fun x hx h2 => by
            rcases HG1'.out x hx with h | h
            · exact HGG.out x h h2
            · have := LT2.out x h2; omega)
          have HWN : Hid (wrap64 ((n : Int) + 1) = (n : Int) + 1) := Lib.hid (w64n n (by omega))
          clear HD1c HD2c HBc HRac HRbc hbd x0
          go_wp2_with fail
          · obtain ⟨Mid3, h24, h25⟩ := du_copy HD1d.out (by omega)
            have H24 := Lib.hid h24
            have H25 := Lib.hid h25
            clear h24 h25
            refine H24.out.mono ?_
            rintro e we ⟨U1, rfl, hM3, hbe⟩
            go_wp2_with fail
            refine (H25.out U1 we hM3 hbe).mono ?_
            rintro e wf ⟨U2, H, rfl, hD1f, hD2f, hH, hbf⟩
            have hiu : (U1.isNone == U2.isNone) = true := by rw [hD2f.isn]; simp
            have HD1f := Lib.hid hD1f
            have HD2f := Lib.hid hD2f
            have HHf := Lib.hid hH
            have HBe := HBd.out.trans (hbe.mono HBd.out.size)
            have HBf := Lib.hid (HBe.trans (hbf.mono HBe.size))
            clear H24 H25 hM3 hbe hD1f hD2f hH hbf HBe
            go_wp2_with fail
            go_roundw
            case rel =>
              refine ⟨n + 1, U1, U2, G1', H, by omega, by omega, (by first | rfl | (rw [HWN.out]; rfl)), rfl, rfl, HBf, HD1f, HD2f, HGL, Lib.hid (fun x hx => ?_), Lib.hid (fun x hx h2 => ?_)⟩
              · have := HHf.out x hx
                omega
              · have := HHf.out x h2
                have := LT1c.out x hx
                omega
            case measure =>
              first | rw [HWN.out] | skip
              simp [intOf]
              omega
          · obtain ⟨k2, y2, Mid3, h14, h22⟩ := du_next HD2d.out (by omega) g c Ab cb xs hm HWX.out (reads46 HRad.out) (reads104 HRbd.out) (off_of HRad.out LT2.out) (fun W' hc => reads104 (R_over HRbd.out hc LT2.out)) (off_of HRbd.out LT2.out)
            have H14 := Lib.hid h14
            have H22 := Lib.hid h22
            clear h14 h22
            refine H14.out.mono ?_
            rintro e we ⟨rfl, hM3, hCe⟩
            go_wp2_with fail
            refine (H22.out we hM3 hCe).mono ?_
            rintro e wf ⟨rfl, G2', hD2f, hCf, hG2'⟩
            have bf1 : (k2 != k2) = false := by simp
            have bf2 : (y2 != y2) = false := by simp
            have HD2f := Lib.hid hD2f
            have HG2' := Lib.hid hG2'
            have HD1f := Lib.hid ((HD1d.out.chg hCe HDI.out).chg hCf HDI.out)
            have HBe := HBd.out.trans (hCe.below HBd.out.size HG2.out)
            have HBf := Lib.hid (HBe.trans (hCf.below HBe.size HG2.out))
            clear H14 H22 hM3 hCe hCf hD2f hG2' HBe
            go_wp2_with fail
            go_roundw
            case rel =>
              refine ⟨n + 1, Q1, Q2, G1', G2', by omega, by omega, (by first | rfl | (rw [HWN.out]; rfl)), rfl, rfl, HBf, HD1f, HD2f, HGL, Lib.hid (fun x hx => ?_), Lib.hid (fun x hx h2 => ?_)⟩
              · rcases HG2'.out x hx with h | h
                · exact HG2.out x h
                · omega
              · rcases HG2'.out x h2 with h | h
                · exact HDI.out x hx h
                · have := LT1c.out x hx
                  omega
            case measure =>
              first | rw [HWN.out] | skip
              simp [intOf]
              omega
      · have b1 : decide ((n : Int) < 200) = false := by simp; omega
        go_wp2_with fail
        go_ret
        exact ⟨rfl, HB.out⟩
    · have b0 : decide ((n : Int) < (L.length : Int)) = false := by simp; omega
      go_wp2_with fail
      go_ret
      exact ⟨rfl, HB.out⟩
end Go.Proofs.Ytfflfhkbnmoalaa.Pic
