/- chordmaillaw24.FateOwn: the walk of the law. -/
import Derived.Test.YtlbfnnngemonoaaFatOwn1
namespace Go.Proofs.Ytlbfnnngemonoaa.Fat
open Go.RowKit Go.Proofs.Ytlbfnnngemonoaa.PFateBooks
open Go.Proofs.YtlbfnnngemonoaaW.PrintWords Go.Proofs.YtlbfnnngemonoaaW.PrintLast Go.Proofs.YtlbfnnngemonoaaW.PrintMore
set_option linter.unusedVariables false
set_option linter.unusedSimpArgs false

theorem R_over {α : Type} {d : Kd α} {e : Nat} {w w' : World} {base : Nat} {v : Value} {xs : List α} {G : List Nat} (h : d.R e w base (fun _ => True) v xs) (hc : Chg G w w') (hG : ∀ x ∈ G, x < base) : d.R e w' base (fun _ => True) v xs :=
  Kd.R_mono (Kd.R_move (Kd.R_bound h) (fun k hk => hc.block k hk.2.2.1 (fun hx => by have := hG k hx; have := hk.2.1; omega))) (fun _ _ => trivial)
theorem eqA43 (d : Nat) (w : World) (a0 a1 a2 a3 a4 b0 b1 b2 b3 b4 : Int) :
    (Op.equalIn (d + 2) 43 (.agg #[.int .i64 a0, .int .i64 a1, .int .i64 a2, .int .i64 a3, .int .i64 a4]) (.agg #[.int .i64 b0, .int .i64 b1, .int .i64 b2, .int .i64 b3, .int .i64 b4])).run Try.prog w = .ok ((a0 == b0) && ((a1 == b1) && ((a2 == b2) && ((a3 == b3) && (a4 == b4))))) w := by
  refine eqA_of Try.underlying43 (by kernel_rfl) ?_
  refine eqf_cons (by rfl) (by go_simp; rfl) (by go_simp; rfl) (by go_simp) ?_
  refine eqf_cons (by rfl) (by go_simp; rfl) (by go_simp; rfl) (by go_simp) ?_
  refine eqf_cons (by rfl) (by go_simp; rfl) (by go_simp; rfl) (by go_simp) ?_
  refine eqf_cons (by rfl) (by go_simp; rfl) (by go_simp; rfl) (by go_simp) ?_
  exact eqf_last (by rfl) (by go_simp; rfl) (by go_simp; rfl) (by go_simp)
theorem size3 : (Try.prog.info? 3).map (·.size) = some [(.int .i64 0 : Value)].length := by kernel_rfl
theorem size43 : (Try.prog.info? 43).map (·.size) = some [(.int .i64 0 : Value), .int .i64 0, .int .i64 0, .int .i64 0, .int .i64 0].length := by kernel_rfl
theorem add0 (g n : Nat) : (⟨g, 0, none⟩ : Addr).add n = ⟨g, n, none⟩ := by
  unfold Addr.add
  split
  · rename_i h; rw [h]
  · simp
theorem C_two (w : World) : Kd.C k43 (w.alloc (.cells #[.int .i64 0, .int .i64 0, .int .i64 0, .int .i64 0, .int .i64 0, .int .i64 0, .int .i64 0, .int .i64 0, .int .i64 0, .int .i64 0] 43)) (some ⟨w.heap.size, 0, none⟩) 2 [z43, z43] := by
  refine ⟨rfl, by simp [maxLen], fun _ => ⟨_, rfl, fun j p hj => ?_⟩⟩
  have hp : p = z43 ∧ j < 2 := by
    rcases j with _ | _ | j
    · simp at hj; exact ⟨hj.symm, by omega⟩
    · simp at hj; exact ⟨hj.symm, by omega⟩
    · simp at hj
  obtain ⟨rfl, hj2⟩ := hp
  refine ⟨_, rfl, k43_mk _ z43, fun i u hu => ?_⟩
  have hi : i < 5 := (List.getElem?_eq_some_iff.1 hu).1
  have hu2 : u = .int .i64 0 := by
    rcases i with _ | _ | _ | _ | _ | i <;> simp [z43] at hu <;> first | exact hu.symm | omega
  subst hu2
  have hB := Blk.new w 43 #[.int .i64 0, .int .i64 0, .int .i64 0, .int .i64 0, .int .i64 0, .int .i64 0, .int .i64 0, .int .i64 0, .int .i64 0, .int .i64 0]
  have e : (⟨w.heap.size, 0, none⟩ : Addr).add (j * k43.sz + i) = ⟨w.heap.size, j * 5 + i, none⟩ := by
    have hz : k43.sz = 5 := rfl
    rw [hz]
    exact add0 _ _
  rw [e, hB.cell]
  have : j * 5 + i < 10 := by omega
  generalize j * 5 + i = n at this
  rcases n with _ | _ | _ | _ | _ | _ | _ | _ | _ | _ | n
  all_goals first | rfl | omega
theorem off_own {A : Option Addr} {n c : Nat} {G : List Nat} {B B2 : Nat} (ho : ∀ g, (Value.slice A n c).ownBlock = some g → B ≤ g ∧ g < B2) (hG : ∀ x ∈ G, x < B) : Off G A := by
  intro ad e hx
  have h := ho ad.block (by rw [e]; rfl)
  have := hG _ hx
  omega
set_option maxRecDepth 20000 in
set_option maxHeartbeats 4000000 in
theorem own_go (A : Option Addr) (c : Nat) (l : List St) (w : World) (hl : Kd.C kSt w A l.length l) (h1 : l.length ≤ c) (hlz : l.length * 48 ≤ 140737488355328) (hli : ∀ i, i < l.length → (l.getD i zSt).ids.length * 8 ≤ 140737488355328) :
    Calls Try.prog 4 #[.slice A l.length c] w fun e w' => e = .returned (.bool true) ∧ Below w.heap.size w w' := by
  have HL := Lib.hid hl
  have HLI := Lib.hid hli
  clear hl hli
  go_enter Try.func4, Try.ntmps4
  go_wp2_with fail
  refine (awake_any w).mono ?_
  rintro r w0 ⟨rfl, hb0⟩
  go_wp2_with fail
  refine (new_any w0).mono ?_
  rintro r w1 ⟨p, rfl, hp, hP, hb1⟩
  go_wp2_with fail
  refine (new_any w1).mono ?_
  rintro r w2 ⟨q, rfl, hq, hQ, hb2⟩
  have hplt := hP.lt p (by simp)
  have HT0 : Hid (Tw w2 p q [p] [q] [] 0) := Lib.hid ⟨hP.below hb2, hQ, by simp; omega⟩
  have hb01 := hb0.trans (hb1.mono hb0.size)
  have HB0 : Hid (Below w.heap.size w w2) := Lib.hid (hb01.trans (hb2.mono hb01.size))
  have hs0 := hb0.size
  have hs1 := hb1.size
  have HS0 : Hid (∀ x ∈ [p] ++ [q], w.heap.size ≤ x) := Lib.hid (by simp; omega)
  clear hP hQ hb0 hb1 hb2 hb01 hp hq hplt hs0 hs1
  go_wp2_with fail
  go_loopw [5] (fun i wr => ∃ (k : Nat) (ts : List S134) (n : Int) (S T : List Nat), i = .int .i64 k ∧ k ≤ l.length ∧ Hid (Tw wr p q S T ts n) ∧ ts.length ≤ k ∧ 0 ≤ n ∧ n ≤ k ∧ Hid (Below w.heap.size w wr) ∧ Hid (∀ x ∈ S ++ T, w.heap.size ≤ x)) (fun i _ => l.length - (intOf i).toNat)
  case atStart => exact ⟨0, [], 0, [p], [q], rfl, Nat.zero_le _, HT0, by simp, by omega, by omega, HB0, HS0⟩
  case round =>
    clear HT0 HB0 HS0
    obtain ⟨k, ts, n, S, T, rfl, hk, HT, hts, hn0, hnk, HB, HS⟩ := hrel
    obtain ⟨wo, hwo⟩ : ∃ wo : World, wo = wr := ⟨_, rfl⟩
    subst hwo
    by_cases hk1 : k < l.length
    · have b1 : decide ((k : Int) < (l.length : Int)) = true := by simp; omega
      have hLI := HLI.out k hk1
      obtain ⟨ad, B, cB, hA, f0w, f1w, f2w, f3w, hcB, hCB⟩ := at_St HL.out k hk1
      subst hA
      have hadw := World.block_lt_of_cell? w _ f0w
      generalize l.getD k zSt = s at f0w f1w f2w f3w hcB hCB hLI
      obtain ⟨sf, ac, er, ids⟩ := s
      have f0w : w.cell? (ad.add (k * 4)) = some (.bool sf) := f0w
      have f1w : w.cell? ⟨(ad.add (k * 4)).block, (ad.add (k * 4)).off + 1, none⟩ = some (.int .i64 ac) := f1w
      have f2w : w.cell? ⟨(ad.add (k * 4)).block, (ad.add (k * 4)).off + 2, none⟩ = some (.int .i64 er) := f2w
      have f3w : w.cell? ⟨(ad.add (k * 4)).block, (ad.add (k * 4)).off + 3, none⟩ = some (.slice B ids.length cB) := f3w
      have hcB : ids.length ≤ cB := hcB
      have hCB : Kd.C (Kd.int .i64) w B ids.length ids := hCB
      have hLI : ids.length * 8 ≤ 140737488355328 := hLI
      have HF := Lib.hid (⟨f0w, f1w, f2w, f3w⟩ : _ ∧ _ ∧ _ ∧ _)
      have f3 := (World.cell?_of_block (HB.out.block _ (World.block_lt_of_cell? w _ f3w))).trans f3w
      have f3' := (World.cell?_of_block ((HB.out.alloc HB.out.size (.cells #[] 3)).block _ (World.block_lt_of_cell? w _ f3w))).trans f3w
      have HCB := Lib.hid hCB
      have HE := Lib.hid (empty3 (base := wo.heap.size) (Blk.new wo 3 #[]) (Nat.le_refl _))
      have HC1 := Lib.hid (Kd.C_alloc (Kd.C_below hCB HB.out) (.cells #[] 3))
      have HB1 := Lib.hid ((Below.refl wo.heap.size wo).alloc (Nat.le_refl _) (.cells #[] 3))
      clear f0w f1w f2w f3w hCB
      go_upto_region 8 with (first | ((with_reducible refine gate_builtin (b := .append) (xs := #[.tmp 23, .tmp 28]) rfl ?_); at_builtin; refine Kd.R_append_rows (Kd.int .i64) (w0 := wo) wo.heap.size rfl (.tmp 23) (.tmp 28) 31 3 (.int .i64 0) 8 rfl Try.underlying31 info3 rfl (by decide) (by omega) (.slice (some ⟨wo.heap.size, 0, none⟩) 0 0) ([] : List Int) ids B ids.length cB (fun _ => True) (fun _ => False) rfl rfl HE.out HC1.out (fun x cs hc => hc) (fun _ hk => hk.elim) (fun _ _ => trivial) HB1.out HB1.out.size (by simpa using hLI) ?_; intro v1 wa hRa hba hga hata) | fail)
      obtain ⟨A3, c3, rfl⟩ := Kd.R_slice hRa
      rw [List.nil_append] at hRa
      rw [List.nil_append]
      have h3c := (Kd.R_reads' hRa).2.1
      have HRa := Lib.hid hRa
      have HBa := Lib.hid (HB.out.trans (hba.mono HB.out.size))
      have HTa := Lib.hid (HT.out.below hba)
      have HSlt : Hid (∀ x ∈ S ++ T, x < wo.heap.size) := Lib.hid HT.out.lt
      have hszr := hba.size
      have hszw := HB.out.size
      have ho3 : ∀ g, (Value.slice A3 ids.length c3).ownBlock = some g → wo.heap.size ≤ g ∧ g < wa.heap.size := fun g hg => ⟨Kd.R_base hRa g hg, Kd.R_lt hRa g hg⟩
      have HO3 := Lib.hid ho3
      have f0 := (World.cell?_of_block (HBa.out.block _ hadw)).trans HF.out.1
      clear hRa hba hga hata ho3 HE HC1 HB1 f3 f3' HT HB
      cases sf with
      | true =>
        have f1 := (World.cell?_of_block (HBa.out.block _ (World.block_lt_of_cell? w _ HF.out.2.1))).trans HF.out.2.1
        obtain ⟨Mid, h14, h142⟩ := tw_fire HTa.out ac A3 B c3 cB ids (by omega) (by omega) h3c hcB (Kd.R_reads' HRa.out).2.2 (fun _ => off_own HO3.out HSlt.out) (Kd.C_below HCB.out HBa.out) (C_off HCB.out (Nat.le_refl _) HS.out)
        have H14 := Lib.hid h14
        have H142 := Lib.hid h142
        clear h14 h142
        go_wp2_with fail
        refine H14.out.mono ?_
        rintro r wb ⟨⟨kk, z, rfl⟩, hM, hC⟩
        have HBb := Lib.hid (HBa.out.trans (hC.below HBa.out.size HS.out))
        have g1 := (World.cell?_of_block (HBb.out.block _ (World.block_lt_of_cell? w _ HF.out.2.1))).trans HF.out.2.1
        have g3 := (World.cell?_of_block (HBb.out.block _ (World.block_lt_of_cell? w _ HF.out.2.2.2))).trans HF.out.2.2.2
        clear f0 f1
        go_upto_region 10 with fail
        go_still_tail 11, (by kernel_rfl)
        change wpList _ _ _ _ _ wb.drew
        have H143 := Lib.hid (H142.out wb wb.drew hM hC (Below.refl _ _).drew)
        clear g1 g3 H14 H142
        go_wp2_with fail
        refine H143.out.mono ?_
        rintro r wc ⟨⟨k2, z2, rfl⟩, S', T', ts', n', hTw', hlen, hn1, hn2, hC2, hS2⟩
        have HTc := Lib.hid hTw'
        have hbd := (Below.refl wb.heap.size wb).drew
        have HBc := Lib.hid ((HBb.out.trans (hbd.mono HBb.out.size)).trans (hC2.below (by have := hbd.size; have := HBb.out.size; omega) HS.out))
        have HSc : Hid (∀ x ∈ S' ++ T', w.heap.size ≤ x) := Lib.hid (fun x hx => by
          rcases hS2 x hx with h | h
          · exact HS.out x h
          · omega)
        have HDJ : Hid (∀ g, (Value.slice A3 ids.length c3).ownBlock = some g → g ∉ S' ++ T') := Lib.hid (fun g hg hx => by
          have h3 := HO3.out g hg
          rcases hS2 g hx with h | h
          · have := HSlt.out g h; omega
          · omega)
        have HRc := Lib.hid (R_over (Kd.R_below (R_over HRa.out hC HSlt.out) hbd) hC2 HSlt.out)
        clear hTw' hbd hC2 hS2 hC HBb HF HCB hM

        have hs_ := HBc.out.size
        go_wp2_with fail
        go_loopw [7] (fun j W => ∃ (m : Nat) (xs : List Int), m ≤ ids.length ∧ j = .int .i64 m ∧ xs.length = ids.length ∧ Hid (Kd.R (Kd.int .i64) 3 W wo.heap.size (fun _ => True) (.slice A3 ids.length c3) xs) ∧ Hid (Tw W p q S' T' ts' n') ∧ Hid (Below w.heap.size w W)) (fun j _ => ids.length - (intOf j).toNat)
        case atStart => exact ⟨0, ids, Nat.zero_le _, rfl, rfl, HRc, HTc, HBc⟩
        case round =>
          clear HRc HTc HBc hs_
          obtain ⟨m, xs, hm, rfl, hxs, HR, HT, HB⟩ := hrel
          obtain ⟨wi, hwi⟩ : ∃ wi : World, wi = wr := ⟨_, rfl⟩
          subst hwi
          by_cases hlt : m < ids.length
          · have b2 : decide ((m : Int) < (ids.length : Int)) = true := by simp; omega
            obtain ⟨g, c4, hv, hgb, hgl, _⟩ := Kd.R_form HR.out (by omega)
            injection hv with hA3 hl3 hc3
            subst hA3 hc3
            have hCx := (Kd.R_reads' HR.out).2.2
            obtain ⟨ag, hag, x0⟩ := int_at hCx m (by omega)
            obtain rfl := Option.some.inj hag
            rw [add0] at x0
            have HCC : Hid (∀ j u, [(.int .i64 (xs.getD m 0) : Value)][j]? = some u → wi.cell? ⟨g, (m : Int).toNat * (Kd.int .i64).sz + j, none⟩ = some u) := Lib.hid (by
              intro j u hu
              rcases j with _ | j
              · have he := Option.some.inj hu
                subst he
                have hoff : (m : Int).toNat * (Kd.int .i64).sz + 0 = m := by show (m : Int).toNat * 1 + 0 = m; omega
                rw [hoff]
                exact x0
              · simp at hu)
            have HD : Hid (∀ x ∈ S' ++ T', x ∉ [g]) := Lib.hid (fun x hx hx2 => by
              obtain rfl : x = g := by simpa using hx2
              exact (HDJ.out x rfl) hx)
            have HWN := Lib.hid (w64n m (by omega))
            have hsw := HB.out.size
            have hgs : wo.heap.size ≤ wi.heap.size := by omega
            clear x0 hCx hl3
            have HOF : Hid (m = (m : Int).toNat * (Kd.int .i64).sz + 0) := Lib.hid (by show m = (m : Int).toNat * 1 + 0; omega)
            go_wp2_with (first | ((with_reducible refine gate_ (.store 3 (.tmp 89) (.tmp 88)) rfl ?_); refine Kd.R_store (Kd.int .i64) (w0 := wi) wo.heap.size rfl rfl 3 (.tmp 89) (.tmp 88) rfl 3 (g := g) (o' := m) (n := ids.length) (cap := c3) (m : Int) 0 xs (-1 - (m : Int)) (.int .i64 (-1 - (m : Int))) [.int .i64 (-1 - (m : Int))] [.int .i64 (xs.getD m 0)] (fun _ => True) (fun _ => False) ?ha HOF.out ?hx rfl size3 ?hone HR.out (by omega) (by omega) rfl HCC.out (Nat.le_refl 1) rfl (fun _ h => h.elim) (Below.refl _ _) ?_; (case ha => rfl); (case hx => rfl); (case hone => simp [Value.oneCell']); intro w14 hR14 hb14 hg14))
            have HR14 := Lib.hid hR14
            have HT14 := Lib.hid (HT.out.chg (chg_opt hg14) (by simpa using HD.out))
            have HB14 := Lib.hid (HB.out.trans (hb14.mono hszw))
            clear hR14 hb14 hg14 HR HT HB HCC
            go_wp2_with fail
            go_roundw
            case rel => exact ⟨m + 1, _, by omega, by first | rfl | (rw [HWN.out]; rfl), by rw [List.length_set]; exact hxs, HR14, HT14, HB14⟩
            case measure =>
              first | rw [HWN.out] | skip
              simp [intOf]
              omega
          · have b2 : decide ((m : Int) < (ids.length : Int)) = false := by simp; omega
            have HF1 := Lib.hid (fates_any p S' ts' n' wi HT.out.1 (by omega))
            clear HR HDJ HRa HTa HBa
            go_wp2_with fail
            refine HF1.out.mono ?_
            rintro r wx ⟨vx, rfl, hRx, hbx⟩
            obtain ⟨Ax, cx, rfl⟩ := Kd.R_slice hRx
            rw [FF_len] at hRx ⊢
            have HTx := Lib.hid (HT.out.below hbx)
            have HF2 := Lib.hid (fates_any p S' ts' n' wx HTx.out.1 (by omega))
            have HSl : Hid (∀ x ∈ S' ++ T', x < wi.heap.size) := Lib.hid HT.out.lt
            have HBx := Lib.hid (HB.out.trans (hbx.mono HB.out.size))
            have HRx := Lib.hid hRx
            have hwx := hbx.size
            have hsW := HB.out.size
            clear hRx hbx HF1 HT HB
            go_wp2_with fail
            refine HF2.out.mono ?_
            rintro r wy ⟨vy, rfl, hRy, hby⟩
            obtain ⟨Ay, cy, rfl⟩ := Kd.R_slice hRy
            rw [FF_len] at hRy ⊢
            have HTy := Lib.hid (HTx.out.below hby)
            have HBy := Lib.hid (HBx.out.trans (hby.mono HBx.out.size))
            have HRxy := Lib.hid (Kd.R_below HRx.out hby)
            have HXo : Hid (∀ g, (Value.slice Ax ts'.length cx).ownBlock = some g → wi.heap.size ≤ g ∧ g < wx.heap.size) := Lib.hid (fun g hg => ⟨Kd.R_base HRx.out g hg, Kd.R_lt HRx.out g hg⟩)
            have HRy := Lib.hid hRy
            have hwy := hby.size
            clear hRy hby HF2 HTx HBx HRx
            go_wp2_with fail
            go_loopw [10] (fun j W => ∃ (m : Nat) (fs : List S43), m ≤ ts'.length ∧ j = .int .i64 m ∧ fs.length = ts'.length ∧ Hid (Kd.R k43 43 W wi.heap.size (fun _ => True) (.slice Ax ts'.length cx) fs) ∧ Hid (Kd.R k43 43 W wx.heap.size (fun _ => True) (.slice Ay ts'.length cy) (FF ts')) ∧ Hid (Tw W p q S' T' ts' n') ∧ Hid (Below w.heap.size w W) ∧ wx.heap.size ≤ W.heap.size) (fun j _ => ts'.length - (intOf j).toNat)
            case atStart => exact ⟨0, _, Nat.zero_le _, rfl, FF_len _, HRxy, HRy, HTy, HBy, hwy⟩
            case round =>
              clear HRxy HRy HTy HBy hwy
              obtain ⟨m2, fs, hm2, rfl, hfs, HRx, HRy, HT, HB, hwy⟩ := hrel
              obtain ⟨wj, hwj⟩ : ∃ wj : World, wj = wr := ⟨_, rfl⟩
              subst hwj
              by_cases hlt2 : m2 < ts'.length
              · have b3 : decide ((m2 : Int) < (ts'.length : Int)) = true := by simp; omega
                obtain ⟨g, c4, hv, hgb, hgl, _⟩ := Kd.R_form HRx.out (by omega)
                injection hv with hAx hl3 hc3
                subst hAx hc3
                have hCx := (Kd.R_reads' HRx.out).2.2
                obtain ⟨ag, hag, y0, y1, y2, y3, y4⟩ := at_T43 hCx (m2 : Int) (by omega) (by omega)
                obtain rfl := Option.some.inj hag
                rw [add0] at y0 y1 y2 y3 y4
                have HCC : Hid (∀ j u, [(.int .i64 (rd_T43 fs m2).f0 : Value), .int .i64 (rd_T43 fs m2).f1, .int .i64 (rd_T43 fs m2).f2, .int .i64 (rd_T43 fs m2).f3, .int .i64 (rd_T43 fs m2).f4][j]? = some u → wj.cell? ⟨g, (m2 : Int).toNat * k43.sz + j, none⟩ = some u) := Lib.hid (by
                  intro j u hu
                  rcases j with _ | _ | _ | _ | _ | j
                  · simp at hu; subst hu; exact y0
                  · simp at hu; subst hu; exact y1
                  · simp at hu; subst hu; exact y2
                  · simp at hu; subst hu; exact y3
                  · simp at hu; subst hu; exact y4
                  · simp at hu)
                have hgx := HXo.out g rfl
                have HD : Hid (∀ x ∈ S' ++ T', x ∉ [g]) := Lib.hid (fun x hx hx2 => by
                  obtain rfl : x = g := by simpa using hx2
                  have := HSl.out x hx
                  omega)
                have HWN := Lib.hid (w64n m2 (by omega))
                have hu43 := Try.underlying43
                have hgs : wi.heap.size ≤ wj.heap.size := by omega
                clear y0 y1 y2 y3 y4 hCx hl3
                go_wp2_with (first | ((with_reducible refine gate_ (.store 43 (.tmp 103) (.tmp 102)) rfl ?_); refine Kd.R_store k43 (w0 := wj) wi.heap.size rfl rfl 43 (.tmp 103) (.tmp 102) rfl 43 (g := g) (n := ts'.length) (cap := cx) (m2 : Int) 0 fs ⟨-5, 0, 0, 0, 0⟩ (.agg #[.int .i64 (-5), .int .i64 0, .int .i64 0, .int .i64 0, .int .i64 0]) [.int .i64 (-5), .int .i64 0, .int .i64 0, .int .i64 0, .int .i64 0] [.int .i64 (rd_T43 fs m2).f0, .int .i64 (rd_T43 fs m2).f1, .int .i64 (rd_T43 fs m2).f2, .int .i64 (rd_T43 fs m2).f3, .int .i64 (rd_T43 fs m2).f4] (fun _ => True) (fun _ => False) rfl rfl rfl rfl size43 ?hone HRx.out (by omega) (by omega) rfl HCC.out (by decide) (k43_mkM _ _ _ (⟨-5, 0, 0, 0, 0⟩ : S43)) (fun _ h => h.elim) (Below.refl _ _) ?_; (case hone => simp [Value.oneCell']); intro w14 hR14 hb14 hg14))
                have HR14 := Lib.hid hR14
                have HRy14 := Lib.hid (R_over HRy.out (chg_opt hg14) (by simp; omega))
                have HT14 := Lib.hid (HT.out.chg (chg_opt hg14) (by simpa using HD.out))
                have HB14 := Lib.hid (HB.out.trans (hb14.mono hsW))
                have hw14 := hb14.size
                clear hR14 hb14 hg14 HRx HRy HT HB HCC
                go_wp2_with fail
                go_roundw
                case rel => exact ⟨m2 + 1, _, by omega, by first | rfl | (rw [HWN.out]; rfl), by rw [List.length_set]; exact hfs, HR14, HRy14, HT14, HB14, by omega⟩
                case measure =>
                  first | rw [HWN.out] | skip
                  simp [intOf]
                  omega
              · have b3 : decide ((m2 : Int) < (ts'.length : Int)) = false := by simp; omega
                have hgs : wi.heap.size ≤ wj.heap.size := by omega
                have HRA := Lib.hid (Kd.R_alloc HRx.out (.cells #[.int .i64 0, .int .i64 0, .int .i64 0, .int .i64 0, .int .i64 0, .int .i64 0, .int .i64 0, .int .i64 0, .int .i64 0, .int .i64 0] 43))
                have HYA := Lib.hid (Kd.R_alloc HRy.out (.cells #[.int .i64 0, .int .i64 0, .int .i64 0, .int .i64 0, .int .i64 0, .int .i64 0, .int .i64 0, .int .i64 0, .int .i64 0, .int .i64 0] 43))
                have hbA := (Below.refl wj.heap.size wj).alloc (Nat.le_refl _) (.cells #[.int .i64 0, .int .i64 0, .int .i64 0, .int .i64 0, .int .i64 0, .int .i64 0, .int .i64 0, .int .i64 0, .int .i64 0, .int .i64 0] 43)
                have HTA := Lib.hid (HT.out.below hbA)
                have HBA := Lib.hid (HB.out.trans (hbA.mono HB.out.size))
                have hszA := hbA.size
                have hu43 := Try.underlying43
                clear hbA HRx HRy HT HB
                go_wp2_with (first | ((with_reducible refine gate_builtin (b := .append) (xs := #[.tmp 104, .tmp 107]) rfl ?_); at_builtin; refine Kd.R_append_rows k43 wi.heap.size rfl (.tmp 104) (.tmp 107) 40 43 (.agg #[(.int .i64 0), (.int .i64 0), (.int .i64 0), (.int .i64 0), (.int .i64 0)]) 40 rfl Try.underlying40 info43' rfl (by decide) (by omega) (.slice Ax ts'.length cx) fs [z43, z43] (some ⟨wj.heap.size, 0, none⟩) 2 2 (fun _ => True) (fun _ => False) rfl rfl HRA.out (C_two wj) (fun x cs hc => by rw [k43_open hc]; exact k43_mkM _ _ _ x) (fun _ hk => hk.elim) (fun _ _ => trivial) (Below.refl _ _) (by omega) (by omega) ?_; intro v6 w6 hR6 hb6 hg6 hat6) | fail)
                obtain ⟨A6, c6, rfl⟩ := Kd.R_slice hR6
                have hl6 : (fs ++ [z43, z43]).length = ts'.length + 2 := by simp [hfs]
                rw [hl6]
                have HOx : Hid (∀ g ∈ (Value.slice Ax ts'.length cx).ownBlock.toList, wi.heap.size ≤ g ∧ g < wx.heap.size) := Lib.hid (fun g hg => HXo.out g (by simpa using hg))
                have HY6 := Lib.hid (R_over HYA.out (chg_opt hg6) (fun x hx => (HOx.out x hx).2))
                have HT6 := Lib.hid (HTA.out.chg (chg_opt hg6) (fun x hx hx2 => by have := HSl.out x hx; have := HOx.out x hx2; omega))
                have HB6 := Lib.hid (HBA.out.trans (hb6.mono hsW))
                have HF3 := Lib.hid (fates_any q T' ts' n' w6 HT6.out.2.1 (by omega))
                clear hR6 hb6 hg6 hat6 HRA HYA HTA HBA hl6
                go_wp2_with fail
                refine HF3.out.mono ?_
                rintro r wz ⟨vz, rfl, hRz, hbz⟩
                obtain ⟨Az, cz, rfl⟩ := Kd.R_slice hRz
                rw [FF_len] at hRz ⊢
                have HTz := Lib.hid (HT6.out.below hbz)
                have HBz := Lib.hid (HB6.out.trans (hbz.mono HB6.out.size))
                have HCy := Lib.hid (Kd.R_reads' (Kd.R_below HY6.out hbz)).2.2
                have HCz := Lib.hid (Kd.R_reads' hRz).2.2
                have hcy := (Kd.R_reads' HY6.out).2.1
                have hcz := (Kd.R_reads' hRz).2.1
                have b4 : ((ts'.length : Int) != (ts'.length : Int)) = false := by simp
                have b5 : decide (((ts'.length + 2 : Nat) : Int) < 2) = false := by simp; omega
                clear hRz hbz HF3 HT6 HB6 HY6
                go_wp2_with fail
                go_loopw [12] (fun j W => ∃ (m : Nat), m ≤ ts'.length ∧ j = .int .i64 m ∧ Below wz.heap.size wz W) (fun j _ => ts'.length - (intOf j).toNat)
                case atStart => exact ⟨0, Nat.zero_le _, rfl, Below.refl _ _⟩
                case round =>
                  obtain ⟨m3, hm3, rfl, hb⟩ := hrel
                  by_cases hlt3 : m3 < ts'.length
                  · have b6 : decide ((m3 : Int) < (ts'.length : Int)) = true := by simp; omega
                    obtain ⟨ay, hay, y0, y1, y2, y3, y4⟩ := at_T43 (Kd.C_below HCy.out hb) (m3 : Int) (by omega) (by rw [FF_len]; omega)
                    obtain ⟨az, haz, z0, z1, z2, z3, z4⟩ := at_T43 (Kd.C_below HCz.out hb) (m3 : Int) (by omega) (by rw [FF_len]; omega)
                    subst hay haz
                    rw [Int.toNat_natCast] at y0 y1 y2 y3 y4 z0 z1 z2 z3 z4
                    generalize rd_T43 (FF ts') (m3 : Int) = x at y0 y1 y2 y3 y4 z0 z1 z2 z3 z4
                    have HWN := Lib.hid (w64n m3 (by omega))
                    have heq := fun W => eqA43 9998 W x.f0 x.f1 x.f2 x.f3 x.f4 x.f0 x.f1 x.f2 x.f3 x.f4
                    simp only [beq_self_eq_true, Bool.and_self] at heq
                    have hu43 := Try.underlying43
                    go_upto_region 29 with fail
                    go_quiet (fail)
                    go_wp2_with fail
                    go_roundw
                    case rel => exact ⟨m3 + 1, by omega, by first | rfl | (rw [HWN.out]; rfl), pw_below_drewN hb nq⟩
                    case measure =>
                      first | rw [HWN.out] | skip
                      simp [intOf]
                      omega
                  · have b6 : decide ((m3 : Int) < (ts'.length : Int)) = false := by simp; omega
                    have HWN := Lib.hid (w64n k (by omega))
                    go_wp2_with fail
                    go_roundw
                    case rel => exact ⟨k + 1, ts', n', S', T', by first | rfl | (rw [HWN.out]; rfl), by omega, Lib.hid (HTz.out.below hb), by omega, by omega, by omega, Lib.hid (HBz.out.trans (hb.mono HBz.out.size)), HSc⟩
                    case measure =>
                      first | rw [HWN.out] | skip
                      simp [intOf]
                      omega
      | false =>
        have f1 := (World.cell?_of_block (HBa.out.block _ (World.block_lt_of_cell? w _ HF.out.2.1))).trans HF.out.2.1
        have f2 := (World.cell?_of_block (HBa.out.block _ (World.block_lt_of_cell? w _ HF.out.2.2.1))).trans HF.out.2.2.1
        obtain ⟨Mid, h15, h152⟩ := tw_offer HTa.out ac er (by omega)
        have H14 := Lib.hid h15
        have H142 := Lib.hid h152
        clear h15 h152
        go_upto_region 11 with fail
        go_still_tail 11, (by kernel_rfl)
        change wpList _ _ _ _ _ wa.drew
        have hbd0 := (Below.refl wa.heap.size wa).drew
        obtain ⟨Mid2, h15, h152⟩ := tw_offer (HTa.out.below hbd0) ac er (by omega)
        have H14 := Lib.hid h15
        have H142 := Lib.hid h152
        clear h15 h152
        go_wp2_with fail
        refine H14.out.mono ?_
        rintro r wb ⟨⟨kk, z, rfl⟩, hM, hC0⟩
        have hC := (Chg.of_below hbd0 (S ++ T)).trans hC0
        have HBb := Lib.hid (HBa.out.trans (hC.below HBa.out.size HS.out))
        have g1 := (World.cell?_of_block (HBb.out.block _ (World.block_lt_of_cell? w _ HF.out.2.1))).trans HF.out.2.1
        have g2 := (World.cell?_of_block (HBb.out.block _ (World.block_lt_of_cell? w _ HF.out.2.2.1))).trans HF.out.2.2.1
        have hdd : wa.drew.heap.size = wa.heap.size := rfl
        clear f0 f1 f2 hbd0 hC0
        go_upto_region 12 with fail
        go_still_tail 11, (by kernel_rfl)
        change wpList _ _ _ _ _ wb.drew
        have H143 := Lib.hid (H142.out wb wb.drew hM (Below.refl _ _).drew)
        clear g1 g2 H14 H142
        go_wp2_with fail
        refine H143.out.mono ?_
        rintro r wc ⟨⟨k2, z2, rfl⟩, S', T', ts', n', hTw', hlen, hn1, hn2, hC2, hS2⟩
        have HTc := Lib.hid hTw'
        have hbd := (Below.refl wb.heap.size wb).drew
        have HBc := Lib.hid ((HBb.out.trans (hbd.mono HBb.out.size)).trans (hC2.below (by have := hbd.size; have := HBb.out.size; omega) HS.out))
        have HSc : Hid (∀ x ∈ S' ++ T', w.heap.size ≤ x) := Lib.hid (fun x hx => by
          rcases hS2 x hx with h | h
          · exact HS.out x h
          · omega)
        have HDJ : Hid (∀ g, (Value.slice A3 ids.length c3).ownBlock = some g → g ∉ S' ++ T') := Lib.hid (fun g hg hx => by
          have h3 := HO3.out g hg
          rcases hS2 g hx with h | h
          · have := HSlt.out g h; omega
          · omega)
        have HRc := Lib.hid (R_over (Kd.R_below (R_over HRa.out hC HSlt.out) hbd) hC2 HSlt.out)
        clear hTw' hbd hC2 hS2 hC HBb HF HCB hM

        have hs_ := HBc.out.size
        go_wp2_with fail
        go_loopw [7] (fun j W => ∃ (m : Nat) (xs : List Int), m ≤ ids.length ∧ j = .int .i64 m ∧ xs.length = ids.length ∧ Hid (Kd.R (Kd.int .i64) 3 W wo.heap.size (fun _ => True) (.slice A3 ids.length c3) xs) ∧ Hid (Tw W p q S' T' ts' n') ∧ Hid (Below w.heap.size w W)) (fun j _ => ids.length - (intOf j).toNat)
        case atStart => exact ⟨0, ids, Nat.zero_le _, rfl, rfl, HRc, HTc, HBc⟩
        case round =>
          clear HRc HTc HBc hs_
          obtain ⟨m, xs, hm, rfl, hxs, HR, HT, HB⟩ := hrel
          obtain ⟨wi, hwi⟩ : ∃ wi : World, wi = wr := ⟨_, rfl⟩
          subst hwi
          by_cases hlt : m < ids.length
          · have b2 : decide ((m : Int) < (ids.length : Int)) = true := by simp; omega
            obtain ⟨g, c4, hv, hgb, hgl, _⟩ := Kd.R_form HR.out (by omega)
            injection hv with hA3 hl3 hc3
            subst hA3 hc3
            have hCx := (Kd.R_reads' HR.out).2.2
            obtain ⟨ag, hag, x0⟩ := int_at hCx m (by omega)
            obtain rfl := Option.some.inj hag
            rw [add0] at x0
            have HCC : Hid (∀ j u, [(.int .i64 (xs.getD m 0) : Value)][j]? = some u → wi.cell? ⟨g, (m : Int).toNat * (Kd.int .i64).sz + j, none⟩ = some u) := Lib.hid (by
              intro j u hu
              rcases j with _ | j
              · have he := Option.some.inj hu
                subst he
                have hoff : (m : Int).toNat * (Kd.int .i64).sz + 0 = m := by show (m : Int).toNat * 1 + 0 = m; omega
                rw [hoff]
                exact x0
              · simp at hu)
            have HD : Hid (∀ x ∈ S' ++ T', x ∉ [g]) := Lib.hid (fun x hx hx2 => by
              obtain rfl : x = g := by simpa using hx2
              exact (HDJ.out x rfl) hx)
            have HWN := Lib.hid (w64n m (by omega))
            have hsw := HB.out.size
            have hgs : wo.heap.size ≤ wi.heap.size := by omega
            clear x0 hCx hl3
            have HOF : Hid (m = (m : Int).toNat * (Kd.int .i64).sz + 0) := Lib.hid (by show m = (m : Int).toNat * 1 + 0; omega)
            go_wp2_with (first | ((with_reducible refine gate_ (.store 3 (.tmp 89) (.tmp 88)) rfl ?_); refine Kd.R_store (Kd.int .i64) (w0 := wi) wo.heap.size rfl rfl 3 (.tmp 89) (.tmp 88) rfl 3 (g := g) (o' := m) (n := ids.length) (cap := c3) (m : Int) 0 xs (-1 - (m : Int)) (.int .i64 (-1 - (m : Int))) [.int .i64 (-1 - (m : Int))] [.int .i64 (xs.getD m 0)] (fun _ => True) (fun _ => False) ?ha HOF.out ?hx rfl size3 ?hone HR.out (by omega) (by omega) rfl HCC.out (Nat.le_refl 1) rfl (fun _ h => h.elim) (Below.refl _ _) ?_; (case ha => rfl); (case hx => rfl); (case hone => simp [Value.oneCell']); intro w14 hR14 hb14 hg14))
            have HR14 := Lib.hid hR14
            have HT14 := Lib.hid (HT.out.chg (chg_opt hg14) (by simpa using HD.out))
            have HB14 := Lib.hid (HB.out.trans (hb14.mono hszw))
            clear hR14 hb14 hg14 HR HT HB HCC
            go_wp2_with fail
            go_roundw
            case rel => exact ⟨m + 1, _, by omega, by first | rfl | (rw [HWN.out]; rfl), by rw [List.length_set]; exact hxs, HR14, HT14, HB14⟩
            case measure =>
              first | rw [HWN.out] | skip
              simp [intOf]
              omega
          · have b2 : decide ((m : Int) < (ids.length : Int)) = false := by simp; omega
            have HF1 := Lib.hid (fates_any p S' ts' n' wi HT.out.1 (by omega))
            clear HR HDJ HRa HTa HBa
            go_wp2_with fail
            refine HF1.out.mono ?_
            rintro r wx ⟨vx, rfl, hRx, hbx⟩
            obtain ⟨Ax, cx, rfl⟩ := Kd.R_slice hRx
            rw [FF_len] at hRx ⊢
            have HTx := Lib.hid (HT.out.below hbx)
            have HF2 := Lib.hid (fates_any p S' ts' n' wx HTx.out.1 (by omega))
            have HSl : Hid (∀ x ∈ S' ++ T', x < wi.heap.size) := Lib.hid HT.out.lt
            have HBx := Lib.hid (HB.out.trans (hbx.mono HB.out.size))
            have HRx := Lib.hid hRx
            have hwx := hbx.size
            have hsW := HB.out.size
            clear hRx hbx HF1 HT HB
            go_wp2_with fail
            refine HF2.out.mono ?_
            rintro r wy ⟨vy, rfl, hRy, hby⟩
            obtain ⟨Ay, cy, rfl⟩ := Kd.R_slice hRy
            rw [FF_len] at hRy ⊢
            have HTy := Lib.hid (HTx.out.below hby)
            have HBy := Lib.hid (HBx.out.trans (hby.mono HBx.out.size))
            have HRxy := Lib.hid (Kd.R_below HRx.out hby)
            have HXo : Hid (∀ g, (Value.slice Ax ts'.length cx).ownBlock = some g → wi.heap.size ≤ g ∧ g < wx.heap.size) := Lib.hid (fun g hg => ⟨Kd.R_base HRx.out g hg, Kd.R_lt HRx.out g hg⟩)
            have HRy := Lib.hid hRy
            have hwy := hby.size
            clear hRy hby HF2 HTx HBx HRx
            go_wp2_with fail
            go_loopw [10] (fun j W => ∃ (m : Nat) (fs : List S43), m ≤ ts'.length ∧ j = .int .i64 m ∧ fs.length = ts'.length ∧ Hid (Kd.R k43 43 W wi.heap.size (fun _ => True) (.slice Ax ts'.length cx) fs) ∧ Hid (Kd.R k43 43 W wx.heap.size (fun _ => True) (.slice Ay ts'.length cy) (FF ts')) ∧ Hid (Tw W p q S' T' ts' n') ∧ Hid (Below w.heap.size w W) ∧ wx.heap.size ≤ W.heap.size) (fun j _ => ts'.length - (intOf j).toNat)
            case atStart => exact ⟨0, _, Nat.zero_le _, rfl, FF_len _, HRxy, HRy, HTy, HBy, hwy⟩
            case round =>
              clear HRxy HRy HTy HBy hwy
              obtain ⟨m2, fs, hm2, rfl, hfs, HRx, HRy, HT, HB, hwy⟩ := hrel
              obtain ⟨wj, hwj⟩ : ∃ wj : World, wj = wr := ⟨_, rfl⟩
              subst hwj
              by_cases hlt2 : m2 < ts'.length
              · have b3 : decide ((m2 : Int) < (ts'.length : Int)) = true := by simp; omega
                obtain ⟨g, c4, hv, hgb, hgl, _⟩ := Kd.R_form HRx.out (by omega)
                injection hv with hAx hl3 hc3
                subst hAx hc3
                have hCx := (Kd.R_reads' HRx.out).2.2
                obtain ⟨ag, hag, y0, y1, y2, y3, y4⟩ := at_T43 hCx (m2 : Int) (by omega) (by omega)
                obtain rfl := Option.some.inj hag
                rw [add0] at y0 y1 y2 y3 y4
                have HCC : Hid (∀ j u, [(.int .i64 (rd_T43 fs m2).f0 : Value), .int .i64 (rd_T43 fs m2).f1, .int .i64 (rd_T43 fs m2).f2, .int .i64 (rd_T43 fs m2).f3, .int .i64 (rd_T43 fs m2).f4][j]? = some u → wj.cell? ⟨g, (m2 : Int).toNat * k43.sz + j, none⟩ = some u) := Lib.hid (by
                  intro j u hu
                  rcases j with _ | _ | _ | _ | _ | j
                  · simp at hu; subst hu; exact y0
                  · simp at hu; subst hu; exact y1
                  · simp at hu; subst hu; exact y2
                  · simp at hu; subst hu; exact y3
                  · simp at hu; subst hu; exact y4
                  · simp at hu)
                have hgx := HXo.out g rfl
                have HD : Hid (∀ x ∈ S' ++ T', x ∉ [g]) := Lib.hid (fun x hx hx2 => by
                  obtain rfl : x = g := by simpa using hx2
                  have := HSl.out x hx
                  omega)
                have HWN := Lib.hid (w64n m2 (by omega))
                have hu43 := Try.underlying43
                have hgs : wi.heap.size ≤ wj.heap.size := by omega
                clear y0 y1 y2 y3 y4 hCx hl3
                go_wp2_with (first | ((with_reducible refine gate_ (.store 43 (.tmp 103) (.tmp 102)) rfl ?_); refine Kd.R_store k43 (w0 := wj) wi.heap.size rfl rfl 43 (.tmp 103) (.tmp 102) rfl 43 (g := g) (n := ts'.length) (cap := cx) (m2 : Int) 0 fs ⟨-5, 0, 0, 0, 0⟩ (.agg #[.int .i64 (-5), .int .i64 0, .int .i64 0, .int .i64 0, .int .i64 0]) [.int .i64 (-5), .int .i64 0, .int .i64 0, .int .i64 0, .int .i64 0] [.int .i64 (rd_T43 fs m2).f0, .int .i64 (rd_T43 fs m2).f1, .int .i64 (rd_T43 fs m2).f2, .int .i64 (rd_T43 fs m2).f3, .int .i64 (rd_T43 fs m2).f4] (fun _ => True) (fun _ => False) rfl rfl rfl rfl size43 ?hone HRx.out (by omega) (by omega) rfl HCC.out (by decide) (k43_mkM _ _ _ (⟨-5, 0, 0, 0, 0⟩ : S43)) (fun _ h => h.elim) (Below.refl _ _) ?_; (case hone => simp [Value.oneCell']); intro w14 hR14 hb14 hg14))
                have HR14 := Lib.hid hR14
                have HRy14 := Lib.hid (R_over HRy.out (chg_opt hg14) (by simp; omega))
                have HT14 := Lib.hid (HT.out.chg (chg_opt hg14) (by simpa using HD.out))
                have HB14 := Lib.hid (HB.out.trans (hb14.mono hsW))
                have hw14 := hb14.size
                clear hR14 hb14 hg14 HRx HRy HT HB HCC
                go_wp2_with fail
                go_roundw
                case rel => exact ⟨m2 + 1, _, by omega, by first | rfl | (rw [HWN.out]; rfl), by rw [List.length_set]; exact hfs, HR14, HRy14, HT14, HB14, by omega⟩
                case measure =>
                  first | rw [HWN.out] | skip
                  simp [intOf]
                  omega
              · have b3 : decide ((m2 : Int) < (ts'.length : Int)) = false := by simp; omega
                have hgs : wi.heap.size ≤ wj.heap.size := by omega
                have HRA := Lib.hid (Kd.R_alloc HRx.out (.cells #[.int .i64 0, .int .i64 0, .int .i64 0, .int .i64 0, .int .i64 0, .int .i64 0, .int .i64 0, .int .i64 0, .int .i64 0, .int .i64 0] 43))
                have HYA := Lib.hid (Kd.R_alloc HRy.out (.cells #[.int .i64 0, .int .i64 0, .int .i64 0, .int .i64 0, .int .i64 0, .int .i64 0, .int .i64 0, .int .i64 0, .int .i64 0, .int .i64 0] 43))
                have hbA := (Below.refl wj.heap.size wj).alloc (Nat.le_refl _) (.cells #[.int .i64 0, .int .i64 0, .int .i64 0, .int .i64 0, .int .i64 0, .int .i64 0, .int .i64 0, .int .i64 0, .int .i64 0, .int .i64 0] 43)
                have HTA := Lib.hid (HT.out.below hbA)
                have HBA := Lib.hid (HB.out.trans (hbA.mono HB.out.size))
                have hszA := hbA.size
                have hu43 := Try.underlying43
                clear hbA HRx HRy HT HB
                go_wp2_with (first | ((with_reducible refine gate_builtin (b := .append) (xs := #[.tmp 104, .tmp 107]) rfl ?_); at_builtin; refine Kd.R_append_rows k43 wi.heap.size rfl (.tmp 104) (.tmp 107) 40 43 (.agg #[(.int .i64 0), (.int .i64 0), (.int .i64 0), (.int .i64 0), (.int .i64 0)]) 40 rfl Try.underlying40 info43' rfl (by decide) (by omega) (.slice Ax ts'.length cx) fs [z43, z43] (some ⟨wj.heap.size, 0, none⟩) 2 2 (fun _ => True) (fun _ => False) rfl rfl HRA.out (C_two wj) (fun x cs hc => by rw [k43_open hc]; exact k43_mkM _ _ _ x) (fun _ hk => hk.elim) (fun _ _ => trivial) (Below.refl _ _) (by omega) (by omega) ?_; intro v6 w6 hR6 hb6 hg6 hat6) | fail)
                obtain ⟨A6, c6, rfl⟩ := Kd.R_slice hR6
                have hl6 : (fs ++ [z43, z43]).length = ts'.length + 2 := by simp [hfs]
                rw [hl6]
                have HOx : Hid (∀ g ∈ (Value.slice Ax ts'.length cx).ownBlock.toList, wi.heap.size ≤ g ∧ g < wx.heap.size) := Lib.hid (fun g hg => HXo.out g (by simpa using hg))
                have HY6 := Lib.hid (R_over HYA.out (chg_opt hg6) (fun x hx => (HOx.out x hx).2))
                have HT6 := Lib.hid (HTA.out.chg (chg_opt hg6) (fun x hx hx2 => by have := HSl.out x hx; have := HOx.out x hx2; omega))
                have HB6 := Lib.hid (HBA.out.trans (hb6.mono hsW))
                have HF3 := Lib.hid (fates_any q T' ts' n' w6 HT6.out.2.1 (by omega))
                clear hR6 hb6 hg6 hat6 HRA HYA HTA HBA hl6
                go_wp2_with fail
                refine HF3.out.mono ?_
                rintro r wz ⟨vz, rfl, hRz, hbz⟩
                obtain ⟨Az, cz, rfl⟩ := Kd.R_slice hRz
                rw [FF_len] at hRz ⊢
                have HTz := Lib.hid (HT6.out.below hbz)
                have HBz := Lib.hid (HB6.out.trans (hbz.mono HB6.out.size))
                have HCy := Lib.hid (Kd.R_reads' (Kd.R_below HY6.out hbz)).2.2
                have HCz := Lib.hid (Kd.R_reads' hRz).2.2
                have hcy := (Kd.R_reads' HY6.out).2.1
                have hcz := (Kd.R_reads' hRz).2.1
                have b4 : ((ts'.length : Int) != (ts'.length : Int)) = false := by simp
                have b5 : decide (((ts'.length + 2 : Nat) : Int) < 2) = false := by simp; omega
                clear hRz hbz HF3 HT6 HB6 HY6
                go_wp2_with fail
                go_loopw [12] (fun j W => ∃ (m : Nat), m ≤ ts'.length ∧ j = .int .i64 m ∧ Below wz.heap.size wz W) (fun j _ => ts'.length - (intOf j).toNat)
                case atStart => exact ⟨0, Nat.zero_le _, rfl, Below.refl _ _⟩
                case round =>
                  obtain ⟨m3, hm3, rfl, hb⟩ := hrel
                  by_cases hlt3 : m3 < ts'.length
                  · have b6 : decide ((m3 : Int) < (ts'.length : Int)) = true := by simp; omega
                    obtain ⟨ay, hay, y0, y1, y2, y3, y4⟩ := at_T43 (Kd.C_below HCy.out hb) (m3 : Int) (by omega) (by rw [FF_len]; omega)
                    obtain ⟨az, haz, z0, z1, z2, z3, z4⟩ := at_T43 (Kd.C_below HCz.out hb) (m3 : Int) (by omega) (by rw [FF_len]; omega)
                    subst hay haz
                    rw [Int.toNat_natCast] at y0 y1 y2 y3 y4 z0 z1 z2 z3 z4
                    generalize rd_T43 (FF ts') (m3 : Int) = x at y0 y1 y2 y3 y4 z0 z1 z2 z3 z4
                    have HWN := Lib.hid (w64n m3 (by omega))
                    have heq := fun W => eqA43 9998 W x.f0 x.f1 x.f2 x.f3 x.f4 x.f0 x.f1 x.f2 x.f3 x.f4
                    simp only [beq_self_eq_true, Bool.and_self] at heq
                    have hu43 := Try.underlying43
                    go_upto_region 29 with fail
                    go_quiet (fail)
                    go_wp2_with fail
                    go_roundw
                    case rel => exact ⟨m3 + 1, by omega, by first | rfl | (rw [HWN.out]; rfl), pw_below_drewN hb nq⟩
                    case measure =>
                      first | rw [HWN.out] | skip
                      simp [intOf]
                      omega
                  · have b6 : decide ((m3 : Int) < (ts'.length : Int)) = false := by simp; omega
                    have HWN := Lib.hid (w64n k (by omega))
                    go_wp2_with fail
                    go_roundw
                    case rel => exact ⟨k + 1, ts', n', S', T', by first | rfl | (rw [HWN.out]; rfl), by omega, Lib.hid (HTz.out.below hb), by omega, by omega, by omega, Lib.hid (HBz.out.trans (hb.mono HBz.out.size)), HSc⟩
                    case measure =>
                      first | rw [HWN.out] | skip
                      simp [intOf]
                      omega
    · have b1 : decide ((k : Int) < (l.length : Int)) = false := by simp; omega
      go_wp2_with fail
      go_ret
      exact ⟨rfl, HB.out⟩
end Go.Proofs.Ytlbfnnngemonoaa.Fat
