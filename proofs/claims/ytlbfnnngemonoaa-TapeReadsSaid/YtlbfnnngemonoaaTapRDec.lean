/- The tape document's Decode reads bytes just as rdD says. -/
import Derived.Test.YtlbfnnngemonoaaTapC
import Derived.Test.YtlbfnnngemonoaaTapDec
namespace Go.Proofs.Ytlbfnnngemonoaa.Wir
open Go.RowKit Go.Proofs.Ytlbfnnngemonoaa.PWireReads
open Go.Proofs.Ytlbfnnngemonoaa.Fat (Blk Chg Off chg_opt)
open Go.Proofs.YtlbfnnngemonoaaW.PrintWords Go.Proofs.YtlbfnnngemonoaaW.PrintLast Go.Proofs.YtlbfnnngemonoaaW.PrintMore
set_option linter.unusedVariables false
set_option linter.unusedSimpArgs false
theorem info128 : (Try.prog.info? 128).map (fun i => (i.zero, i.size, i.bytes)) = some (some zCall, kCl.sz, 64) := by kernel_rfl
section
variable {w0 w : World} {g at0 : Nat} {L : List Int} {bad : Bool}
theorem rcall_any (hI : IsS127 w0 w g L at0 false) (hb : Below w0.heap.size w0 w) (hB : By L) (hl : L.length ≤ 140737488355328) (ha : at0 < L.length) :
    Calls Try.prog 69 #[.pointer (some ⟨g, 0, none⟩)] w (TPost w0 w g L (rdC (L.drop at0)) at0) := by
  have k0 : (L.drop at0).getD 0 0 = L.getD at0 0 := drop_getD L at0 0
  have bad : rdC (L.drop at0) = none → Calls Try.prog 69 #[.pointer (some ⟨g, 0, none⟩)] w (TPost w0 w g L none at0) → Calls Try.prog 69 #[.pointer (some ⟨g, 0, none⟩)] w (TPost w0 w g L (rdC (L.drop at0)) at0) := by
    intro hr h
    rw [hr]
    exact h
  by_cases k1 : L.getD at0 0 = 1
  · cases hr : rdW (L.drop at0) 1 with
    | none => exact bad (by rw [rdC, k0, if_pos k1, hr]; rfl) (rcall_spawn_bad hI hb hB hl ha k1 hr)
    | some y =>
      obtain ⟨s, n⟩ := y
      have hR : rdC (L.drop at0) = some (⟨1, s, 0, [], 0⟩, n) := by rw [rdC, k0, if_pos k1, hr]; rfl
      rw [hR]
      exact rcall_spawn hI hb hB hl ha k1 s n hr
  by_cases k2 : L.getD at0 0 = 2
  · cases hr : rdL (L.drop at0) 1 with
    | none => exact bad (by rw [rdC, k0, if_neg k1, if_pos k2, hr]; rfl) (rcall_send_bad1 hI hb hB hl ha k2 hr)
    | some x =>
      cases hr2 : rdW (L.drop at0) 9 with
      | none => exact bad (by rw [rdC, k0, if_neg k1, if_pos k2, hr, hr2]; rfl) (rcall_send_bad2 hI hb hB hl ha k2 x hr hr2)
      | some y =>
        obtain ⟨s, n⟩ := y
        cases hr3 : rdP (L.drop (at0 + n)) with
        | none => exact bad (by rw [rdC, k0, if_neg k1, if_pos k2, hr, hr2]; simp only [Option.bind_some, List.drop_drop, hr3]; rfl) (rcall_send_bad3 hI hb hB hl ha k2 x hr s n hr2 hr3)
        | some z =>
          obtain ⟨vs, m⟩ := z
          have hR : rdC (L.drop at0) = some (⟨2, s, x, vs, 0⟩, n + m) := by rw [rdC, k0, if_neg k1, if_pos k2, hr, hr2]; simp only [Option.bind_some, List.drop_drop, hr3]; rfl
          rw [hR]
          exact rcall_send hI hb hB hl ha k2 x hr s n hr2 vs m hr3
  by_cases k3 : L.getD at0 0 = 3
  · cases hr : rdL (L.drop at0) 1 with
    | none => exact bad (by rw [rdC, k0, if_neg k1, if_neg k2, if_pos k3, hr]; rfl) (rcall_pick_bad hI hb hB hl ha k3 hr)
    | some x =>
      have hR : rdC (L.drop at0) = some (⟨3, { data := #[] }, 0, [], x⟩, 9) := by rw [rdC, k0, if_neg k1, if_neg k2, if_pos k3, hr]; rfl
      rw [hR]
      exact rcall_pick hI hb hB hl ha k3 x hr
  · exact bad (by rw [rdC, k0, if_neg k1, if_neg k2, if_neg k3]) (rcall_other hI hb hB hl ha k1 k2 k3)
end

theorem hold_it {p : Prop} (h : _root_.id p) : p := h
/-- What the document's Decode leaves. -/
def EPost (w : World) (o : Option (List Cl)) (e : Ending) (w' : World) : Prop :=
  Below w.heap.size w w' ∧ match o with
    | none => e = .returned (.tuple #[.slice none 0 0, .int .i64 260])
    | some xs => ∃ Av cv, e = .returned (.tuple #[.slice Av xs.length cv, .int .i64 0]) ∧ Kd.R kCl 128 w' w.heap.size (fun _ => True) (.slice Av xs.length cv) xs
/-- How far the document's loop has come. -/
def Far (L : List Int) (cs : List Cl) (p : Nat) (bad : Bool) : Prop :=
  (bad = false ∧ p ≤ L.length ∧ ∃ k, cs.length + k = 4096 ∧ decC 4096 (L.drop 4) = (decC k (L.drop p)).map (cs ++ ·)) ∨ (decC 4096 (L.drop 4) = none ∧ (bad = true ∨ cs.length = 4097))
theorem Far.step {L : List Int} {cs : List Cl} {p k : Nat} (hp : p < L.length) (hk : cs.length + k = 4096) (hd : decC 4096 (L.drop 4) = (decC k (L.drop p)).map (cs ++ ·)) {x : Cl} {at1 : Nat} {b1 : Bool}
    (h : match rdC (L.drop p) with | some (y, n) => x = y ∧ at1 = p + n ∧ b1 = false | none => b1 = true) : Far L (cs ++ [x]) at1 b1 := by
  have hne : ¬ (L.drop p).length = 0 := by rw [List.length_drop]; omega
  cases hr : rdC (L.drop p) with
  | none =>
    rw [hr] at h
    refine .inr ⟨?_, .inl h⟩
    rw [hd]
    cases k with
    | zero => rw [decC, if_neg hne]; rfl
    | succ k => rw [decC, if_neg hne, hr]; rfl
  | some yn =>
    obtain ⟨y, n⟩ := yn
    rw [hr] at h
    obtain ⟨rfl, rfl, rfl⟩ := h
    obtain ⟨g1, g2, _, _⟩ := rdC_good hr
    rw [List.length_drop] at g2
    cases k with
    | zero =>
      refine .inr ⟨?_, .inr (by simp; omega)⟩
      rw [hd, decC, if_neg hne]; rfl
    | succ k =>
      refine .inl ⟨rfl, by omega, k, by simp; omega, ?_⟩
      rw [hd, decC, if_neg hne, hr]
      simp [Option.map_map, Function.comp_def, List.drop_drop]
set_option maxRecDepth 20000 in
set_option maxHeartbeats 4000000 in
theorem rdec_any (A : Option Addr) (c : Nat) (l : List Int) (w : World) (hC : Kd.C (Kd.int .u8) w A l.length l) (hc : l.length ≤ c) (hB : By l) (hl : l.length ≤ 140737488355328) :
    Calls Try.prog 37 #[.slice A l.length c] w (EPost w (rdD l)) := by
  obtain ⟨PP, hPP⟩ : ∃ PP, EPost w (rdD l) = PP := ⟨_, rfl⟩
  rw [hPP]
  have HPP := Lib.hid hPP
  clear hPP
  have HC := Lib.hid hC
  have HBy := Lib.hid hB
  by_cases h4 : l.length < 4
  · have b0 : decide ((l.length : Int) < 4) = true := by simp; omega
    have b1 : decide (l.length < 4) = true := by simp; omega
    have hr : rdD l = none := by rw [rdD, if_pos (.inl h4)]
    rw [hr] at HPP
    clear hC hB hr
    go_enter Try.func37, Try.ntmps37
    go_wp2_with fail
    rw [← HPP.out]
    exact ⟨Below.refl _ _, rfl⟩
  · have b0 : decide ((l.length : Int) < 4) = false := by simp; omega
    have b1 : decide (l.length < 4) = false := by simp; omega
    have hcut4 := fun W => cutTo A l.length c 4 (by omega) (by omega) hc W
    have hstr : ∀ W, Below w.heap.size w W → (convert 45 9 (.slice A 4 c)).run Try.prog W = .ok (.string (strOfNums (l.take 4))) W := fun W h => take_str hC h 4 (by omega)
    have hstr := hstr w (Below.refl _ _)
    have hcmp := str_cmt (l.take 4) (hB.take 4)
    by_cases h5 : l.take 4 = [67, 77, 84, 49]
    · have hs4 : strOfNums (l.take 4) = { data := #[67, 77, 84, 49] } := by rw [h5]; rfl
      rw [hs4] at hstr
      clear hcmp hs4
      have hr : rdD l = decC 4096 (l.drop 4) := by rw [rdD, if_neg (by intro h; rcases h with h | h; exact h4 h; exact h h5)]
      rw [hr] at HPP
      have HI := Lib.hid (IsS127.new w w A c l 4 false (Below.refl _ _) hC hc)
      have HBL : Hid (Below w.heap.size w (w.alloc (.cells #[.slice A l.length c, .int .i64 4, .bool false] 127))) := Lib.hid ((Below.refl _ _).alloc (Nat.le_refl _) _)
      have H4 := Lib.hid h4
      clear hC hB hr h5 h4 HC
      go_enter Try.func37, Try.ntmps37
      go_upto_region 4 with fail
      obtain ⟨g, hg⟩ : ∃ g, w.heap.size = g := ⟨_, rfl⟩
      rw [hg] at HI ⊢
      have hgw : w.heap.size ≤ g := by omega
      clear hcut4 hstr b0 b1
      generalize w.alloc (.cells #[.slice A l.length c, .int .i64 4, .bool false] 127) = W1 at HI HBL ⊢
      clear hg
      go_wp2_with fail
      go_loopw [5] (fun u wr => ∃ (cs : List Cl) (p : Nat) (bad : Bool), Hid (Far l cs p bad) ∧ Hid (cs.length ≤ 4097) ∧ Hid (IsS127 w wr g l p bad) ∧ Hid (Kd.R kCl 128 wr w.heap.size (fun _ => True) u cs) ∧ Hid (Below w.heap.size w wr)) (fun u _ => 4097 - lenV u)
      case atStart => exact ⟨[], 4, false, Lib.hid (.inl ⟨rfl, by have := H4.out; omega, 4096, rfl, by simp⟩), Lib.hid (by simp), HI, Lib.hid (Kd.R_nil _ _ _ _ _), HBL⟩
      case round =>
        obtain ⟨cs, p, bad, HF, HL, HIp, HO, HBw⟩ := hrel
        obtain ⟨Au, cu, rfl⟩ := Kd.R_slice HO.out
        obtain ⟨Az, cz, z0, z1, zf1, z2, zf2, zC, zl⟩ := rt_cells HIp.out
        clear HI HBL zC zl zf1 zf2 z0
        have hfar := HF.out
        rcases hfar with ⟨hbad, hp, k, hk, hd⟩ | ⟨hd, hx⟩
        · subst hbad
          have b2 : decide ((cs.length : Int) ≤ 4096) = true := decide_eq_true (by omega)
          have b3 : decide ((4096 : Int) < (cs.length : Int)) = false := decide_eq_false (by omega)
          have b2n : decide (cs.length ≤ 4096) = true := decide_eq_true (by omega)
          have b3n : decide (4096 < cs.length) = false := decide_eq_false (by omega)
          by_cases hlt : p < l.length
          · have b1 : decide ((p : Int) < (l.length : Int)) = true := decide_eq_true (by omega)
            have b1n : decide (p < l.length) = true := decide_eq_true hlt
            have HX := Lib.hid (rcall_any HIp.out HBw.out HBy.out hl hlt)
            have HFS : Hid (∀ (x : Cl) (at1 : Nat) (b1 : Bool), (match rdC (l.drop p) with | some (y, n) => x = y ∧ at1 = p + n ∧ b1 = false | none => b1 = true) → Far l (cs ++ [x]) at1 b1) := Lib.hid (fun x at1 b1 h => Far.step hlt hk hd h)
            have HK : Hid (cs.length + 1 ≤ 4097) := Lib.hid (by omega)
            clear hd hk hp hlt
            go_wp2_with fail
            refine HX.out.mono ?_
            rintro e w1 ⟨x, Ax, cx, at1, bad1, he, hX, hR1, hm⟩
            have he : e = .returned (.agg #[.int .i64 x.k, .string x.s, .int .i64 x.t, .slice Ax x.p.length cx, .int .i64 x.r]) := he
            subst he
            have HF2 := Lib.hid (HFS.out x at1 bad1 hm)
            have hq0 : ∀ k, (Value.slice Au cs.length cu).ownBlock = some k → k < wr.heap.size := fun k hk => own_lt (Kd.R_own HO.out).choose_spec k hk
            have hOg := HIp.out.apart HO.out (by decide)
            have hO1 : Kd.R kCl 128 w1 w.heap.size (fun _ => True) (.slice Au cs.length cu) cs := Kd.R_mono (Kd.R_keep hOg hR1.2.2 (fun k hk => hk.2)) (fun _ _ => trivial)
            have hX1 := Kd.R_lower (Kd.R_mono (Kd.R_bound hX) (ok' := fun k => wr.heap.size ≤ k) (fun k hk => hk.2.1)) HBw.out.size
            have hI1 := hR1.1
            have hB1 := hR1.2.1
            have HQ0 := Lib.hid hq0
            have HO1 := Lib.hid hO1
            have HX1 := Lib.hid hX1
            have HI1 := Lib.hid hI1
            have HB1 := Lib.hid hB1
            obtain ⟨q0, hq⟩ : ∃ q0, wr.heap.size = q0 := ⟨_, rfl⟩
            rw [hq] at HQ0 HX1
            clear hX hR1 hm hq0 hOg hO1 hX1 hI1 hB1 HX HFS hq z1 z2
            go_wp2_with (first | ((with_reducible refine gate_builtin (b := .append) (xs := #[.tmp 37, .tmp 40]) rfl ?_); at_builtin; refine hold_it ?_) | fail)
            refine _root_.id ?_
            refine Kd.R_append kCl (w0 := w) w.heap.size rfl (.tmp 37) (.tmp 40) 86 128 zCall 64 rfl Try.underlying86 info128 rfl (by decide) (by omega) (.slice Au cs.length cu) cs x [.int .i64 x.k, .string x.s, .int .i64 x.t, .slice Ax x.p.length cx, .int .i64 x.r] (fun _ => True) (fun k => q0 ≤ k) rfl rfl (kCl_mkM HX1.out) (fun k hk => ⟨trivial, fun e => by have := HQ0.out k e.symm; omega⟩) (fun _ _ => trivial) HO1.out HB1.out HB1.out.size (by have := HK.out; omega) ?_
            intro va wa hRa hba hga hata
            have HIa := Lib.hid (HI1.out.grown hga (HI1.out.own_ne HO1.out (by decide)))
            have HRa := Lib.hid hRa
            have HBa := Lib.hid hba
            obtain ⟨Aa, ca, rfl⟩ := Kd.R_slice hRa
            clear hRa hba hga hata
            go_wp2_with fail
            go_roundw
            case rel => exact ⟨cs ++ [x], at1, bad1, HF2, Lib.hid (by have := HK.out; simp; omega), HIa, by first | exact HRa | (have h := HRa; rwa [List.length_append, List.length_singleton] at h), HBa⟩
            case measure =>
              simp [lenV]
              have := HK.out
              omega
          · have b1 : decide ((p : Int) < (l.length : Int)) = false := decide_eq_false (by omega)
            have b1n : decide (p < l.length) = false := decide_eq_false hlt
            have hr : decC 4096 (l.drop 4) = some cs := by
              rw [hd, decC_nil _ _ (by rw [List.length_drop]; omega)]
              simp
            rw [hr] at HPP
            clear hr hd hk hp hlt
            go_wp2_with fail
            rw [← HPP.out]
            exact ⟨HBw.out, Au, cu, rfl, HO.out⟩
        · rw [hd] at HPP
          have stop : ∀ (K : Prop), K → K := fun _ h => h
          by_cases hbd : bad = true
          · subst hbd
            clear hd hx stop
            by_cases hlt : p < l.length
            · have b1 : decide ((p : Int) < (l.length : Int)) = true := decide_eq_true (by omega)
              have b1n : decide (p < l.length) = true := decide_eq_true hlt
              go_wp2_with fail
              rw [← HPP.out]
              exact ⟨HBw.out, rfl⟩
            · have b1 : decide ((p : Int) < (l.length : Int)) = false := decide_eq_false (by omega)
              have b1n : decide (p < l.length) = false := decide_eq_false hlt
              go_wp2_with fail
              rw [← HPP.out]
              exact ⟨HBw.out, rfl⟩
          · have hbd : bad = false := by simpa using hbd
            subst hbd
            have hcs : cs.length = 4097 := by simpa using hx
            have b2 : decide ((cs.length : Int) ≤ 4096) = false := decide_eq_false (by omega)
            have b3 : decide ((4096 : Int) < (cs.length : Int)) = true := decide_eq_true (by omega)
            have b2n : decide (cs.length ≤ 4096) = false := decide_eq_false (by omega)
            have b3n : decide (4096 < cs.length) = true := decide_eq_true (by omega)
            clear hd hx stop hcs
            by_cases hlt : p < l.length
            · have b1 : decide ((p : Int) < (l.length : Int)) = true := decide_eq_true (by omega)
              have b1n : decide (p < l.length) = true := decide_eq_true hlt
              go_wp2_with fail
              rw [← HPP.out]
              exact ⟨HBw.out, rfl⟩
            · have b1 : decide ((p : Int) < (l.length : Int)) = false := decide_eq_false (by omega)
              have b1n : decide (p < l.length) = false := decide_eq_false hlt
              go_wp2_with fail
              rw [← HPP.out]
              exact ⟨HBw.out, rfl⟩
    · rw [decide_eq_false h5] at hcmp
      generalize strOfNums (l.take 4) = s4 at hstr hcmp
      have hr : rdD l = none := by rw [rdD, if_pos (.inr h5)]
      rw [hr] at HPP
      clear hC hB hr
      go_enter Try.func37, Try.ntmps37
      go_wp2_with fail
      rw [← HPP.out]
      exact ⟨Below.refl _ _, rfl⟩
end Go.Proofs.Ytlbfnnngemonoaa.Wir
