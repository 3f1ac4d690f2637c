/- explore.Way: what it answers. -/
import Derived.Test.YtfflfhkbnmoalaaWayFn
import Derived.Laws.EntriesVeiled
import Derived.Deep.QuietTactic
import Derived.BigQuiet
namespace Go.Proofs.Ytfflfhkbnmoalaa.Way
open Go.RowKit Go.Proofs.Ytfflfhkbnmoalaa.Pol Go.Proofs.Ytfflfhkbnmoalaa.PExploreWays
open Go.Proofs.YtfflfhkbnmoalaaW.PrintWords Go.Proofs.YtfflfhkbnmoalaaW.PrintLast Go.Proofs.YtfflfhkbnmoalaaW.PrintMore
set_option linter.unusedSimpArgs false
set_option linter.unusedVariables false
@[local go_sem] theorem run_makeFunc' (P : Program) (fn : Fn) (first cap : Array Value) (w : World) : (Instr.makeFunc fn first cap).run P w = .ok (.func fn first cap) w := rfl
@[local go_sem] theorem events_makeFunc' (P : Program) (fn : Fn) (first cap : Array Value) (w : World) (es : Array Event) : (Instr.makeFunc fn first cap).events P w es = es := rfl


/-- The blocks that Way makes first: its report and the closure over it. -/
theorem top_below (w : World) (o1 o2 : Obj) : Below w.heap.size w ((w.alloc o1).alloc o2) := ((Below.refl _ _).alloc (Nat.le_refl _) _).alloc (by simp) _
theorem top_one (w : World) (t1 : TypeId) (c1 : Array Value) (o2 : Obj) : Blk ((w.alloc (.cells c1 t1)).alloc o2) w.heap.size t1 c1 := (Blk.new w _ _).alloc _
theorem top_two (w : World) (o1 : Obj) (t2 : TypeId) (c2 : Array Value) : Blk ((w.alloc o1).alloc (.cells c2 t2)) (w.heap.size + 1) t2 c2 := by
  have := Blk.new (w.alloc o1) t2 c2
  simpa using this

set_option maxRecDepth 20000 in
set_option maxHeartbeats 2000000 in
/-- A number of states or a state that may not be. -/
theorem way_arg (a s : Int) (g c : Nat) (l : List S56) (A2 A3 : Option Addr) (n2 c2 n3 c3 : Nat) (w : World) (hbad : ¬ (1 ≤ a ∧ a ≤ 4096 ∧ 0 ≤ s ∧ s < a)) :
    Calls Try.prog 16 #[.agg #[.int .i64 a, .slice (some ⟨g, 0, none⟩) l.length c, .slice A2 n2 c2, .slice A3 n3 c3], .int .i64 s] w fun e w' => e = .returned (.tuple #[.slice none 0 0, .int .i64 2]) ∧ Below w.heap.size w w' := by
  have hu := Try.underlying53
  by_cases h1 : a < 1
  · have b1 : decide (a < 1) = true := by simpa using h1
    clear hbad h1
    go_enter Try.func16, Try.ntmps16
    go_wp2_with fail
    go_ret2
    exact ⟨rfl, top_below _ _ _⟩
  · have b1 : decide (a < 1) = false := by simpa using h1
    by_cases h2 : a > 4096
    · have b2 : decide (a > 4096) = true := by simpa using h2
      clear hbad h1 h2
      go_enter Try.func16, Try.ntmps16
      go_wp2_with fail
      go_ret2
      exact ⟨rfl, top_below _ _ _⟩
    · have b2 : decide (a > 4096) = false := by simp; omega
      have hb3 : decide (0 ≤ s ∧ s < a) = false := by simp; omega
      have B3 := Lib.hid hb3
      clear hbad h1 h2 hb3
      go_enter Try.func16, Try.ntmps16
      go_wp2_with fail
      have hb := top_below w (.cells #[.int .i64 a, .slice (some ⟨g, 0, none⟩) l.length c, .slice A2 n2 c2, .slice A3 n3 c3] 53) (.cells #[.func (.func 28) #[] #[.pointer (some ⟨w.heap.size, 0, none⟩)]] 95)
      have h1 := top_one w 53 #[.int .i64 a, .slice (some ⟨g, 0, none⟩) l.length c, .slice A2 n2 c2, .slice A3 n3 c3] (.cells #[.func (.func 28) #[] #[.pointer (some ⟨w.heap.size, 0, none⟩)]] 95)
      generalize (w.alloc (.cells #[.int .i64 a, .slice (some ⟨g, 0, none⟩) l.length c, .slice A2 n2 c2, .slice A3 n3 c3] 53)).alloc (.cells #[.func (.func 28) #[] #[.pointer (some ⟨w.heap.size, 0, none⟩)]] 95) = w1 at hb h1 ⊢
      have hc := h1.cell 0
      simp at hc
      refine (in_any _ a s _ hc).mono ?_
      rintro e w2 ⟨rfl, hb2⟩
      rw [B3.out]
      go_wp2_with fail
      go_ret2
      exact ⟨rfl, hb.trans (hb2.mono hb.size)⟩

theorem all_val (n : Nat) (m : List S55) : (m.map conv).all (good n) = true ↔ Val n m := by
  rw [List.all_eq_true]
  constructor
  · intro h x hx
    have := h (conv x) (List.mem_map_of_mem hx)
    rw [good, Bool.and_eq_true] at this
    exact ⟨of_decide_eq_true this.1, of_decide_eq_true this.2⟩
  · intro h x hx
    obtain ⟨y, hy, rfl⟩ := List.mem_map.1 hx
    have := h y hy
    rw [good, Bool.and_eq_true]
    exact ⟨decide_eq_true this.1, decide_eq_true this.2⟩

set_option maxRecDepth 20000 in
set_option maxHeartbeats 4000000 in
/-- A step that leads from or to no state. -/
theorem way_off (n : Nat) (s : Int) (g c : Nat) (l : List S56) (A2 A3 : Option Addr) (n2 c2 n3 c3 : Nat) (w : World) (h1 : 1 ≤ n) (h2 : n ≤ 4096) (h3 : 0 ≤ s ∧ s < (n : Int)) (hl : l.length ≤ 65536)
    (hC : Kd.C k56 w (some ⟨g, 0, none⟩) l.length l) (hbad : l.all (good n) = false) :
    Calls Try.prog 16 #[.agg #[.int .i64 n, .slice (some ⟨g, 0, none⟩) l.length c, .slice A2 n2 c2, .slice A3 n3 c3], .int .i64 s] w fun e w' => e = .returned (.tuple #[.slice none 0 0, .int .i64 2]) ∧ Below w.heap.size w w' := by
  have hu := Try.underlying53
  have HC := Lib.hid hC
  have HB := Lib.hid hbad
  have b1 : decide ((n : Int) < 1) = false := by simp; omega
  have b2 : decide ((n : Int) > 4096) = false := by simp; omega
  have B3 := Lib.hid (decide_eq_true h3)
  have b4 : decide ((l.length : Int) > 65536) = false := by simp; omega
  clear hC hbad h3
  go_enter Try.func16, Try.ntmps16
  go_wp2_with fail
  have hb := top_below w (.cells #[.int .i64 n, .slice (some ⟨g, 0, none⟩) l.length c, .slice A2 n2 c2, .slice A3 n3 c3] 53) (.cells #[.func (.func 28) #[] #[.pointer (some ⟨w.heap.size, 0, none⟩)]] 95)
  have hB1 := top_one w 53 #[.int .i64 n, .slice (some ⟨g, 0, none⟩) l.length c, .slice A2 n2 c2, .slice A3 n3 c3] (.cells #[.func (.func 28) #[] #[.pointer (some ⟨w.heap.size, 0, none⟩)]] 95)
  have hB2 := top_two w (.cells #[.int .i64 n, .slice (some ⟨g, 0, none⟩) l.length c, .slice A2 n2 c2, .slice A3 n3 c3] 53) 95 #[.func (.func 28) #[] #[.pointer (some ⟨w.heap.size, 0, none⟩)]]
  generalize (w.alloc (.cells #[.int .i64 n, .slice (some ⟨g, 0, none⟩) l.length c, .slice A2 n2 c2, .slice A3 n3 c3] 53)).alloc (.cells #[.func (.func 28) #[] #[.pointer (some ⟨w.heap.size, 0, none⟩)]] 95) = w1 at hb hB1 hB2 ⊢
  have hc0 := hB1.cell 0
  simp at hc0
  refine (in_any _ n s _ hc0).mono ?_
  rintro e w2 ⟨rfl, hb2⟩
  rw [B3.out]
  have hbb := hb.trans (hb2.mono hb.size)
  have hB1' := hB1.below hb2 hB1.lt
  have hB2' := hB2.below hb2 hB2.lt
  have hc0 := hB1'.cell 0
  have hc1 := hB1'.cell 1
  have hc2 := hB2'.cell 0
  simp at hc0 hc1 hc2
  clear hB1 hB2 hb hb2 hB1' hB2'
  go_wp2_with fail
  refine (contains_any g _ _ n c l _ hl (Kd.C_below HC.out hbb) hc2 hc0).mono ?_
  rintro e w3 ⟨rfl, hb3⟩
  rw [HB.out]
  go_wp2_with fail
  go_ret2
  exact ⟨rfl, hbb.trans (hb3.mono hbb.size)⟩

/-- The step at place j leads from v nearer. -/
def hit (far : List Int) (l : List S56) (v : Int) (j : Nat) : Prop := (l.getD j z56).f0 = v ∧ 0 ≤ rd far (l.getD j z56).f3 ∧ rd far (l.getD j z56).f3 = rd far v - 1
/-- Of each state its first step among k that leads nearer, counted from 1. -/
def FS (n : Nat) (far : List Int) (l : List S56) (F : List Int) (k : Nat) : Prop := F.length = n ∧ ∀ v : Int, 0 ≤ v → v < n →
  (rd F v = 0 ∧ ∀ j, j < k → ¬ hit far l v j) ∨ (∃ j, j < k ∧ rd F v = (j : Int) + 1 ∧ hit far l v j ∧ ∀ i, i < j → ¬ hit far l v i)
theorem FS.start (n : Nat) (far : List Int) (l : List S56) : FS n far l (List.replicate n 0) 0 := ⟨by simp, fun v h0 h1 => .inl ⟨by
  simp only [rd, List.getD_eq_getElem?_getD, List.getElem?_replicate]
  rw [if_pos (by omega)]
  rfl, fun j hj => by omega⟩⟩
theorem FS.set {n : Nat} {far : List Int} {l : List S56} {F : List Int} {k : Nat} (h : FS n far l F k) {v : Int} (h0 : 0 ≤ v) (h1 : v < n) (hh : hit far l v k) (hz : rd F v = 0) : FS n far l (F.set v.toNat ((k : Int) + 1)) (k + 1) := by
  have hl := h.1
  refine ⟨by simpa using h.1, fun u hu0 hu1 => ?_⟩
  rw [rd_set _ _ _ _ h0 hu0 (by omega)]
  by_cases e : u = v
  · subst e
    rw [if_pos rfl]
    rcases h.2 u h0 h1 with ⟨_, a⟩ | ⟨j, _, a, _⟩
    · exact .inr ⟨k, by omega, rfl, hh, a⟩
    · omega
  · rw [if_neg e]
    rcases h.2 u hu0 hu1 with ⟨a, b⟩ | ⟨j, hj, a, b, c⟩
    · refine .inl ⟨a, fun j hj => ?_⟩
      by_cases ej : j = k
      · subst ej
        intro hc
        exact e (hc.1.symm.trans hh.1)
      · exact b j (by omega)
    · exact .inr ⟨j, by omega, a, b, c⟩
theorem FS.skip {n : Nat} {far : List Int} {l : List S56} {F : List Int} {k : Nat} (h : FS n far l F k) {v : Int} (hv : (l.getD k z56).f0 = v) (hn : rd F v ≠ 0 ∨ ¬ hit far l v k) : FS n far l F (k + 1) := by
  refine ⟨h.1, fun u hu0 hu1 => ?_⟩
  rcases h.2 u hu0 hu1 with ⟨a, b⟩ | ⟨j, hj, a, b, c⟩
  · refine .inl ⟨a, fun j hj => ?_⟩
    by_cases ej : j = k
    · subst ej
      intro hc
      have : u = v := hc.1.symm.trans hv
      subst this
      rcases hn with hn | hn
      · exact hn a
      · exact hn hc
    · exact b j (by omega)
  · exact .inr ⟨j, by omega, a, b, c⟩
theorem chg_none {w w' : World} (h : w.grownBy w' none) : Chg [] w w' := ⟨h.os, h.tape, h.output, h.size, fun k hk _ => h.block k hk (by simp)⟩

theorem path_step {n : Nat} {m : List S55} {s : Int} {far : List Int} {l : List S56} (D : Dist n m s far) (hm : l = m.map conv) {f : Nat} {at_ : Int} (h : rd far at_ = (f : Int) + 1) {j : Nat} (hj : j < m.length) (hh : hit far l at_ j) (hno : ∀ i, i < j → ¬ hit far l at_ i) :
    path m far (f + 1) at_ = m[j] :: path m far f m[j].f3 := by
  have hl : ∀ i (hi : i < m.length), l.getD i z56 = conv m[i] := fun i hi => by rw [hm]; simp [List.getD, hi]
  have e : m.find? (fun x => decide (x.f0 = at_ ∧ In far f x.f3)) = some m[j] := by
    rw [List.find?_eq_some_iff_getElem]
    unfold hit at hh
    rw [hl j hj] at hh
    have h0 : m[j].f0 = at_ := hh.1
    have h1 : 0 ≤ rd far m[j].f3 := hh.2.1
    have h2 : rd far m[j].f3 = rd far at_ - 1 := hh.2.2
    refine ⟨decide_eq_true ⟨h0, h1, by omega⟩, j, hj, rfl, fun i hi => ?_⟩
    have hn := hno i hi
    unfold hit at hn
    rw [hl i (by omega)] at hn
    simp only [Bool.not_eq_true', decide_eq_false_iff_not]
    intro hc
    have hed := D.edge m[i] (List.getElem_mem _) hc.2.1
    refine hn ⟨hc.1, hc.2.1, ?_⟩
    show rd far m[i].f3 = rd far at_ - 1
    have := hc.2.2
    rw [hc.1] at hed
    omega
  rw [path, e]
/-- Behind the loop every state that is not the last has its step. -/
theorem FS.get {n : Nat} {m : List S55} {s : Int} {far F : List Int} {l : List S56} (D : Dist n m s far) (hm : l = m.map conv) (h : FS n far l F l.length) {at_ : Int} (h0 : 0 ≤ at_) (h1 : at_ < n) {f : Nat} (hf : rd far at_ = (f : Int) + 1) :
    ∃ j, j < m.length ∧ rd F at_ = (j : Int) + 1 ∧ hit far l at_ j ∧ ∀ i, i < j → ¬ hit far l at_ i := by
  have hll : l.length = m.length := by rw [hm, List.length_map]
  rcases h.2 at_ h0 h1 with ⟨_, b⟩ | ⟨j, hj, a, b, c⟩
  · obtain ⟨x, hx, hx0, hx3⟩ := D.down at_ h0 h1 (by omega)
    obtain ⟨j, hj, rfl⟩ := List.getElem_of_mem hx
    refine absurd ?_ (b j (by omega))
    have e : l.getD j z56 = conv m[j] := by rw [hm]; simp [List.getD, hj]
    unfold hit
    rw [e]
    exact ⟨hx0, by show 0 ≤ rd far m[j].f3; omega, hx3⟩
  · exact ⟨j, by omega, a, b, c⟩

def T20 : Bool × List (List Nat × List Nat) := (true, [([], []), ([], []), ([1], [1]), ([], []), ([], []), ([3, 4], [3, 4]), ([5], [5]), ([6], [6]), ([2, 7], [2, 7]), ([8], [8]), ([9], [9]), ([0, 10], [0, 10]), ([11, 11, 0, 1, 2, 3, 4, 5, 6, 7, 8, 9, 10, 11], [0, 11])])
def B20 : List Nat := [0, 0, 2, 0, 0, 24, 56, 120, 254, 510, 1022, 2047, 4095]
theorem tab20 : rtab .any (opsOf Try.f16 20) = T20 := by kernel_rfl
theorem bits20 : waitsOk T20.2 B20 = true := by kernel_rfl
theorem info56 : (Try.prog.info? 56).map (fun i => (i.zero, i.size, i.bytes)) = some (some (.agg #[(.int .i64 0), (.int .i64 0), (.int .i64 0), (.int .i64 0)]), 4, 32) := by kernel_rfl

set_option maxRecDepth 20000 in
set_option maxHeartbeats 4000000 in
/-- All steps are good. -/
theorem way_ok0 (n : Nat) (s : Int) (g c : Nat) (l : List S56) (m : List S55) (hm : l = m.map conv) (q2 q3 : List Int) (A2 A3 : Option Addr) (c2 c3 : Nat) (w : World) (h1 : 1 ≤ n) (h2 : n ≤ 4096) (h3 : 0 ≤ s ∧ s < (n : Int)) (hl : l.length ≤ 65536)
    (hC : Kd.C k56 w (some ⟨g, 0, none⟩) l.length l) (hcc : l.length ≤ c) (hq2 : Kd.C (Kd.int .i64) w A2 q2.length q2) (hl2 : q2.length ≤ c2) (hq3 : Kd.C (Kd.int .i64) w A3 q3.length q3) (hl3 : q3.length ≤ c3) (hV : Val n m) :
    ∃ far, Dist n m s far ∧ Calls Try.prog 16 #[.agg #[.int .i64 n, .slice (some ⟨g, 0, none⟩) l.length c, .slice A2 q2.length c2, .slice A3 q3.length c3], .int .i64 s] w fun e w' => ∃ v0, e = .returned (.tuple #[v0, .int .i64 (if 0 ≤ rd far 0 then 0 else 230)]) ∧
      Kd.R k56 56 w' w.heap.size (fun _ => True) v0 (if 0 ≤ rd far 0 then (path m far (rd far 0).toNat 0).map conv else []) ∧ Below w.heap.size w w' := by
  have hu := Try.underlying53
  have HC := Lib.hid hC
  have HV := Lib.hid hV
  have HB := Lib.hid (show l.all (good n) = true by rw [hm]; exact (all_val n m).2 hV)
  have HQ2 := Lib.hid hq2
  have HQ3 := Lib.hid hq3
  obtain ⟨kl, far, hleft, hD⟩ := left_ok (l2 := q2) (l3 := q3) h2 (by have := hl; rw [hm, List.length_map] at this; exact this) hV h3
  rw [← hm] at hleft
  have HM := Lib.hid hm
  have HL := Lib.hid hleft
  have HD := Lib.hid hD
  have b1 : decide ((n : Int) < 1) = false := by simp; omega
  have b2 : decide ((n : Int) > 4096) = false := by simp; omega
  have B3 := Lib.hid (decide_eq_true h3)
  have h3' := Lib.hid h3
  have b4 : decide ((l.length : Int) > 65536) = false := by simp; omega
  clear hC hV h3 hq2 hq3 hleft hD hm
  refine ⟨far, HD.out, ?_⟩
  generalize hcode : (if 0 ≤ rd far 0 then (0 : Int) else 230) = code
  generalize hrows : (if 0 ≤ rd far 0 then (path m far (rd far 0).toNat 0).map conv else []) = rows
  have HCode := Lib.hid hcode
  have HRows := Lib.hid hrows
  clear hcode hrows
  have hu56 := Try.underlying56
  go_enter Try.func16, Try.ntmps16
  go_wp2_with fail
  have hb := top_below w (.cells #[.int .i64 n, .slice (some ⟨g, 0, none⟩) l.length c, .slice A2 q2.length c2, .slice A3 q3.length c3] 53) (.cells #[.func (.func 28) #[] #[.pointer (some ⟨w.heap.size, 0, none⟩)]] 95)
  have hB1 := top_one w 53 #[.int .i64 n, .slice (some ⟨g, 0, none⟩) l.length c, .slice A2 q2.length c2, .slice A3 q3.length c3] (.cells #[.func (.func 28) #[] #[.pointer (some ⟨w.heap.size, 0, none⟩)]] 95)
  have hB2 := top_two w (.cells #[.int .i64 n, .slice (some ⟨g, 0, none⟩) l.length c, .slice A2 q2.length c2, .slice A3 q3.length c3] 53) 95 #[.func (.func 28) #[] #[.pointer (some ⟨w.heap.size, 0, none⟩)]]
  generalize (w.alloc (.cells #[.int .i64 n, .slice (some ⟨g, 0, none⟩) l.length c, .slice A2 q2.length c2, .slice A3 q3.length c3] 53)).alloc (.cells #[.func (.func 28) #[] #[.pointer (some ⟨w.heap.size, 0, none⟩)]] 95) = w1 at hb hB1 hB2 ⊢
  have hc0 := hB1.cell 0
  simp at hc0
  refine (in_any _ n s _ hc0).mono ?_
  rintro e w2 ⟨rfl, hb2⟩
  rw [B3.out]
  have hbb := hb.trans (hb2.mono hb.size)
  have hB1' := hB1.below hb2 hB1.lt
  have hB2' := hB2.below hb2 hB2.lt
  have hc0 := hB1'.cell 0
  have hc1 := hB1'.cell 1
  have hc2 := hB2'.cell 0
  simp at hc0 hc1 hc2
  clear hB1 hB2 hb hb2 hB2'
  go_wp2_with fail
  refine (contains_any g _ _ n c l _ hl (Kd.C_below HC.out hbb) hc2 hc0).mono ?_
  rintro e w3 ⟨rfl, hb3⟩
  rw [HB.out]
  have hB3 := hB1'.below hb3 hB1'.lt
  have hb3' := hbb.trans (hb3.mono hbb.size)
  have hd0 := hB3.cell 0
  have hd1 := hB3.cell 1
  have hd2 := hB3.cell 2
  have hd3 := hB3.cell 3
  simp at hd0 hd1 hd2 hd3
  clear hc0 hc1 hc2 hbb hB1' hb3
  go_wp2_with fail
  refine (explore_left.calls kl n (some ⟨g, 0, none⟩) c l A2 c2 q2 A3 c3 q3 s far _ (Kd.C_below HC.out hb3') hcc (Kd.C_below HQ2.out hb3') hl2 (Kd.C_below HQ3.out hb3') hl3 HL.out).mono ?_
  rintro e w4 ⟨v, rfl, hR, hb4⟩
  obtain ⟨go, co, rfl, hgo, hgl, _⟩ := Kd.R_form hR (by rw [HD.out.len]; omega)
  have HR := Lib.hid hR
  have hx0 := (Kd.R_celln 0 hR (0 : Int) (by omega) (by rw [HD.out.len]; omega)).1
  have hb4' := hb3'.trans (hb4.mono hb3'.size)
  have hB4 := hB3.below hb4 hB3.lt
  have hd0 := hB4.cell 0
  have hd1 := hB4.cell 1
  simp at hd0 hd1
  rw [Int.toNat_zero] at hx0
  replace hx0 : w4.cell? ⟨go, 0, none⟩ = some (.int .i64 (rd far 0)) := hx0
  have hlen := HD.out.len
  rw [hlen]
  clear hR hd2 hd3 hb3' hB3 hb4
  by_cases hneg : 0 ≤ rd far 0
  · have bn : decide (rd far 0 < 0) = false := by simp; omega
    have HN := Lib.hid hneg
    clear hneg
    go_wp2_with (first | ((with_reducible refine gate_dst (N := 49) rfl ?_); refine Kd.R_make (Kd.int .i64) (w0 := w) w.heap.size 3 rfl (N := 49) rfl 36 _ _ rfl (n : Int) rfl rfl Try.underlying36 (.int .i64 0) 8 info3 rfl (by decide) (by omega) 0 (ok := fun _ => True) (okp := fun _ => True) rfl (fun _ hk => hk) trivial (by omega) (by omega) hb4' hb4'.size ?_; intro v5 w5 ho5 hb5 hg5 hn5; obtain ⟨gf, cf, rfl, hgf, hgfl, _⟩ := Kd.R_form ho5 (by simp; omega); have hC5 := chg_none hg5; have hB5 := hB4.chg hC5 (by simp); have he0 := hB5.cell 0; have he1 := hB5.cell 1; simp at he0 he1; rw [List.length_replicate, Int.toNat_natCast]))
    have hgf2 : w4.heap.size ≤ gf := by
      obtain ⟨b, hb, hle⟩ := hn5
      have : gf = b := by simpa [Value.ownBlock] using hb
      omega
    have hne : go ≠ gf := by omega
    have hbox : w.heap.size ≠ gf := by have := hB4.lt; omega
    have hfar5 : ∀ i : Int, 0 ≤ i → i < n → w5.cell? ⟨go, i.toNat, none⟩ = some (.int .i64 (rd far i)) := fun i h0 h1 =>
      (World.cell?_of_block (hC5.block go hgl (by simp))).trans (Kd.R_celln 0 HR.out i h0 (by rw [HD.out.len]; exact h1)).1
    have HF5 := Lib.hid hfar5
    have HO5 : Hid (Kd.R (Kd.int .i64) 3 w5 w.heap.size (fun _ => True) (.slice (some ⟨gf, 0, none⟩) n cf) (List.replicate n 0)) := Lib.hid (by rw [List.length_replicate, Int.toNat_natCast] at ho5; exact ho5)
    have hgl5 : go < w5.heap.size := Nat.lt_of_lt_of_le hgl hC5.size
    have hgs : g < w.heap.size ∨ l.length = 0 := by
      by_cases e : l.length = 0
      · exact .inr e
      · exact .inl (World.block_lt_of_cell? w _ (row_at HC.out 0 (by omega)).1)
    clear hfar5 ho5 hn5 hx0 hd0 hd1
    go_loopw [53] (fun i wr => ∃ k : Nat, k ≤ l.length ∧ i = .int .i64 k ∧ Chg [gf] w5 wr ∧ ∃ F, Hid (FS n far l F k) ∧ Hid (Kd.R (Kd.int .i64) 3 wr w.heap.size (fun _ => True) (.slice (some ⟨gf, 0, none⟩) n cf) F)) (fun i _ => l.length - (intOf i).toNat)
    case atStart => exact ⟨0, Nat.zero_le _, rfl, Chg.refl _ _, _, Lib.hid (FS.start n far l), HO5⟩
    case round =>
      obtain ⟨k, hk, rfl, hCr, F, HFS, HRF⟩ := hrel
      have hbr : Below w.heap.size w wr := hb5.trans (hCr.below hb5.size (by simpa using hgf))
      by_cases hlt : k < l.length
      · obtain ⟨x0, x1, x2, x3⟩ := row_at (Kd.C_below HC.out hbr) k hlt
        have hxv : (0 ≤ l[k].f0 ∧ l[k].f0 < (n : Int)) ∧ (0 ≤ l[k].f3 ∧ l[k].f3 < (n : Int)) := by
          have h0 := List.all_eq_true.1 HB.out l[k] (List.getElem_mem hlt)
          rw [good, Bool.and_eq_true] at h0
          exact ⟨of_decide_eq_true h0.1, of_decide_eq_true h0.2⟩
        have hf3 := (World.cell?_of_block (hCr.block go hgl5 (by simpa using hne))).trans (HF5.out l[k].f3 hxv.2.1 hxv.2.2)
        have hf0 := (World.cell?_of_block (hCr.block go hgl5 (by simpa using hne))).trans (HF5.out l[k].f0 hxv.1.1 hxv.1.2)
        obtain ⟨hF0, hFz⟩ := Kd.R_celln 0 HRF.out l[k].f0 hxv.1.1 hxv.1.2
        replace hF0 : wr.cell? ⟨gf, l[k].f0.toNat, none⟩ = some (.int .i64 (rd F l[k].f0)) := hF0
        have hgor : go < wr.heap.size := Nat.lt_of_lt_of_le hgl5 hCr.size
        have hgfr : gf < wr.heap.size := Nat.lt_of_lt_of_le hgfl hCr.size
        have hgr : g < wr.heap.size := World.block_lt_of_cell? wr _ x0
        have b0 : decide ((k : Int) < (l.length : Int)) = true := by simp; omega
        have hX := Lib.hid (rfl : l[k] = l[k])
        generalize hx : l[k] = x at x0 x1 x2 x3 hxv hf3 hf0 hF0 hFz
        have HX := Lib.hid hx
        clear hx hX
        have hxk : l.getD k z56 = x := by rw [← HX.out]; simp [List.getD, hlt]
        have HXK := Lib.hid hxk
        clear hxk
        go_wp2_with fail
        have hB6 := Blk.new wr 56 #[.int .i64 x.f0, .int .i64 x.f1, .int .i64 x.f2, .int .i64 x.f3]
        have hC6 : Chg [] wr (wr.alloc (.cells #[.int .i64 x.f0, .int .i64 x.f1, .int .i64 x.f2, .int .i64 x.f3] 56)) := (Chg.refl _ _).alloc _
        have HR6 : Hid (Kd.R (Kd.int .i64) 3 (wr.alloc (.cells #[.int .i64 x.f0, .int .i64 x.f1, .int .i64 x.f2, .int .i64 x.f3] 56)) w.heap.size (fun _ => True) (.slice (some ⟨gf, 0, none⟩) n cf) F) := Lib.hid (Kd.R_alloc HRF.out _)
        generalize wr.alloc (.cells #[.int .i64 x.f0, .int .i64 x.f1, .int .i64 x.f2, .int .i64 x.f3] 56) = w6 at hB6 hC6 HR6 ⊢
        replace hf3 := (World.cell?_of_block (hC6.block go hgor (by simp))).trans hf3
        replace hf0 := (World.cell?_of_block (hC6.block go hgor (by simp))).trans hf0
        replace hF0 := (World.cell?_of_block (hC6.block gf hgfr (by simp))).trans hF0
        have hFz6 : w6.frozen? ⟨gf, x.f0.toNat, none⟩ = false := (Kd.R_celln 0 HR6.out x.f0 hxv.1.1 hxv.1.2).2
        have y0 := hB6.cell 0
        have y3 := hB6.cell 3
        simp at y0 y3
        have p0 : 0 ≤ x.f0 := hxv.1.1
        have p1 : x.f0 < (n : Int) := hxv.1.2
        have p2 : 0 ≤ x.f3 := hxv.2.1
        have p3 : x.f3 < (n : Int) := hxv.2.2
        have hCC : Chg [gf] w5 w6 := hCr.trans (hC6.mono (by simp))
        clear hFz hB6 x0 x1 x2 x3
        by_cases cF : rd F x.f0 = 0
        · have bF : (rd F x.f0 == 0) = true := by simpa using cF
          by_cases c3 : 0 ≤ rd far x.f3
          · have b3 : decide (rd far x.f3 ≥ 0) = true := by simpa using c3
            have hm : x ∈ l := by rw [← HX.out]; exact List.getElem_mem hlt
            have hed : 0 ≤ rd far x.f0 ∧ rd far x.f0 ≤ rd far x.f3 + 1 := by
              rw [HM.out] at hm
              obtain ⟨y, hy, rfl⟩ := List.mem_map.1 hm
              exact HD.out.edge y hy c3
            have hbd := HD.out.bnd x.f0 p0 p1
            have hw : IntKind.i64.wrap (rd far x.f0 - 1) = rd far x.f0 - 1 := by
              rw [IntKind.wrap_i64]
              omega
            clear hed hbd hm
            by_cases ce : rd far x.f3 = rd far x.f0 - 1
            · have be : (rd far x.f3 == rd far x.f0 - 1) = true := by simpa using ce
              have hs := HFS.out.set p0 p1 (show hit far l x.f0 k from by unfold hit; rw [HXK.out]; exact ⟨rfl, c3, ce⟩) cF
              have HS := Lib.hid hs
              clear ce c3 cF hs
              go_quiet (fail)
              have hCC7 := hCC.drewN nq
              have HR7 : Hid (Kd.R (Kd.int .i64) 3 (w6.drewN nq) w.heap.size (fun _ => True) (.slice (some ⟨gf, 0, none⟩) n cf) F) := Lib.hid (Kd.R_drewN HR6.out nq)
              replace hF0 : (w6.drewN nq).cell? ⟨gf, x.f0.toNat, none⟩ = some (.int .i64 (rd F x.f0)) := hF0
              replace hFz6 : (w6.drewN nq).frozen? ⟨gf, x.f0.toNat, none⟩ = false := hFz6
              replace y0 : (w6.drewN nq).cell? ⟨wr.heap.size, 0, none⟩ = some (.int .i64 x.f0) := y0
              generalize w6.drewN nq = w7 at hCC7 HR7 hF0 hFz6 y0 ⊢
              go_wp2_with fail
              go_roundw
              case rel => exact ⟨k + 1, by omega, by go_num, hCC7.setCell (.inl (by simp)) _, _, HS, Lib.hid (Kd.R_putg HR7.out x.f0 ((k : Int) + 1)).1⟩
              case measure => simp [intOf]; omega
            · have be : (rd far x.f3 == rd far x.f0 - 1) = false := by simpa using ce
              have hs := HFS.out.skip (v := x.f0) (k := k) (by rw [HXK.out]) (.inr (by unfold hit; rw [HXK.out]; exact fun h => ce h.2.2))
              have HS := Lib.hid hs
              clear ce c3 cF hs
              go_quiet (fail)
              have hCC7 := hCC.drewN nq
              have HR7 : Hid (Kd.R (Kd.int .i64) 3 (w6.drewN nq) w.heap.size (fun _ => True) (.slice (some ⟨gf, 0, none⟩) n cf) F) := Lib.hid (Kd.R_drewN HR6.out nq)
              replace hF0 : (w6.drewN nq).cell? ⟨gf, x.f0.toNat, none⟩ = some (.int .i64 (rd F x.f0)) := hF0
              replace hFz6 : (w6.drewN nq).frozen? ⟨gf, x.f0.toNat, none⟩ = false := hFz6
              replace y0 : (w6.drewN nq).cell? ⟨wr.heap.size, 0, none⟩ = some (.int .i64 x.f0) := y0
              generalize w6.drewN nq = w7 at hCC7 HR7 hF0 hFz6 y0 ⊢
              go_wp2_with fail
              go_roundw
              case rel => exact ⟨k + 1, by omega, by go_num, hCC7, F, HS, HR7⟩
              case measure => simp [intOf]; omega
          · have b3 : decide (rd far x.f3 ≥ 0) = false := by simpa using c3
            have hs := HFS.out.skip (v := x.f0) (k := k) (by rw [HXK.out]) (.inr (by unfold hit; rw [HXK.out]; exact fun h => c3 h.2.1))
            have HS := Lib.hid hs
            clear c3 cF hs
            go_quiet (fail)
            have hCC7 := hCC.drewN nq
            have HR7 : Hid (Kd.R (Kd.int .i64) 3 (w6.drewN nq) w.heap.size (fun _ => True) (.slice (some ⟨gf, 0, none⟩) n cf) F) := Lib.hid (Kd.R_drewN HR6.out nq)
            replace hF0 : (w6.drewN nq).cell? ⟨gf, x.f0.toNat, none⟩ = some (.int .i64 (rd F x.f0)) := hF0
            replace hFz6 : (w6.drewN nq).frozen? ⟨gf, x.f0.toNat, none⟩ = false := hFz6
            replace y0 : (w6.drewN nq).cell? ⟨wr.heap.size, 0, none⟩ = some (.int .i64 x.f0) := y0
            generalize w6.drewN nq = w7 at hCC7 HR7 hF0 hFz6 y0 ⊢
            go_wp2_with fail
            go_roundw
            case rel => exact ⟨k + 1, by omega, by go_num, hCC7, F, HS, HR7⟩
            case measure => simp [intOf]; omega
        · have bF : (rd F x.f0 == 0) = false := by simpa using cF
          have hs := HFS.out.skip (v := x.f0) (k := k) (by rw [HXK.out]) (.inl cF)
          have HS := Lib.hid hs
          clear cF hs
          go_quiet (fail)
          have hCC7 := hCC.drewN nq
          have HR7 : Hid (Kd.R (Kd.int .i64) 3 (w6.drewN nq) w.heap.size (fun _ => True) (.slice (some ⟨gf, 0, none⟩) n cf) F) := Lib.hid (Kd.R_drewN HR6.out nq)
          replace hF0 : (w6.drewN nq).cell? ⟨gf, x.f0.toNat, none⟩ = some (.int .i64 (rd F x.f0)) := hF0
          replace hFz6 : (w6.drewN nq).frozen? ⟨gf, x.f0.toNat, none⟩ = false := hFz6
          replace y0 : (w6.drewN nq).cell? ⟨wr.heap.size, 0, none⟩ = some (.int .i64 x.f0) := y0
          generalize w6.drewN nq = w7 at hCC7 HR7 hF0 hFz6 y0 ⊢
          go_wp2_with fail
          go_roundw
          case rel => exact ⟨k + 1, by omega, by go_num, hCC7, F, HS, HR7⟩
          case measure => simp [intOf]; omega
      · have b0 : decide ((k : Int) < (l.length : Int)) = false := by simp; omega
        obtain rfl : k = l.length := by omega
        have hB7 := hB5.chg hCr (by simpa using hbox)
        have hd1 := hB7.cell 1
        simp at hd1
        go_wp2_with fail
        obtain ⟨wl, rfl⟩ : ∃ wl : World, wl = wr := ⟨_, rfl⟩
        have hD0 : rd far 0 = ((rd far 0).toNat : Int) := by have := HN.out; omega
        have hDn : (rd far 0).toNat < n := by have := HD.out.bnd 0 (by omega) (by omega); omega
        have e1 := HCode.out
        have e2 := HRows.out
        rw [if_pos HN.out] at e1 e2
        subst e1
        have HR2 := Lib.hid e2
        clear e2
        generalize hDD : (rd far 0).toNat = DD at hD0 hDn HR2
        clear hDD
        go_loopw [11, 12] (fun o a wr => ∃ (f : Nat) (at_ : Int) (rs : List S56), a = .int .i64 at_ ∧ 0 ≤ at_ ∧ at_ < (n : Int) ∧ rd far at_ = (f : Int) ∧ rs.length + f = DD ∧ Hid (rs ++ (path m far f at_).map conv = rows) ∧ Hid (Kd.R k56 56 wr wl.heap.size (fun _ => True) o rs) ∧ Below wl.heap.size wl wr) (fun _ a _ => (rd far (intOf a)).toNat)
        case atStart => exact ⟨DD, 0, [], rfl, by omega, by omega, hD0, by simp, Lib.hid (by rw [← HR2.out]; rfl), Lib.hid (Kd.R_nil _ _ _ _ _), Below.refl _ _⟩
        case round =>
          obtain ⟨f, at_, rs, rfl, ha0, ha1, hfa, hlen2, HP, HO, hbl⟩ := hrel
          cases f with
          | zero =>
            have hs : at_ = s := HD.out.zero at_ ha0 ha1 (by omega)
            have bs : (at_ != s) = false := by simp [hs]
            go_wp2_with fail
            go_ret2
            have e : rs = rows := by
              have := HP.out
              rw [path, List.map_nil, List.append_nil] at this
              exact this
            refine ⟨_, rfl, ?_, ?_⟩
            · rw [← e]
              exact Kd.R_lower HO.out hbr.size
            · exact hbr.trans (hbl.mono hbr.size)
          | succ f =>
            have hfa' : rd far at_ = (f : Int) + 1 := by omega
            obtain ⟨j, hj, hFj, hh, hno⟩ := FS.get HD.out HM.out HFS.out ha0 ha1 hfa'
            have hps := path_step HD.out HM.out hfa' hj hh hno
            have hjl : j < l.length := by have := congrArg List.length HM.out; rw [List.length_map] at this; omega
            have hcv : l[j] = conv m[j] := by
              have : l[j]? = (m.map conv)[j]? := by rw [HM.out]
              rw [List.getElem?_eq_getElem hjl, List.getElem?_map, List.getElem?_eq_getElem hj, Option.map_some] at this
              exact Option.some.inj this
            have hne : at_ ≠ s := fun e => by have := HD.out.s0; rw [e] at hfa'; omega
            have bs : (at_ != s) = true := by simpa using hne
            have hbw := hbr.trans (hbl.mono hbr.size)
            have hFc : wl.cell? ⟨gf, at_.toNat, none⟩ = some (.int .i64 (rd F at_)) := (Kd.R_celln 0 HRF.out at_ ha0 ha1).1
            rw [hFj] at hFc
            have hS : ∀ w', Below wl.heap.size wl w' → w'.cell? ⟨w.heap.size, 1, none⟩ = some (.slice (some ⟨g, 0, none⟩) l.length c) ∧ w'.cell? ⟨gf, at_.toNat, none⟩ = some (.int .i64 ((j : Int) + 1)) ∧ w'.cell? ⟨g, j * 4, none⟩ = some (.int .i64 l[j].f0) ∧ w'.cell? ⟨g, j * 4 + 1, none⟩ = some (.int .i64 l[j].f1) ∧ w'.cell? ⟨g, j * 4 + 2, none⟩ = some (.int .i64 l[j].f2) ∧ w'.cell? ⟨g, j * 4 + 3, none⟩ = some (.int .i64 l[j].f3) := fun w' hb =>
              ⟨(hb.cell (p := ⟨w.heap.size, 1, none⟩) (World.block_lt_of_cell? wl _ hd1)).trans hd1, (hb.cell (p := ⟨gf, at_.toNat, none⟩) (World.block_lt_of_cell? wl _ hFc)).trans hFc, row_at (Kd.C_below HC.out (hbr.trans (hb.mono hbr.size))) j hjl⟩
            have hxf : l[j].f3 = m[j].f3 := by rw [hcv]; rfl
            have hx3d : rd far m[j].f3 = (f : Int) := by
              have := hh.2.2
              rw [show l.getD j z56 = l[j] from by simp [List.getD, hjl], hxf] at this
              omega
            have hx3v := (HV.out m[j] (List.getElem_mem hj)).2
            have hw : IntKind.i64.wrap ((j : Int) + 1 - 1) = (j : Int) := by rw [IntKind.wrap_i64]; omega
            have HPS : Hid (rs ++ [l[j]] ++ (path m far f l[j].f3).map conv = rows) := Lib.hid (by
              rw [← HP.out, hps, List.map_cons, hcv]
              simp [conv])
            rw [← hxf] at hx3d hx3v
            have hX := Lib.hid (rfl : l[j] = l[j])
            clear hps hcv hh hno hne hFj hxf hd1 hFc
            generalize hx : l[j] = x at hS hx3d hx3v HPS
            have HSS := Lib.hid hS
            clear hS
            clear hx hX
            go_wp2_with fail
            refine start_ (n := 13) (S := fun w' => w'.cell? ⟨w.heap.size, 1, none⟩ = some (.slice (some ⟨g, 0, none⟩) l.length c) ∧ w'.cell? ⟨gf, at_.toNat, none⟩ = some (.int .i64 ((j : Int) + 1)) ∧ w'.cell? ⟨g, j * 4, none⟩ = some (.int .i64 x.f0) ∧ w'.cell? ⟨g, j * 4 + 1, none⟩ = some (.int .i64 x.f1) ∧ w'.cell? ⟨g, j * 4 + 2, none⟩ = some (.int .i64 x.f2) ∧ w'.cell? ⟨g, j * 4 + 3, none⟩ = some (.int .i64 x.f3)) (ds := []) #[false, false, false, false, false, false, false, false, false, false, false, false, false] (by kernel_rfl) rfl rfl (HSS.out _ hbl.drew) (fun hHeld => ?_)
            refine with_tabW tab20 bits20 (fun HT_ HW_ => ?_)
            replace hbl := hbl.drew
            replace hbw := hbw.drew
            replace HO := Lib.hid (Kd.R_drew HO.out)
            generalize wr.drew = w8 at hbl hbw HO hHeld ⊢
            skip
            refine pure_ (i := 0) (N := some 103) (v := ?_) (a' := ?_) #[true, false, false, false, false, false, false, false, false, false, false, false, false] rfl rfl (any_of HT_.out (by kernel_rfl)) (fun _ _ _ h => h) (Or.inl ⟨by rfl, ?_⟩) ?_ ?_
            rotate_left
            · intro w'
              go_simp
              with_reducible rfl
            rotate_left
            · simp only [Act.put, List.setIfInBounds_toArray, List.set_cons_zero, List.set_cons_succ, i64_w, i32_w]
              rfl
            refine pure_ (i := 1) (N := some 104) (v := ?_) (a' := ?_) #[true, true, false, false, false, false, false, false, false, false, false, false, false] rfl rfl (any_of HT_.out (by kernel_rfl)) (fun _ _ _ h => h) (Or.inl ⟨by rfl, ?_⟩) ?_ ?_
            rotate_left
            · intro w'
              go_simp
              with_reducible rfl
            rotate_left
            · simp only [Act.put, List.setIfInBounds_toArray, List.set_cons_zero, List.set_cons_succ, i64_w, i32_w]
              rfl
            refine pure_ (i := 3) (N := some 106) (v := ?_) (a' := ?_) #[true, true, false, true, false, false, false, false, false, false, false, false, false] rfl rfl (any_of HT_.out (by kernel_rfl)) (fun _ _ _ h => h) (Or.inl ⟨by rfl, ?_⟩) ?_ ?_
            rotate_left
            · intro w'
              go_simp
              with_reducible rfl
            rotate_left
            · simp only [Act.put, List.setIfInBounds_toArray, List.set_cons_zero, List.set_cons_succ, i64_w, i32_w]
              rfl
            refine pure_ (i := 4) (N := some 107) (v := ?_) (a' := ?_) #[true, true, false, true, true, false, false, false, false, false, false, false, false] rfl rfl (any_of HT_.out (by kernel_rfl)) (fun _ _ _ h => h) (Or.inl ⟨by rfl, ?_⟩) ?_ ?_
            rotate_left
            · intro w'
              go_simp
              with_reducible rfl
            rotate_left
            · simp only [Act.put, List.setIfInBounds_toArray, List.set_cons_zero, List.set_cons_succ, i64_w, i32_w]
              rfl
            refine take_ (i := 2) (N := some 105) (v := ?_) (a' := ?_) #[true, true, true, true, true, false, false, false, false, false, false, false, false] rfl rfl (take_ofW HT_.out HW_.out (by kernel_rfl)) (fun _ _ _ h => h) (Or.inl ⟨by rfl, ?_⟩) hHeld ?_ ?_
            rotate_left
            · rintro w' ⟨s0, s1, s2, s3, s4, s5⟩
              go_simp
              with_reducible rfl
            rotate_left
            · simp only [Act.put, List.setIfInBounds_toArray, List.set_cons_zero, List.set_cons_succ, i64_w, i32_w]
              rfl
            refine pure_ (i := 5) (N := some 108) (v := ?_) (a' := ?_) #[true, true, true, true, true, true, false, false, false, false, false, false, false] rfl rfl (any_of HT_.out (by kernel_rfl)) (fun _ _ _ h => h) (Or.inl ⟨by rfl, ?_⟩) ?_ ?_
            rotate_left
            · intro w'
              go_simp
              with_reducible rfl
            rotate_left
            · simp only [Act.put, List.setIfInBounds_toArray, List.set_cons_zero, List.set_cons_succ, i64_w, i32_w]
              rfl
            refine take_ (i := 6) (N := some 109) (v := ?_) (a' := ?_) #[true, true, true, true, true, true, true, false, false, false, false, false, false] rfl rfl (take_ofW HT_.out HW_.out (by kernel_rfl)) (fun _ _ _ h => h) (Or.inl ⟨by rfl, ?_⟩) hHeld ?_ ?_
            rotate_left
            · rintro w' ⟨s0, s1, s2, s3, s4, s5⟩
              go_simp
              with_reducible rfl
            rotate_left
            · simp only [Act.put, List.setIfInBounds_toArray, List.set_cons_zero, List.set_cons_succ, i64_w, i32_w]
              rfl
            refine pure_ (i := 7) (N := some 110) (v := ?_) (a' := ?_) #[true, true, true, true, true, true, true, true, false, false, false, false, false] rfl rfl (any_of HT_.out (by kernel_rfl)) (fun _ _ _ h => h) (Or.inl ⟨by rfl, ?_⟩) ?_ ?_
            rotate_left
            · intro w'
              go_simp
              with_reducible rfl
            rotate_left
            · simp only [Act.put, List.setIfInBounds_toArray, List.set_cons_zero, List.set_cons_succ, i64_w, i32_w]
              rfl
            have hw2 : wrap64 (j : Int) = (j : Int) := w64 (j : Int) (by omega)
            refine pure_ (i := 8) (N := some 111) (v := ?_) (a' := ?_) #[true, true, true, true, true, true, true, true, true, false, false, false, false] rfl rfl (any_of HT_.out (by kernel_rfl)) (fun _ _ _ h => h) (Or.inl ⟨by rfl, ?_⟩) ?_ ?_
            rotate_left
            · intro w'
              go_simp
              with_reducible rfl
            rotate_left
            · simp only [Act.put, List.setIfInBounds_toArray, List.set_cons_zero, List.set_cons_succ, i64_w, i32_w]
              rfl
            clear hw2
            refine take_ (i := 9) (N := some 112) (v := ?_) (a' := ?_) #[true, true, true, true, true, true, true, true, true, true, false, false, false] rfl rfl (take_ofW HT_.out HW_.out (by kernel_rfl)) (fun _ _ _ h => h) (Or.inl ⟨by rfl, ?_⟩) hHeld ?_ ?_
            rotate_left
            · rintro w' ⟨s0, s1, s2, s3, s4, s5⟩
              go_simp
              with_reducible rfl
            rotate_left
            · simp only [Act.put, List.setIfInBounds_toArray, List.set_cons_zero, List.set_cons_succ, i64_w, i32_w]
              rfl
            refine one_ (i := 10) (N := some 113) #[true, true, true, true, true, true, true, true, true, true, true, false, false] rfl rfl (one_of HT_.out (by kernel_rfl)) (by decide) (fun K hK => ?_)
            refine value_ (w1 := ?_) (v := ?_) (by rfl) rfl ?_ ?_
            rotate_left 2
            · go_simp
              constructor
              · rfl
              · rfl
            refine hK.out _ _ (HSS.out _ (hbl.alloc hbl.size _)) (fun hHeld => ?_)
            clear hK K
            refine norm_ (a' := ?_) ?_ ?_
            rotate_left
            · show Act.put _ (some 113) _ = _
              simp only [Act.put, List.setIfInBounds_toArray, List.set_cons_zero, List.set_cons_succ, i64_w, i32_w]
              rfl
            refine one_ (i := 11) (N := some 114) #[true, true, true, true, true, true, true, true, true, true, true, true, false] rfl rfl (one_of HT_.out (by kernel_rfl)) (by decide) (fun K hK => ?_)
            refine Kd.R_append_step k56 (w0 := wl) wl.heap.size (by rfl) (.tmp 103) (.tmp 113) 51 56 (.agg #[(.int .i64 0), (.int .i64 0), (.int .i64 0), (.int .i64 0)]) 32 rfl Try.underlying51 info56 rfl (by decide) (by omega) u11 rs x [.int .i64 x.f0, .int .i64 x.f1, .int .i64 x.f2, .int .i64 x.f3] (fun _ => True) (fun _ => False) rfl rfl (k56_mkM _ _ _ x) (fun _ hk => hk.elim) (fun _ _ => trivial) HO.out hbl hbl.size (by omega) ?_
            intro v9 w9 ho9 hb9 hg9 hat9
            obtain ⟨gn, cn, hv9, hgn, hgnl, _⟩ := Kd.R_form ho9 (by simp)
            have HO9 := Lib.hid ho9
            rw [hv9] at ho9
            have hcell := (row_at (Kd.R_reads' ho9).2.2 rs.length (by simp)).2.2.2
            rw [List.getElem_append_right (Nat.le_refl _)] at hcell
            simp only [Nat.sub_self, List.getElem_cons_zero] at hcell
            simp only [List.length_append, List.length_cons, List.length_nil, Nat.zero_add] at hv9
            subst hv9
            generalize hq : rs.length = q at hcell
            have HQ := Lib.hid hq
            skip
            clear ho9 hq
            refine hK.out _ _ (HSS.out _ hb9) (fun _ => ?_)
            clear hK K
            refine norm_ (a' := ?_) ?_ ?_
            rotate_left
            · show Act.put _ (some 114) _ = _
              simp only [Act.put, List.setIfInBounds_toArray, List.set_cons_zero, List.set_cons_succ, i64_w, i32_w]
              rfl
            refine pure_ (i := 12) (N := some 11) (v := ?_) (a' := ?_) #[true, true, true, true, true, true, true, true, true, true, true, true, true] rfl rfl (any_of HT_.out (by kernel_rfl)) (fun _ _ _ h => h) (Or.inl ⟨by rfl, ?_⟩) ?_ ?_
            rotate_left
            · intro w'
              go_simp
              with_reducible rfl
            rotate_left
            · simp only [Act.put, List.setIfInBounds_toArray, List.set_cons_zero, List.set_cons_succ, i64_w, i32_w]
              rfl
            refine done_ (done_of HT_.out (by kernel_rfl)) ?_
            have hq1 : q ≤ 65536 := by have := HQ.out; omega
            have hw3 : IntKind.i64.wrap ((q : Int) + 1 - 1) = (q : Int) := by rw [IntKind.wrap_i64]; omega
            have hw4 : IntKind.i64.wrap (q : Int) = (q : Int) := by rw [IntKind.wrap_i64]; omega
            go_wp2_with fail
            go_roundw
            case rel => exact ⟨f, x.f3, rs ++ [x], rfl, hx3v.1, hx3v.2, hx3d, by simp; omega, HPS, by rw [HQ.out] at HO9; exact HO9, hb9⟩
            case measure =>
              show (rd far x.f3).toNat < (rd far at_).toNat
              rw [hx3d, hfa']
              omega
  · have bn : decide (rd far 0 < 0) = true := by simp; omega
    have HN := Lib.hid hneg
    clear hneg
    go_wp2_with fail
    go_ret2
    have e1 := HCode.out
    have e2 := HRows.out
    rw [if_neg (by have := HN.out; omega)] at e1 e2
    subst e1
    subst e2
    refine ⟨_, rfl, ?_, ?_⟩
    · exact Kd.R_nil _ _ _ _ _
    · exact hb4'
end Go.Proofs.Ytfflfhkbnmoalaa.Way
