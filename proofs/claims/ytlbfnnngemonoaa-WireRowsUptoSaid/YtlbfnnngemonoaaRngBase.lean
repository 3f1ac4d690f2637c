/- WireRows: a row of messages; wire.Rows itself. -/
import Derived.Test.YtlbfnnngemonoaaRngLaw
import Derived.Laws.EntriesVeiled
namespace Go.Proofs.Ytlbfnnngemonoaa.Wir
open Go.RowKit Go.Proofs.Ytlbfnnngemonoaa.PWireReads
open Go.Proofs.Ytlbfnnngemonoaa.Fat (Blk Chg Off chg_opt)
open Go.Proofs.YtlbfnnngemonoaaW.PrintWords Go.Proofs.YtlbfnnngemonoaaW.PrintLast Go.Proofs.YtlbfnnngemonoaaW.PrintMore
set_option linter.unusedVariables false
set_option linter.unusedSimpArgs false
@[local go_sem] theorem run_makeFuncR (P : Program) (fn : Fn) (first cap : Array Value) (w : World) : (Instr.makeFunc fn first cap).run P w = .ok (.func fn first cap) w := rfl
@[local go_sem] theorem events_makeFuncR (P : Program) (fn : Fn) (first cap : Array Value) (w : World) (es : Array Event) : (Instr.makeFunc fn first cap).events P w es = es := rfl

def kMs : Kd M := Kd.iso (Kd.pair (Kd.int .i64) (Kd.pair Kd.string (Kd.slice 50 kV))) (fun x : M => (x.id, x.tag, x.pl))
def zM : M := ⟨0, { data := #[] }, []⟩
def zMsg : Value := .agg #[.int .i64 0, .string { data := #[] }, .slice none 0 0]
theorem kMs_open {w : World} {x : M} {cs : List Value} (h : kMs.K w x cs) : ∃ A c, cs = [.int .i64 x.id, .string x.tag, .slice A x.pl.length c] ∧ x.pl.length ≤ c ∧ Kd.C kV w A x.pl.length x.pl := by
  obtain ⟨_, _, rfl, rfl, ⟨_, _, rfl, rfl, ⟨A, c, rfl, h1, h2⟩⟩⟩ := h
  exact ⟨A, c, rfl, h1, h2⟩
theorem kMs_mkM {w : World} {base : Nat} {ok : Nat → Prop} {x : M} {A : Option Addr} {c : Nat} (h : Kd.R kV 50 w base ok (.slice A x.pl.length c) x.pl) : kMs.M w base ok x [.int .i64 x.id, .string x.tag, .slice A x.pl.length c] :=
  ⟨[_], [_, _], rfl, rfl, ⟨[_], [_], rfl, rfl, ⟨_, rfl, h⟩⟩⟩
theorem at_Ms {w : World} {A : Option Addr} {l : List M} (h : Kd.C kMs w A l.length l) (i : Nat) (hi : i < l.length) :
    ∃ ad B c, A = some ad ∧ w.cell? (ad.add (i * 3)) = some (.int .i64 (l.getD i zM).id) ∧ w.cell? ⟨(ad.add (i * 3)).block, (ad.add (i * 3)).off + 1, none⟩ = some (.string (l.getD i zM).tag) ∧ w.cell? ⟨(ad.add (i * 3)).block, (ad.add (i * 3)).off + 2, none⟩ = some (.slice B (l.getD i zM).pl.length c) ∧
      (l.getD i zM).pl.length ≤ c ∧ Kd.C kV w B (l.getD i zM).pl.length (l.getD i zM).pl := by
  obtain ⟨ad, cs, e, _, hK, hc0⟩ := Kd.C_get h zM i (by omega) (by omega)
  have hc : ∀ j u, cs[j]? = some u → w.cell? (ad.add (i * 3 + j)) = some u := hc0
  obtain ⟨B, c, rfl, h1, h2⟩ := kMs_open hK
  exact ⟨ad, B, c, e, hc 0 _ rfl, by rw [← add_field _ _ 1 (by omega)]; exact hc 1 _ rfl, by rw [← add_field _ _ 2 (by omega)]; exact hc 2 _ rfl, h1, h2⟩
theorem at_pl {w : World} {A : Option Addr} {l : List Int} (h : Kd.C (Kd.int .i64) w A l.length l) (i : Nat) (hi : i < l.length) : ∃ ad, A = some ad ∧ w.cell? (ad.add i) = some (.int .i64 (l.getD i 0)) := by
  obtain ⟨ad, cs, e, _, hK, hc0⟩ := Kd.C_get h 0 i (by omega) (by omega)
  have hk : cs = [.int .i64 (l.getD i 0)] := hK
  subst hk
  refine ⟨ad, e, ?_⟩
  have := hc0 0 _ rfl
  have hz : (Kd.int .i64).sz = 1 := rfl
  rw [hz] at this
  simpa using this
theorem info57 : (Try.prog.info? 57).map (fun i => (i.zero, i.size, i.bytes)) = some (some zMsg, kMs.sz, 48) := by kernel_rfl
theorem info3 : (Try.prog.info? 3).map (fun i => (i.zero, i.size, i.bytes)) = some (some (.int .i64 0), 1, 8) := by kernel_rfl
theorem rows29_any (A : Option Addr) (n c : Nat) (w : World) : Calls Try.prog 29 #[.slice A n c] w fun e w' => e = .returned (.func (.func 63) #[] #[.pointer (some ⟨w.heap.size, 0, none⟩)]) ∧ Blk w' w.heap.size 45 #[.slice A n c] ∧ Below w.heap.size w w' := by
  go_enter Try.func29, Try.ntmps29
  go_wp2_with fail
  go_ret
  exact ⟨rfl, Blk.new w _ _, (Below.refl _ _).alloc (Nat.le_refl _) _⟩
end Go.Proofs.Ytlbfnnngemonoaa.Wir
