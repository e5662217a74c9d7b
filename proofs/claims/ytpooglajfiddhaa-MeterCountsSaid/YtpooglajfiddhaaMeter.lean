/- The meter: what each of its methods does to its block, and to nothing else. -/
import Derived.Test.YtpooglajfiddhaaOnce
import Derived.Test.YtpooglajfiddhaaBase
import Derived.BigQuiet
import Derived.Deep.QuietTactic
namespace Go.Proofs.Ytpooglajfiddhaa
open Go.RowKit

theorem gb_refl (w : World) (r : Option Nat) : w.grownBy w r := ⟨rfl, rfl, rfl, Nat.le_refl _, fun _ _ _ => rfl⟩
theorem gb_trans {a b c : World} {r : Option Nat} (h : a.grownBy b r) (k : b.grownBy c r) : a.grownBy c r :=
  ⟨k.os.trans h.os, k.tape.trans h.tape, k.output.trans h.output, Nat.le_trans h.size k.size, fun i hi hr => (k.block i (Nat.lt_of_lt_of_le hi h.size) hr).trans (h.block i hi hr)⟩
theorem gb_alloc {a w : World} {r : Option Nat} (h : a.grownBy w r) (o : Obj) : a.grownBy (w.alloc o) r := gb_trans h (World.grownBy_alloc w o r)
theorem gb_drew {a w : World} {r : Option Nat} (h : a.grownBy w r) : a.grownBy w.drew r := ⟨h.os, h.tape, h.output, h.size, h.block⟩
theorem gb_setCell {a w : World} {b : Nat} (h : a.grownBy w (some b)) {p : Addr} (hp : p.block = b) (u : Value) : a.grownBy (w.setCell p u) (some b) :=
  gb_trans h ⟨rfl, rfl, rfl, by simp [World.setCell], fun k _ hr => Below.heap_setCell _ _ _ _ (fun e => hr (by rw [e, hp]))⟩

/-- limits, counts, the first refusal -/
structure MSt where
  fu : Int
  li : Int
  te : Int
  pi : Int
  st : Int
  pc : Int
  wh : Int
  nn : Int
  deriving DecidableEq, Inhabited

def MSt.done (s : MSt) : Int := if s.wh = 0 then 0 else 1

structure MeterAt (w : World) (b : Nat) (s : MSt) : Prop where
  c0 : w.cell? ⟨b, 0, none⟩ = some (.int .i64 s.fu)
  c1 : w.cell? ⟨b, 1, none⟩ = some (.int .i64 s.li)
  c2 : w.cell? ⟨b, 2, none⟩ = some (.int .i64 s.te)
  c3 : w.cell? ⟨b, 3, none⟩ = some (.int .i64 s.pi)
  c4 : w.cell? ⟨b, 4, none⟩ = some (.int .i64 s.st)
  c5 : w.cell? ⟨b, 5, none⟩ = some (.int .i64 s.pc)
  c6 : w.cell? ⟨b, 6, none⟩ = some (.int .u32 s.done)
  c7 : w.cell? ⟨b, 7, none⟩ = some (.int .i32 0)
  c8 : w.cell? ⟨b, 8, none⟩ = some (.int .u32 0)
  c9 : w.cell? ⟨b, 9, none⟩ = some (.int .i64 s.wh)
  c10 : w.cell? ⟨b, 10, none⟩ = some (.int .i64 s.nn)
  fz : ∀ i, w.frozen? ⟨b, i, none⟩ = false

theorem frozen_set (w : World) (a c : Addr) (u : Value) : (w.setCell a u).frozen? c = w.frozen? c := by simp

theorem MeterAt.alloc {w : World} {b : Nat} {s : MSt} (h : MeterAt w b s) (o : Obj) : MeterAt (w.alloc o) b s := by
  have hb : b < w.heap.size := lt_of_cell h.c0
  have e : Ext w (w.alloc o) := Ext.alloc (Ext.refl w) o
  exact ⟨e.cell h.c0, e.cell h.c1, e.cell h.c2, e.cell h.c3, e.cell h.c4, e.cell h.c5, e.cell h.c6, e.cell h.c7, e.cell h.c8, e.cell h.c9, e.cell h.c10, fun i => (Below.frozen e (p := ⟨b, i, none⟩) hb).trans (h.fz i)⟩
theorem MeterAt.kept {w w' : World} {b : Nat} {s : MSt} (h : MeterAt w b s) {B : Nat} (e : Below B w w') (hb : b < B) : MeterAt w' b s :=
  ⟨bcell' e hb h.c0, bcell' e hb h.c1, bcell' e hb h.c2, bcell' e hb h.c3, bcell' e hb h.c4, bcell' e hb h.c5, bcell' e hb h.c6, bcell' e hb h.c7, bcell' e hb h.c8, bcell' e hb h.c9, bcell' e hb h.c10, fun i => (Below.frozen e (p := ⟨b, i, none⟩) hb).trans (h.fz i)⟩
theorem MeterAt.grown {w w' : World} {b : Nat} {s : MSt} (h : MeterAt w b s) {r : Option Nat} (e : w.grownBy w' r) (hb : some b ≠ r) : MeterAt w' b s := by
  have hl := lt_of_cell h.c0
  have hc : ∀ i, w'.cell? ⟨b, i, none⟩ = w.cell? ⟨b, i, none⟩ := fun i => World.cell?_of_block (e.block b hl hb)
  exact ⟨(hc _).trans h.c0, (hc _).trans h.c1, (hc _).trans h.c2, (hc _).trans h.c3, (hc _).trans h.c4, (hc _).trans h.c5, (hc _).trans h.c6, (hc _).trans h.c7, (hc _).trans h.c8, (hc _).trans h.c9, (hc _).trans h.c10, fun i => (World.frozen?_of_block (w := w) (a := ⟨b, i, none⟩) (e.block b hl hb)).trans (h.fz i)⟩

def MSt.refuse (s : MSt) (e n : Int) : MSt := if s.wh = 0 then { s with wh := e, nn := n } else s

theorem slow_meter {w : World} {b : Nat} {s : MSt} (h : MeterAt w b s) (h0 : s.wh = 0) (e n : Int) (he : e ≠ 0) : MeterAt (slowEnd w b e n) b (s.refuse e n) := by
  have hr : s.refuse e n = { s with wh := e, nn := n } := by simp [MSt.refuse, h0]
  rw [hr]
  unfold slowEnd
  have k : ∀ i v, i ≠ 7 → i ≠ 9 → i ≠ 10 → i ≠ 6 → w.cell? ⟨b, i, none⟩ = some v → (((((w.setCell ⟨b, 7, none⟩ (.int .i32 1)).setCell ⟨b, 9, none⟩ (.int .i64 e)).setCell ⟨b, 10, none⟩ (.int .i64 n)).drew.setCell ⟨b, 6, none⟩ (.int .u32 1)).setCell ⟨b, 7, none⟩ (.int .i32 0)).cell? ⟨b, i, none⟩ = some v := by
    intro i v h7 h9 h10 h6 hv
    refine other (other ?_ (ao (by omega))) (ao (by omega))
    rw [World.cell?_drew]
    exact other (other (other hv (ao (by omega))) (ao (by omega))) (ao (by omega))
  have a6 : (((w.setCell ⟨b, 7, none⟩ (.int .i32 1)).setCell ⟨b, 9, none⟩ (.int .i64 e)).setCell ⟨b, 10, none⟩ (.int .i64 n)).drew.cell? ⟨b, 6, none⟩ = some (.int .u32 s.done) := by
    rw [World.cell?_drew]
    exact other (other (other h.c6 (ao (by omega))) (ao (by omega))) (ao (by omega))
  have a7 : (((w.setCell ⟨b, 7, none⟩ (.int .i32 1)).setCell ⟨b, 9, none⟩ (.int .i64 e)).setCell ⟨b, 10, none⟩ (.int .i64 n)).drew.cell? ⟨b, 7, none⟩ = some (.int .i32 1) := by
    rw [World.cell?_drew]
    exact other (other (same_of h.c7) (ao (by omega))) (ao (by omega))
  have a9 : (((w.setCell ⟨b, 7, none⟩ (.int .i32 1)).setCell ⟨b, 9, none⟩ (.int .i64 e)).setCell ⟨b, 10, none⟩ (.int .i64 n)).drew.cell? ⟨b, 9, none⟩ = some (.int .i64 e) := by
    rw [World.cell?_drew]
    exact other (same_of (other h.c9 (ao (by omega)))) (ao (by omega))
  have a10 : (((w.setCell ⟨b, 7, none⟩ (.int .i32 1)).setCell ⟨b, 9, none⟩ (.int .i64 e)).setCell ⟨b, 10, none⟩ (.int .i64 n)).drew.cell? ⟨b, 10, none⟩ = some (.int .i64 n) := by
    rw [World.cell?_drew]
    exact same_of (other (other h.c10 (ao (by omega))) (ao (by omega)))
  refine ⟨k 0 _ (by omega) (by omega) (by omega) (by omega) h.c0, k 1 _ (by omega) (by omega) (by omega) (by omega) h.c1, k 2 _ (by omega) (by omega) (by omega) (by omega) h.c2, k 3 _ (by omega) (by omega) (by omega) (by omega) h.c3,
    k 4 _ (by omega) (by omega) (by omega) (by omega) h.c4, k 5 _ (by omega) (by omega) (by omega) (by omega) h.c5, ?_, ?_, k 8 _ (by omega) (by omega) (by omega) (by omega) h.c8, ?_, ?_, fun i => ?_⟩
  · have : MSt.done { s with wh := e, nn := n } = 1 := by simp [MSt.done, he]
    rw [this]
    exact other (same_of a6) (ao (by omega))
  · exact same_of (other a7 (ao (by omega)))
  · exact other (other a9 (ao (by omega))) (ao (by omega))
  · exact other (other a10 (ao (by omega))) (ao (by omega))
  · simp [h.fz i]

theorem slow_grown (w : World) (b : Nat) (e n : Int) : w.grownBy (slowEnd w b e n) (some b) := by
  unfold slowEnd
  have h1 := gb_setCell (gb_refl w (some b)) (p := ⟨b, 7, none⟩) rfl (.int .i32 1)
  have h2 := gb_setCell h1 (p := ⟨b, 9, none⟩) rfl (.int .i64 e)
  have h3 := gb_drew (gb_setCell h2 (p := ⟨b, 10, none⟩) rfl (.int .i64 n))
  have h4 := gb_setCell h3 (p := ⟨b, 6, none⟩) rfl (.int .u32 1)
  exact gb_setCell h4 (p := ⟨b, 7, none⟩) rfl (.int .i32 0)

/-- what a call that answers an error's number leaves -/
def Met (w : World) (b : Nat) (r : Int) (s : MSt) : Ending → World → Prop := fun e w' => e = .returned (.int .i64 r) ∧ MeterAt w' b s ∧ w.grownBy w' (some b)

set_option maxHeartbeats 1000000 in
theorem refuse_any (b : Nat) (s : MSt) (e n : Int) (w : World) (h : MeterAt w b s) (he : e ≠ 0) :
    Calls Try.prog 27 #[.pointer (some ⟨b, 0, none⟩), .int .i64 e, .int .i64 n] w (Met w b e (s.refuse e n)) := by
  have hmf : ∀ (fn : Fn) (first cap : Array Value) (w : World), (Instr.makeFunc fn first cap).run Try.prog w = .ok (.func fn first cap) w := fun _ _ _ _ => rfl
  have hb := lt_of_cell h.c0
  have h3 := ((h.alloc (.cells #[.pointer (some ⟨b, 0, none⟩)] 32)).alloc (.cells #[.int .i64 e] 27)).alloc (.cells #[.int .i64 n] 3)
  have g3 : w.grownBy (((w.alloc (.cells #[.pointer (some ⟨b, 0, none⟩)] 32)).alloc (.cells #[.int .i64 e] 27)).alloc (.cells #[.int .i64 n] 3)) (some b) := gb_alloc (gb_alloc (gb_alloc (gb_refl w _) _) _) _
  have q3 := h3.c6
  have p0 : (((w.alloc (.cells #[.pointer (some ⟨b, 0, none⟩)] 32)).alloc (.cells #[.int .i64 e] 27)).alloc (.cells #[.int .i64 n] 3)).cell? ⟨w.heap.size, 0, none⟩ = some (.pointer (some ⟨b, 0, none⟩)) := cell_old _ (cell_old _ (cell_new w _ _ rfl rfl))
  have p1 : (((w.alloc (.cells #[.pointer (some ⟨b, 0, none⟩)] 32)).alloc (.cells #[.int .i64 e] 27)).alloc (.cells #[.int .i64 n] 3)).cell? ⟨w.heap.size + 1, 0, none⟩ = some (.int .i64 e) := cell_old _ (cell_new _ _ _ (by simp) rfl)
  have p2 : (((w.alloc (.cells #[.pointer (some ⟨b, 0, none⟩)] 32)).alloc (.cells #[.int .i64 e] 27)).alloc (.cells #[.int .i64 n] 3)).cell? ⟨w.heap.size + 2, 0, none⟩ = some (.int .i64 n) := cell_new _ _ _ (by simp) rfl
  by_cases h0 : s.wh = 0
  · have hd : s.done = 0 := by simp [MSt.done, h0]
    rw [hd] at q3
    have hf := slow_meter h3 h0 e n he
    have hg := gb_trans g3 (slow_grown (((w.alloc (.cells #[.pointer (some ⟨b, 0, none⟩)] 32)).alloc (.cells #[.int .i64 e] 27)).alloc (.cells #[.int .i64 n] 3)) b e n)
    have ev : (slowEnd (((w.alloc (.cells #[.pointer (some ⟨b, 0, none⟩)] 32)).alloc (.cells #[.int .i64 e] 27)).alloc (.cells #[.int .i64 n] 3)) b e n).cell? ⟨w.heap.size + 1, 0, none⟩ = some (.int .i64 e) := by
      unfold slowEnd
      refine other (other ?_ (ab (by omega))) (ab (by omega))
      rw [World.cell?_drew]
      exact other (other (other p1 (ab (by omega))) (ab (by omega))) (ab (by omega))
    have H3 := hid h3
    have H := hid h
    have HF := hid hf
    have HG := hid hg
    clear h3 h hf hg g3 hd
    go_enter Try.func27, Try.ntmps27
    go_wp2_with (go_at_call 32; refine (do_first b ⟨w.heap.size + 1, 0, none⟩ ⟨w.heap.size + 2, 0, none⟩ ⟨w.heap.size, 0, none⟩ e n _ _ _ (by simp; omega) (by simp; omega) (by simp; omega) p1 p2 p0 q3 H3.out.c7 H3.out.c9 H3.out.c10 H3.out.fz).mono ?_; rintro e w' ⟨rfl, rfl⟩)
    go_ret
    exact ⟨rfl, HF.out, HG.out⟩
  · have hd : s.done = 1 := by simp [MSt.done, h0]
    have hr : s.refuse e n = s := by simp [MSt.refuse, h0]
    rw [hd] at q3
    have H3 := hid h3
    have HR := hid hr
    have HG := hid g3
    clear h3 h g3 hd hr
    go_enter Try.func27, Try.ntmps27
    go_wp2_with (go_at_call 32; refine (do_done _ _ _ q3).mono ?_; rintro e w' ⟨rfl, rfl⟩)
    go_ret
    rw [HR.out]
    exact ⟨rfl, H3.out, HG.out⟩
end Go.Proofs.Ytpooglajfiddhaa
