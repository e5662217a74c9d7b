/- What is refused first is not refused by a limit as great as the need: plain. -/
import Derived.Test.YtpooglajfiddhaaMeterRun
namespace Go.Proofs.Ytpooglajfiddhaa

def MSt.raise (s : MSt) (e n : Int) : MSt :=
  if e = 9 then { s with fu := n } else if e = 10 then { s with li := n } else if e = 11 then { s with te := n } else if e = 12 then { s with pi := n } else s

/-- n is above the bound of e -/
def MSt.above (s : MSt) (e n : Int) : Prop := (e = 9 ∧ s.fu < n) ∨ (e = 10 ∧ s.li < n) ∨ (e = 11 ∧ s.te < n) ∨ (e = 12 ∧ s.pi < n)

theorem play_refused {s : MSt} (h0 : s.wh = 0) (o : ROp) (h : (s.play o).1 ≠ 0) : s.above (s.play o).2.wh (s.play o).2.nn := by
  revert h
  unfold MSt.play MSt.step MSt.piece MSt.keep MSt.refuse MSt.above
  repeat' split
  all_goals simp_all
  all_goals omega

theorem above_lim {s t : MSt} (h : t.fu = s.fu ∧ t.pi = s.pi ∧ t.li = s.li ∧ t.te = s.te) {e n : Int} (ha : t.above e n) : s.above e n := by
  unfold MSt.above at *
  rw [← h.1, ← h.2.1, ← h.2.2.1, ← h.2.2.2]
  exact ha

theorem run_above {s : MSt} (h0 : s.wh = 0) (l : List ROp) (i : Nat) (h : (runSpec s l i).2.1 ≠ 0) : s.above (runSpec s l i).2.1 (runSpec s l i).2.2 := by
  induction l generalizing s i with
  | nil => simp [runSpec] at h
  | cons o r ih =>
    simp only [runSpec] at h ⊢
    split at h
    · rename_i hp
      rw [if_pos hp]
      exact above_lim (play_lim s o) (ih ((play_need h0 o).1 hp) _ h)
    · rename_i hp
      rw [if_neg hp]
      exact play_refused h0 o hp

theorem run_ge (s : MSt) (l : List ROp) (i : Nat) : i ≤ (runSpec s l i).1 := by
  induction l generalizing s i with
  | nil => simp [runSpec]
  | cons o r ih =>
    simp only [runSpec]
    split
    · have := ih (s.play o).2 (i + 1); omega
    · simp

theorem play_raise {s : MSt} {e n : Int} (ha : s.above e n) (o : ROp) (hp : (s.play o).1 = 0) : ((s.raise e n).play o) = (0, (s.play o).2.raise e n) := by
  revert hp
  unfold MSt.above at ha
  rcases ha with ⟨rfl, ha⟩ | ⟨rfl, ha⟩ | ⟨rfl, ha⟩ | ⟨rfl, ha⟩
  all_goals
    unfold MSt.raise MSt.play MSt.step MSt.piece MSt.keep MSt.refuse
    simp only [if_true, if_false, show ((10 : Int) = 9) = False by simp, show ((11 : Int) = 9) = False by simp, show ((11 : Int) = 10) = False by simp, show ((12 : Int) = 9) = False by simp, show ((12 : Int) = 10) = False by simp, show ((12 : Int) = 11) = False by simp]
    repeat' split
    all_goals first | (intro h; exact absurd h (by decide)) | (intro _; rfl) | (intro _; exfalso; omega) | (intro h; exfalso; simp at h) | skip

theorem play_next {s : MSt} (h0 : s.wh = 0) (ok : s.Ok) (o : ROp) (hp : (s.play o).1 ≠ 0) : ((s.raise (s.play o).2.wh (s.play o).2.nn).play o).1 = 0 ∨ (s.play o).2.wh = 10 := by
  by_cases k1 : o.k = 1
  · have e1 : s.play o = s.step := by simp [MSt.play, k1]
    rw [e1] at hp ⊢
    have hlt : ¬ s.st < s.fu := by intro h; simp [MSt.step, h] at hp
    have e2 : s.step = (9, s.refuse 9 (s.fu + 1)) := by simp [MSt.step, hlt]
    rw [e2]
    left
    simp only [MSt.refuse, h0, if_true, MSt.raise, MSt.play, k1, MSt.step]
    have h : s.st < s.fu + 1 := by have := ok.s1; omega
    simp [h]
  by_cases k2 : o.k = 2
  · have e1 : s.play o = s.piece := by simp [MSt.play, k2]
    rw [e1] at hp ⊢
    have hlt : ¬ s.pc < s.pi := by intro h; simp [MSt.piece, h] at hp
    have e2 : s.piece = (12, s.refuse 12 (s.pi + 1)) := by simp [MSt.piece, hlt]
    rw [e2]
    left
    simp only [MSt.refuse, h0, if_true, MSt.raise, MSt.play, k2, MSt.piece]
    have h : s.pc < s.pi + 1 := by have := ok.c1; omega
    simp [h]
  by_cases k3 : o.k = 3
  · have e1 : s.play o = s.keep (mostLimbs o.p o.p.length) o.p.length := by simp [MSt.play, k3]
    rw [e1] at hp ⊢
    by_cases hl : s.li < mostLimbs o.p o.p.length
    · right
      simp [MSt.keep, hl, MSt.refuse, h0]
    by_cases ht : s.te < o.p.length
    · left
      simp [MSt.keep, hl, ht, MSt.refuse, h0, MSt.raise, MSt.play, k3]
    · simp [MSt.keep, hl, ht] at hp
  · simp [MSt.play, k1, k2, k3] at hp

theorem run_raise {s : MSt} (h0 : s.wh = 0) (ok : s.Ok) (l : List ROp) (i : Nat) {f : Nat} {e n : Int} (hr : runSpec s l i = (f, e, n)) (he : e ≠ 0) :
    f ≤ (runSpec (s.raise e n) l i).1 ∧ (f < (runSpec (s.raise e n) l i).1 ∨ e = 10) := by
  have hab : s.above e n := by
    have := run_above h0 l i (by rw [hr]; exact he)
    rwa [hr] at this
  induction l generalizing s i with
  | nil => simp [runSpec] at hr; omega
  | cons o r ih =>
    simp only [runSpec] at hr
    split at hr
    · rename_i hp
      have hn := (play_need h0 o).1 hp
      have hpr := play_raise hab o hp
      have hab' := run_above hn r (i + 1) (by rw [hr]; exact he)
      rw [hr] at hab'
      simp only [runSpec, hpr, if_true]
      exact ih hn (play_ok ok o) (i + 1) hr hab'
    · rename_i hp
      simp only [Prod.mk.injEq] at hr
      obtain ⟨rfl, rfl, rfl⟩ := hr
      refine ⟨run_ge _ _ _, ?_⟩
      rcases play_next h0 ok o hp with h | h
      · left
        simp only [runSpec, h, if_true]
        have := run_ge ((s.raise (s.play o).2.wh (s.play o).2.nn).play o).2 r (i + 1)
        omega
      · exact .inr h
end Go.Proofs.Ytpooglajfiddhaa
