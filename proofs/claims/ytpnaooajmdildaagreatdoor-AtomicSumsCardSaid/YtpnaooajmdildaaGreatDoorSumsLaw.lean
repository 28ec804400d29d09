/- Walks, printed by a program of this repository (wip/tool). -/
import Derived.Test.YtpnaooajmdildaaGreatDoorSums
namespace Go.Proofs.YtpnaooajmdildaaGreatDoor
open Go.RowKit
open Go
attribute [local irreducible] wpList wpQuiet wpX Code.wp
set_option maxHeartbeats 1000000
set_option maxRecDepth 100000
set_option linter.unusedSimpArgs false
set_option linter.unusedVariables false

theorem sums_in1 (b : UInt8) (k n : Int) (hn : 0 < n) : insOk ⟨⟨5, 0, 0, ⟨false, b⟩, ⟨false, 0⟩, 0, 0, 0⟩, k⟩ n = true := by
  have h : namedF ⟨⟨5, 0, 0, ⟨false, b⟩, ⟨false, 0⟩, 0, 0, 0⟩, k⟩ (needsF 5) = ⟨5, 0, 0, ⟨false, b⟩, ⟨false, 0⟩, 0, 0, 0⟩ := by kernel_rfl
  simp [insOk, insR, needsIs, argF, fnsF, modesF, h, hn]
  rfl
theorem sums_in2 (b : UInt8) (k n : Int) (hn : 0 < n) : insOk ⟨⟨4, 1, 0, ⟨false, b⟩, ⟨false, 0⟩, 0, 0, 0⟩, k⟩ n = true := by
  have h : namedF ⟨⟨4, 1, 0, ⟨false, b⟩, ⟨false, 0⟩, 0, 0, 0⟩, k⟩ (needsF 4) = ⟨4, 1, 0, ⟨false, b⟩, ⟨false, 0⟩, 0, 0, 0⟩ := by kernel_rfl
  simp [insOk, insR, needsIs, argF, fnsF, modesF, h, hn]
  rfl
theorem sums_in3 (a b : UInt8) (k n : Int) (hn : 0 < n) : insOk ⟨⟨6, 2, 0, ⟨false, b⟩, ⟨false, a⟩, 0, 0, 0⟩, k⟩ n = true := by
  have h : namedF ⟨⟨6, 2, 0, ⟨false, b⟩, ⟨false, a⟩, 0, 0, 0⟩, k⟩ (needsF 6) = ⟨6, 2, 0, ⟨false, b⟩, ⟨false, a⟩, 0, 0, 0⟩ := by kernel_rfl
  simp [insOk, insR, needsIs, argF, fnsF, modesF, h, hn]
  rfl
theorem sums_thread (a b c : UInt8) : threadF [⟨5, 0, 0, ⟨false, b⟩, ⟨false, 0⟩, 0, 0, 0⟩, ⟨4, 1, 0, ⟨false, c⟩, ⟨false, 0⟩, 0, 0, 0⟩, ⟨6, 2, 0, ⟨false, b⟩, ⟨false, a⟩, 0, 0, 0⟩] 1 = true :=
  threadF_yes (by simp) fun j hj => by
    have h : j = 0 ∨ j = 1 ∨ j = 2 := by simp at hj; omega
    rcases h with rfl | rfl | rfl
    · exact sums_in1 _ _ _ (by decide)
    · exact sums_in2 _ _ _ (by decide)
    · exact sums_in3 _ _ _ _ (by decide)
theorem sums_right (a b c : UInt8) : rightF (sumsF_q1 0 0 0 0 a b c) = 0 := by
  unfold rightF
  have h1 : wordF (sumsF_q1 0 0 0 0 a b c).name = true := by kernel_rfl
  have h2 : namesF (sumsF_q1 0 0 0 0 a b c) = true := by kernel_rfl
  have h3 : ((sumsF_q1 0 0 0 0 a b c).threads.l.any (fun k => !threadF k.l (sumsF_q1 0 0 0 0 a b c).locs.l.length)) = false := by
    show ((!threadF [⟨5, 0, 0, ⟨false, b⟩, ⟨false, 0⟩, 0, 0, 0⟩, ⟨4, 1, 0, ⟨false, c⟩, ⟨false, 0⟩, 0, 0, 0⟩, ⟨6, 2, 0, ⟨false, b⟩, ⟨false, a⟩, 0, 0, 0⟩] 1) || false) = false
    rw [sums_thread]; rfl
  rw [h1, h2, h3]
  rfl
theorem sums_start (a b c : UInt8) : startF (sumsF_q1 0 0 0 0 a b c) = (List.replicate 36 0 ++ a :: List.replicate 105 0, 0) := by
  unfold startF
  rw [sums_right]
  rfl
theorem play_go {p : Prog} {o S : List UInt8} (h : startF p = (S, 0)) : playF p o = loopF (playF_a p o) 49 (ableF p S, [], S) := by
  unfold playF
  rw [h]
  rfl
theorem sums_play (a b c : UInt8) : playF (sumsF_q1 0 0 0 0 a b c) [] = ([a, a + b, c, 0, 0, 0, 0, 0, 0, 0, 0, 0, 0, 0, 0, 0, 0, 0, 0, 0, 0, 0, 0, 0, 0, 0, 0, 0, 0, 0, 0, 0, if c == b then a else c, 0, 0, 0, 0, 0], [0, 0, 0], 0) :=
  (play_go (sums_start a b c)).trans (by kernel_rfl)
theorem sums_end (a b c b28 : UInt8) (h : b28 = if c == b then a else c) : sumsF_b a b c (sumsF_q1 0 0 0 0 a b c) b28 = true := by
  unfold sumsF_b
  rw [sums_play, ← h]
  simp
theorem sums_ak (a b c : UInt8) (n : Nat) : sumsF_ak a b c (sumsF_q1 0 0 0 0 a b c) n = true := by
  unfold sumsF_ak
  cases h : c == b <;> simp only [cond_true, cond_false] <;> exact sums_end _ _ _ _ (by simp [h])
theorem sums_jump (a b c f s : UInt8) : localF (⟨8, 0, 0, ⟨(regF 0).reg, (regF 0).n⟩, ⟨(regF 1).reg, (regF 1).n⟩, f, 0, s⟩ : Ins) [0, a, b, c, 0, 0, 0, 0, 0] = ([if fits f a b then 0 + s + 1 else 0 + 1, a, b, c, 0, 0, 0, 0, 0], true) := by
  show ((if fits f a b = true then [0 + s, a, b, c, 0, 0, 0, 0, 0] else [0, a, b, c, 0, 0, 0, 0, 0]).set 0 ((if fits f a b = true then [0 + s, a, b, c, 0, 0, 0, 0, 0] else [0, a, b, c, 0, 0, 0, 0, 0]).getD 0 0 + 1), true) = _
  split <;> rfl
theorem sums_skip (skip : UInt8) : ¬ (1 = skip % 10 + 1 + 1) := by
  intro h
  have h1 := congrArg UInt8.toNat h
  have h2 : (skip % 10).toNat < 10 := by rw [UInt8.toNat_mod]; exact Nat.mod_lt _ (by decide)
  simp [UInt8.toNat_add] at h1
  rw [UInt8.toNat_mod] at h2
  simp at h2
  omega
theorem sums_round (a b c skip f : UInt8) (over : Bool) (hf : fits f a b = over) (n : Nat) (ra : Nat → Bool)
    (hl : ([⟨4, a == b⟩, ⟨5, a != b⟩, ⟨6, decide (a < b)⟩] : List FnOver).getD n default = ⟨f, over⟩) :
    sumsF_a a b c skip ⟨f, over⟩ ra n = ra (n + 1) := by
  show sumsF_v138 a b c skip n ra (localF _ _) = _
  rw [sums_jump]
  unfold sumsF_v138
  rw [hl, hf]
  have h1 := sums_skip skip
  cases over
  · simp [h1]
  · simp
theorem sums_loop (a b c skip : UInt8) : loopL (sumsF_a a b c skip) (sumsF_ak a b c (sumsF_q1 0 0 0 0 a b c)) [⟨4, a == b⟩, ⟨5, a != b⟩, ⟨6, decide (a < b)⟩] 0 = true := by
  show sumsF_a a b c skip ⟨4, a == b⟩ (loopL (sumsF_a a b c skip) (sumsF_ak a b c (sumsF_q1 0 0 0 0 a b c)) [⟨5, a != b⟩, ⟨6, decide (a < b)⟩]) 0 = true
  rw [sums_round a b c skip 4 (a == b) rfl _ _ rfl]
  show sumsF_a a b c skip ⟨5, a != b⟩ (loopL (sumsF_a a b c skip) (sumsF_ak a b c (sumsF_q1 0 0 0 0 a b c)) [⟨6, decide (a < b)⟩]) 1 = true
  rw [sums_round a b c skip 5 (a != b) rfl _ _ rfl]
  show sumsF_a a b c skip ⟨6, decide (a < b)⟩ (loopL (sumsF_a a b c skip) (sumsF_ak a b c (sumsF_q1 0 0 0 0 a b c)) []) 2 = true
  rw [sums_round a b c skip 6 (decide (a < b)) rfl _ _ rfl]
  exact sums_ak _ _ _ _
theorem sums_xor (a b : UInt8) : (a ^^^ b) ^^^ b = a := by
  rw [UInt8.xor_assoc, UInt8.xor_self, UInt8.xor_zero]
theorem sums_true (a b c skip : UInt8) : sumsF a b c skip (sumsF_q1 0 0 0 0 a b c) = true := by
  have l1 : localF (⟨3, 3, 0, ⟨(regF 0).reg, (regF 0).n⟩, ⟨(regF 1).reg, (regF 1).n⟩, 1, 0, 0⟩ : Ins) [0, a, b, c, 0, 0, 0, 0, 0] = ([1, a, b, c, a + b, 0, 0, 0, 0], true) := by kernel_rfl
  have l2 : localF (⟨3, 3, 0, ⟨(regF 3).reg, (regF 3).n⟩, ⟨(regF 1).reg, (regF 1).n⟩, 2, 0, 0⟩ : Ins) [1, a, b, c, a + b, 0, 0, 0, 0] = ([2, a, b, c, a + b - b, 0, 0, 0, 0], true) := by kernel_rfl
  have l3 : localF (⟨3, 3, 0, ⟨(regF 0).reg, (regF 0).n⟩, ⟨(regF 1).reg, (regF 1).n⟩, 3, 0, 0⟩ : Ins) [0, a, b, c, 0, 0, 0, 0, 0] = ([1, a, b, c, a ^^^ b, 0, 0, 0, 0], true) := by kernel_rfl
  have l4 : localF (⟨3, 3, 0, ⟨(regF 3).reg, (regF 3).n⟩, ⟨(regF 1).reg, (regF 1).n⟩, 3, 0, 0⟩ : Ins) [1, a, b, c, a ^^^ b, 0, 0, 0, 0] = ([2, a, b, c, (a ^^^ b) ^^^ b, 0, 0, 0, 0], true) := by kernel_rfl
  unfold sumsF
  rw [l1]
  unfold sumsF_v41
  rw [l2]
  unfold sumsF_v51
  rw [l3]
  unfold sumsF_v61
  rw [l4]
  unfold sumsF_v71
  rw [sums_loop, sums_xor, UInt8.add_sub_cancel]
  simp
theorem sums_law (a b c skip : UInt8) (w : World) (hg : Glob w) :
    Calls Tryz.prog 4 #[bv a, bv b, bv c, bv skip] w fun e w' => e = .returned (.bool true) ∧ Ext w w' := by
  have h := sumsF_spec a b c skip _ rfl w hg
  rw [sums_true] at h
  exact h

end Go.Proofs.YtpnaooajmdildaaGreatDoor
