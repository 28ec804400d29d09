/- Walks, printed by a program of this repository (wip/tool). -/
import Derived.Test.YtpnaooajmdildaaGreatDoorWr
import Derived.Test.YtpnaooajmdildaaGreatDoorBL
namespace Go.Proofs.YtpnaooajmdildaaGreatDoor
open Go.RowKit
open Go
attribute [local irreducible] wpList wpQuiet wpX Code.wp
set_option maxHeartbeats 1000000
set_option maxRecDepth 100000
set_option linter.unusedSimpArgs false
set_option linter.unusedVariables false


theorem wrong_a {p : Prog} {S : List UInt8} (t : Int) (h : aRightF p S = false) : wrongF_a p t S = true := by
  unfold wrongF_a
  have ho : overF p S = false := by unfold overF; rw [h]; rfl
  rw [h, moves_no h, move_no (.inl h), ho]
  simp
theorem not_valid {p : Prog} {S : List UInt8} (hl : S.length = 142) (h : ¬ Valid p S) : aRightF p S = false := by
  cases hr : aRightF p S
  · rfl
  · exact absurd ((valid_iff hl).1 hr) h
theorem much_ne (much : UInt8) : (if much < (1 : UInt8) then (1 : UInt8) else much) ≠ 0 := by
  split
  · decide
  · rename_i h
    intro e
    subst e
    exact h (by decide)
theorem wrong_true (p : Prog) (what much : UInt8) (t : Int) : wrongF p what much t = true := by
  unfold wrongF
  by_cases hr : rightF p = 0
  · obtain ⟨h2, hv⟩ := start_valid hr
    have hok := hv.ok
    have hn := much_ne much
    rw [h2]
    simp only [bne_self_eq_false, cond_false]
    generalize (startF p).1 = S at *
    have hlen := hv.len
    cases h0 : (what % (4 : UInt8)) == (0 : UInt8)
    · simp only [cond_false]
      cases h1 : (what % (4 : UInt8)) == (1 : UInt8)
      · simp only [cond_false]
        cases h3 : (what % (4 : UInt8)) == (2 : UInt8)
        · simp only [cond_false]
          have e1 : (much % (4 : UInt8)).toNat < 4 := by rw [UInt8.toNat_mod]; exact Nat.mod_lt _ (by decide)
          have e2 : (much % (12 : UInt8)).toNat < 12 := by rw [UInt8.toNat_mod]; exact Nat.mod_lt _ (by decide)
          refine wrong_a t (not_valid (by rw [List.length_set, hlen]) fun h => hn ?_)
          have := h.rest (42 + (much % (4 : UInt8)).toNat * 24 + (much % (12 : UInt8)).toNat * 2 + 1) (by omega) (by omega)
          rwa [set_getD _ _ _ _ (by omega), if_pos rfl] at this
        · simp only [cond_true]
          cases h4 : (((p.locs.l.length : Nat) : Int) == (6 : Int))
          · simp only [cond_false]
            have h4' : p.locs.l.length ≠ 6 := by intro e; rw [e] at h4; simp at h4
            have := hok.locs
            refine wrong_a t (not_valid (by rw [List.length_set, hlen]) fun h => hn ?_)
            have := h.mem 5 (by omega) (by omega)
            rwa [set_getD _ _ _ _ (by omega), if_pos rfl] at this
          · rfl
      · simp only [cond_true]
        cases h4 : (((p.threads.l.length : Nat) : Int) == (4 : Int))
        · simp only [cond_false]
          have h4' : p.threads.l.length ≠ 4 := by intro e; rw [e] at h4; simp at h4
          have := hok.threads
          have e1 : (much % (8 : UInt8)).toNat < 8 := by rw [UInt8.toNat_mod]; exact Nat.mod_lt _ (by decide)
          refine wrong_a t (not_valid (by rw [List.length_set, hlen]) fun h => hn ?_)
          have := h.idle 3 (by omega) (by omega) (1 + (much % (8 : UInt8)).toNat) (by omega)
          rwa [set_getD _ _ _ _ (by omega), if_pos (by omega)] at this
        · rfl
    · simp only [cond_true]
      refine wrong_a t (not_valid (by rw [List.length_set, hlen]) fun h => ?_)
      have h12 := len_le hok 0
      have hp := h.pc 0 hok.threads.1
      rw [pcOf_getD, set_getD _ _ _ _ (by omega), if_pos (by omega)] at hp
      have e1 : ((if much < (1 : UInt8) then (1 : UInt8) else much) % (100 : UInt8)).toNat < 100 := by rw [UInt8.toNat_mod]; exact Nat.mod_lt _ (by decide)
      have e2 : (UInt8.ofNat ((((p.threads.l.getD (0) default).l.length : Nat) : Int) % 256).toNat).toNat = (p.threads.l.getD 0 default).l.length := by
        rw [UInt8.toNat_ofNat']; omega
      rw [UInt8.toNat_add, UInt8.toNat_add, e2] at hp
      have e3 : (1 : UInt8).toNat = 1 := rfl
      omega
  · have hs := start_no hr
    have hv : aRightF p (List.replicate 142 (0 : UInt8)) = false := not_valid (by simp) fun h => hr h.right
    rw [hs]
    simp only
    show wrongF_v36 p _ = true
    unfold wrongF_v36
    have hp : playF p [] = (List.replicate 38 0, [], 2) := by
      unfold playF; rw [hs]; rfl
    have ho : overF p (List.replicate 142 (0 : UInt8)) = false := by unfold overF; rw [hv]; rfl
    rw [hs, hp, moves_no hv, move_no (.inl hv), hv, ho]
    simp [hr]

end Go.Proofs.YtpnaooajmdildaaGreatDoor
