/- Walks, printed by a program of this repository (wip/tool). -/
import Derived.Test.YtimonjemjhecoaaGreatDoorWaB
namespace Go.Proofs.YtimonjemjhecoaaGreatDoor
open Go.RowKit
open Go
attribute [local irreducible] wpList wpQuiet wpX Code.wp
set_option maxHeartbeats 1000000
set_option maxRecDepth 100000
set_option linter.unusedSimpArgs false
set_option linter.unusedVariables false


section
variable {p : Prog} {mach : UInt8} {S T : List UInt8}
theorem bare_self (hv : Valid p S) : bareOf S = S := by
  refine ext_getD (n := 142) (bare_len hv.len) hv.len fun j hj => ?_
  rw [bare_getD hv.len]
  split
  · rename_i h; exact (hv.rest j h.1 h.2).symm
  · rfl
theorem bvalid_of_valid (hv : Valid p S) (hk : mach = 1 ∨ mach = 2 ∨ mach = 3) : BValid p mach S := by
  have hz := hv.rest
  refine bvalid_of hv.len hk hv.right (fun k hk hk4 => hv.pc k hk) (fun k hk hk4 j hj => hv.idle k hk hk4 j hj) (fun l hl hl6 => hv.mem l hl hl6) (fun u hu => ?_) (fun u hu h => ?_) (fun u hu i hi h => ?_) (fun u hu i hi h => ?_) (fun h3 u hu i hi hp h => ?_)
  · rw [hz _ (by omega) (by omega)]; exact Nat.zero_le _
  · rw [hz _ (by omega) (by omega)] at h; exact absurd h (by decide)
  · unfold stL stV; exact ⟨hz _ (by omega) (by omega), hz _ (by omega) (by omega)⟩
  · rw [hz _ (by omega) (by omega)] at h; exact absurd h (Nat.not_lt_zero _)
  · rw [hz (138 + u) (by omega) (by omega)] at h; exact absurd h (Nat.not_lt_zero _)
theorem goes_load {k : Nat} (hv : Valid p S) (hm : mayN p S k = true) (ho : (insB p S k).op = 1) (j : Nat) : (goesF p S k).getD j 0 = if j = k * 9 then S.getD (k * 9) 0 + 1 else if j = k * 9 + 1 + (insB p S k).dst.toNat then S.getD (36 + (insB p S k).loc.toNat) 0 else S.getD j 0 := by
  obtain ⟨hk4, h6, _, _⟩ := hv.may hm
  obtain ⟨hk, hpc⟩ := mayN_iff.1 hm
  have hat := hv.ok.at hk hpc
  have hS := hv.len
  have h9 := thOf_length hS hk4
  rw [goes_getD hS hk4 h6]
  change (insAt p k (pcOf S k).toNat).op = 1 at ho
  have hd : (insAt p k (pcOf S k).toNat).dst.toNat < 8 := UInt8.lt_iff_toNat_lt.1 hat.2.dst
  change (if k * 9 ≤ j ∧ j < k * 9 + 9 then (newTh (insAt p k (pcOf S k).toNat) (thOf S k) (S.getD (36 + (insAt p k (pcOf S k).toNat).loc.toNat) 0)).getD (j - k * 9) 0 else if j = 36 + (insAt p k (pcOf S k).toNat).loc.toNat then newMem (insAt p k (pcOf S k).toNat) (thOf S k) (S.getD (36 + (insAt p k (pcOf S k).toNat).loc.toNat) 0) else S.getD j 0) = if j = k * 9 then S.getD (k * 9) 0 + 1 else if j = k * 9 + 1 + (insAt p k (pcOf S k).toNat).dst.toNat then S.getD (36 + (insAt p k (pcOf S k).toNat).loc.toNat) 0 else S.getD j 0
  generalize insAt p k (pcOf S k).toNat = i at *
  have hl : (localF i (thOf S k)).2 = false := by simp [localF, ho]
  have e1 : newMem i (thOf S k) (S.getD (36 + i.loc.toNat) 0) = S.getD (36 + i.loc.toNat) 0 := by
    unfold newMem turnF
    rw [hl, ho]
    rfl
  have e2 : ∀ q, q < 9 → (newTh i (thOf S k) (S.getD (36 + i.loc.toNat) 0)).getD q 0 = if q = 0 then S.getD (k * 9) 0 + 1 else if q = 1 + i.dst.toNat then S.getD (36 + i.loc.toNat) 0 else S.getD (k * 9 + q) 0 := fun q hq => by
    unfold newTh putAt
    rw [hl, ho, if_neg (by decide), if_pos (by decide), if_pos (UInt8.lt_iff_toNat_lt.2 hd), set_getD _ _ _ _ (by rw [List.length_set]; omega), thOf_getD _ _ _ (by omega), set_getD _ _ _ _ (by omega), thOf_getD _ _ _ hq]
    rw [Nat.zero_add]
    rfl
  by_cases hj : k * 9 ≤ j ∧ j < k * 9 + 9
  · rw [if_pos hj, e2 _ (by omega)]
    by_cases h1 : j = k * 9
    · rw [if_pos (by omega), if_pos h1]
    · rw [if_neg (by omega), if_neg h1]
      by_cases h2 : j = k * 9 + 1 + i.dst.toNat
      · rw [if_pos (by omega), if_pos h2]
      · rw [if_neg (by omega), if_neg h2]
        congr 1; omega
  · rw [if_neg hj, if_neg (show ¬ j = k * 9 by omega), if_neg (show ¬ j = k * 9 + 1 + i.dst.toNat by omega)]
    split
    · rename_i h; rw [e1, h]
    · rfl
theorem goes_store {k : Nat} (hv : Valid p S) (hm : mayN p S k = true) (ho : (insB p S k).op = 2) (j : Nat) : (goesF p S k).getD j 0 = if j = k * 9 then S.getD (k * 9) 0 + 1 else if j = 36 + (insB p S k).loc.toNat then worth (insB p S k).a ((S.drop (k * 9 + 1)).take 8) else S.getD j 0 := by
  obtain ⟨hk4, h6, _, _⟩ := hv.may hm
  have hS := hv.len
  have h9 := thOf_length hS hk4
  rw [goes_getD hS hk4 h6]
  change (insAt p k (pcOf S k).toNat).op = 2 at ho
  change (if k * 9 ≤ j ∧ j < k * 9 + 9 then (newTh (insAt p k (pcOf S k).toNat) (thOf S k) (S.getD (36 + (insAt p k (pcOf S k).toNat).loc.toNat) 0)).getD (j - k * 9) 0 else if j = 36 + (insAt p k (pcOf S k).toNat).loc.toNat then newMem (insAt p k (pcOf S k).toNat) (thOf S k) (S.getD (36 + (insAt p k (pcOf S k).toNat).loc.toNat) 0) else S.getD j 0) = if j = k * 9 then S.getD (k * 9) 0 + 1 else if j = 36 + (insAt p k (pcOf S k).toNat).loc.toNat then worth (insAt p k (pcOf S k).toNat).a ((S.drop (k * 9 + 1)).take 8) else S.getD j 0
  generalize insAt p k (pcOf S k).toNat = i at *
  have hl : (localF i (thOf S k)).2 = false := by simp [localF, ho]
  have e1 : newMem i (thOf S k) (S.getD (36 + i.loc.toNat) 0) = worth i.a ((S.drop (k * 9 + 1)).take 8) := by
    unfold newMem turnF
    rw [hl, ho, regs_eq]
    rfl
  have e2 : ∀ q, q < 9 → (newTh i (thOf S k) (S.getD (36 + i.loc.toNat) 0)).getD q 0 = if q = 0 then S.getD (k * 9) 0 + 1 else S.getD (k * 9 + q) 0 := fun q hq => by
    unfold newTh
    rw [hl, ho, if_neg (by decide), if_neg (by decide), set_getD _ _ _ _ (by omega), thOf_getD _ _ _ (by omega), thOf_getD _ _ _ hq]
    rfl
  by_cases hj : k * 9 ≤ j ∧ j < k * 9 + 9
  · rw [if_pos hj, e2 _ (by omega)]
    by_cases h1 : j = k * 9
    · rw [if_pos (by omega), if_pos h1]
    · rw [if_neg (by omega), if_neg h1, if_neg (by omega)]
      congr 1; omega
  · rw [if_neg hj, if_neg (show ¬ j = k * 9 by omega), e1]
theorem goes_high {k j : Nat} (hv : Valid p S) (hm : mayN p S k = true) (hj : 42 ≤ j) : (goesF p S k).getD j 0 = S.getD j 0 := by
  obtain ⟨hk4, h6, _, _⟩ := hv.may hm
  rw [goes_getD hv.len hk4 h6, if_neg (by omega), if_neg (by omega)]
/-- The pass that thread k makes. -/
def goP (k : Nat) : Pass := ⟨thU k, false, 0⟩
theorem may_lt (hv : Valid p S) {k : Nat} (hm : mayN p S k = true) : k < p.threads.l.length ∧ k < 4 ∧ (S.getD (k * 9) 0).toNat < (p.threads.l.getD k default).l.length ∧ (thU k).toNat = k := by
  obtain ⟨hk, hpc⟩ := mayN_iff.1 hm
  have h4 := hv.ok.threads
  exact ⟨hk, by omega, hpc, thU_nat (by omega)⟩
theorem goP_mem (hv : Valid p S) {k : Nat} (hm : mayN p S k = true) : goP k ∈ passesF p mach S := by
  obtain ⟨hk, hk4, hpc, hU⟩ := may_lt hv hm
  refine passes_mem.2 ⟨k, hk, .inl ⟨bmay_iff.2 ⟨hpc, fun _ => hv.rest _ (by omega) (by omega), fun _ => .inl (hv.rest _ (by omega) (by omega))⟩, rfl⟩⟩
/-- From a state with empty buffers: no store is buffered, the move is that of chapter 13. -/
theorem does_plain (hv : Valid p S) (hk' : mach = 1 ∨ mach = 2 ∨ mach = 3) {k : Nat} (hm : mayN p S k = true) (ho : (insB p S k).op = 2 → mach = 1) : doesF p mach S (goP k) = goesF p S k := by
  obtain ⟨hk, hk4, hpc, hU⟩ := may_lt hv hm
  have hb := bvalid_of_valid hv hk'
  have hx := goP_mem (mach := mach) hv hm
  have hT := (does_next hb hx).1
  have hU' : (goP k).thread.toNat = k := hU
  refine ext_getD hT.len (goes_length hv.len hk4) fun j hj => ?_
  by_cases h1 : (insB p S k).op = 1
  · rw [goes_load hv hm h1, does_load hb hx rfl (by rw [hU']; exact h1)]
    rw [hU']
    have hat := hv.ok.at hk hpc
    have h6 := hv.ok.loc hk hpc
    have hL := hv.ok.locs
    rw [sees_mem hb (loc := (insB p S k).loc) (by unfold insB; omega) hk4 (hv.rest _ (by omega) (by omega))]
  · rw [does_other hb hx rfl (by rw [hU']; exact h1) (by rw [hU']; exact ho), hU', bare_self hv]
    split
    · rename_i h; exact (goes_high hv hm h.1).symm
    · rfl
/-- The pass that drains the only store of thread k. -/
def drP1 (mach : UInt8) (k : Nat) (loc : UInt8) : Pass := ⟨thU k, true, if mach = 3 then loc else 0⟩
theorem does_both (hv : Valid p S) (hk' : mach = 2 ∨ mach = 3) {k : Nat} (hm : mayN p S k = true) (ho : (insB p S k).op = 2) :
    (doesF p mach S (goP k)).getD (42 + k * 24) 0 = (insB p S k).loc ∧ drP1 mach k (insB p S k).loc ∈ passesF p mach (doesF p mach S (goP k)) ∧ doesF p mach (doesF p mach S (goP k)) (drP1 mach k (insB p S k).loc) = goesF p S k := by
  obtain ⟨hk, hk4, hpc, hU⟩ := may_lt hv hm
  have hb := bvalid_of_valid hv (mach := mach) (.inr hk')
  have hx := goP_mem (mach := mach) hv hm
  have hT := (does_next hb hx).1
  have hU' : (goP k).thread.toNat = k := hU
  have hm1 : mach ≠ 1 := by rcases hk' with rfl | rfl <;> decide
  have D := does_store hb hx rfl (by rw [hU']; exact ho) hm1
  have z : (0 : UInt8).toNat = 0 := rfl
  have hz : ∀ u, u < 4 → S.getD (138 + u) 0 = 0 := fun u hu => hv.rest _ (by omega) (by omega)
  rw [hU', hz k hk4, show keepPos mach S k (insB p S k).loc (0 : UInt8).toNat = 0 by rfl] at D
  generalize hTe : doesF p mach S (goP k) = T at *
  have hloc : stL T k 0 = (insB p S k).loc := D.put.1
  have hone : (T.getD (138 + k) 0).toNat = 1 := by rw [D.own, hz k hk4, z]
  have hdr : drP mach T k 0 = drP1 mach k (insB p S k).loc := by
    unfold drP drP1
    rw [hloc]
    rcases hk' with rfl | rfl <;> rfl
  have hy : drP1 mach k (insB p S k).loc ∈ passesF p mach T := by
    refine passes_mem.2 ⟨k, hk, .inr ⟨0, by omega, ?_, hdr⟩⟩
    unfold drC
    rcases hk' with rfl | rfl <;> rfl
  refine ⟨?_, hy, ?_⟩
  · have e : T.getD (42 + k * 24) 0 = stL T k 0 := by unfold stL; rw [Nat.zero_mul, Nat.add_zero]
    rw [e, hloc]
  · have hU2 : (drP1 mach k (insB p S k).loc).thread.toNat = k := hU
    obtain ⟨a, E, -, -⟩ := does_drain hT hy rfl
    have hV := (does_next hT hy).1
    rw [hU2] at E
    have hlt := E.lt
    obtain rfl : a = 0 := by omega
    have hL := hv.ok.loc hk hpc
    have hLc := hv.ok.locs
    generalize doesF p mach T (drP1 mach k (insB p S k).loc) = V at *
    have hVz : ∀ u, u < 4 → V.getD (138 + u) 0 = 0 := fun u hu => by
      by_cases e : u = k
      · subst e
        have := E.own
        exact UInt8.toNat_inj.1 (by omega)
      · rw [E.many u hu e, D.many u hu e, hz u hu]
    have hpcU : T.getD (k * 9) 0 = S.getD (k * 9) 0 + 1 := by
      have h1 := D.pc
      have h2 := len_le hv.ok k
      refine UInt8.toNat_inj.1 ?_
      rw [h1, UInt8.toNat_add, show (1 : UInt8).toNat = 1 by rfl]
      omega
    refine ext_getD hV.len (goes_length hv.len hk4) fun j hj => ?_
    rw [goes_store hv hm ho]
    rcases Nat.lt_or_ge j 36 with h1 | h1
    · rw [E.low j h1]
      by_cases e : j = k * 9
      · rw [if_pos e, e, hpcU]
      · rw [if_neg e, if_neg (by omega), D.low j (by omega) e]
    · rw [if_neg (by omega)]
      rcases Nat.lt_or_ge j 42 with h2 | h2
      · have hm' := E.mem (j - 36) (by omega)
        rw [show 36 + (j - 36) = j by omega, hloc] at hm'
        rw [hm']
        by_cases e : j = 36 + (insB p S k).loc.toNat
        · rw [if_pos (by omega), if_pos e]; exact D.put.2
        · rw [if_neg (by omega), if_neg e, D.low j h2 (by omega)]
      · rw [if_neg (by have : (insB p S k).loc.toNat < 6 := by { unfold insB; omega }
                       omega), hv.rest j h2 hj]
        rcases Nat.lt_or_ge j 138 with h3 | h3
        · have hzz := hV.zero ((j - 42) / 24) (by omega) ((j - 42) % 24 / 2) (by omega) (by rw [hVz _ (by omega)]; exact Nat.zero_le _)
          unfold stL stV at hzz
          rcases (by omega : (j - 42) % 2 = 0 ∨ (j - 42) % 2 = 1) with h4 | h4
          · have := hzz.1
            rw [show 42 + (j - 42) / 24 * 24 + (j - 42) % 24 / 2 * 2 = j by omega] at this
            exact this
          · have := hzz.2
            rw [show 42 + (j - 42) / 24 * 24 + (j - 42) % 24 / 2 * 2 + 1 = j by omega] at this
            exact this
        · have := hVz (j - 138) (by omega)
          rw [show 138 + (j - 138) = j by omega] at this
          exact this
end

end Go.Proofs.YtimonjemjhecoaaGreatDoor
