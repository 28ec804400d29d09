/- Walks, printed by a program of this repository (wip/tool). -/
import Derived.Test.YtimonjemjhecoaaGreatDoorBu1
import Derived.Test.YtimonjemjhecoaaGreatDoorSL
namespace Go.Proofs.YtimonjemjhecoaaGreatDoor
open Go.RowKit
open Go
attribute [local irreducible] wpList wpQuiet wpX Code.wp
set_option maxHeartbeats 1000000
set_option maxRecDepth 100000
set_option linter.unusedSimpArgs false
set_option linter.unusedVariables false


theorem keepAt_getD {S : List UInt8} {t : Nat} {x : List UInt8} {m at' j : Nat} (hS : S.length = 142) (hx : x.length = 2) (ht : t < 4) (hm : m < 12) (ha : at' ≤ m) :
    (keepAt S t x m at').getD j 0 = if j = 138 + t then S.getD (138 + t) 0 + 1
      else if 42 + t * 24 + at' * 2 ≤ j ∧ j < 42 + t * 24 + at' * 2 + 2 then x.getD (j - (42 + t * 24 + at' * 2)) 0
      else if 42 + t * 24 + at' * 2 + 2 ≤ j ∧ j < 42 + t * 24 + m * 2 + 2 then S.getD (j - 2) 0 else S.getD j 0 := by
  unfold keepAt
  simp only
  have h1 : ((S.drop (42 + t * 24 + at' * 2)).take ((m - at') * 2)).length = (m - at') * 2 := by simp only [List.length_take, List.length_drop]; omega
  have e1 : S.drop ((42 + t * 24 + (at' + 1) * 2) + (m - at') * 2) = S.drop ((42 + t * 24 + (at' + 1) * 2) + ((S.drop (42 + t * 24 + at' * 2)).take ((m - at') * 2)).length) := by rw [h1]
  rw [e1]
  have hS1 : (S.take (42 + t * 24 + (at' + 1) * 2) ++ (S.drop (42 + t * 24 + at' * 2)).take ((m - at') * 2) ++ S.drop ((42 + t * 24 + (at' + 1) * 2) + ((S.drop (42 + t * 24 + at' * 2)).take ((m - at') * 2)).length)).length = 142 := by
    rw [splice_length _ _ _ (by omega), hS]
  have hS2 : ((S.take (42 + t * 24 + (at' + 1) * 2) ++ (S.drop (42 + t * 24 + at' * 2)).take ((m - at') * 2) ++ S.drop ((42 + t * 24 + (at' + 1) * 2) + ((S.drop (42 + t * 24 + at' * 2)).take ((m - at') * 2)).length)).take (42 + t * 24 + at' * 2) ++ x ++ (S.take (42 + t * 24 + (at' + 1) * 2) ++ (S.drop (42 + t * 24 + at' * 2)).take ((m - at') * 2) ++ S.drop ((42 + t * 24 + (at' + 1) * 2) + ((S.drop (42 + t * 24 + at' * 2)).take ((m - at') * 2)).length)).drop (42 + t * 24 + at' * 2 + x.length)).length = 142 := by
    rw [splice_length _ _ _ (by omega), hS1]
  rw [set_getD _ _ _ _ (by omega)]
  have g1 : ∀ k, (S.take (42 + t * 24 + (at' + 1) * 2) ++ (S.drop (42 + t * 24 + at' * 2)).take ((m - at') * 2) ++ S.drop ((42 + t * 24 + (at' + 1) * 2) + ((S.drop (42 + t * 24 + at' * 2)).take ((m - at') * 2)).length)).getD k 0 = if 42 + t * 24 + (at' + 1) * 2 ≤ k ∧ k < 42 + t * 24 + (at' + 1) * 2 + (m - at') * 2 then S.getD (k - 2) 0 else S.getD k 0 := fun k => by
    rw [splice_getD _ _ _ _ (by omega), h1]
    split
    · rw [sub_getD _ _ _ _ (by omega)]
      congr 1
      omega
    · rfl
  have g2 : ∀ k, ((S.take (42 + t * 24 + (at' + 1) * 2) ++ (S.drop (42 + t * 24 + at' * 2)).take ((m - at') * 2) ++ S.drop ((42 + t * 24 + (at' + 1) * 2) + ((S.drop (42 + t * 24 + at' * 2)).take ((m - at') * 2)).length)).take (42 + t * 24 + at' * 2) ++ x ++ (S.take (42 + t * 24 + (at' + 1) * 2) ++ (S.drop (42 + t * 24 + at' * 2)).take ((m - at') * 2) ++ S.drop ((42 + t * 24 + (at' + 1) * 2) + ((S.drop (42 + t * 24 + at' * 2)).take ((m - at') * 2)).length)).drop (42 + t * 24 + at' * 2 + x.length)).getD k 0 = if 42 + t * 24 + at' * 2 ≤ k ∧ k < 42 + t * 24 + at' * 2 + 2 then x.getD (k - (42 + t * 24 + at' * 2)) 0 else if 42 + t * 24 + (at' + 1) * 2 ≤ k ∧ k < 42 + t * 24 + (at' + 1) * 2 + (m - at') * 2 then S.getD (k - 2) 0 else S.getD k 0 := fun k => by
    rw [splice_getD _ _ _ _ (by omega), hx]
    split
    · rfl
    · exact g1 k
  split
  · rw [g2, if_neg (by omega), if_neg (by omega)]
  · rw [g2]
    split
    · rfl
    · split
      · rw [if_pos (by omega)]
      · rw [if_neg (by omega)]
theorem drainAt_getD {S : List UInt8} {t m at' j : Nat} (hS : S.length = 142) (ht : t < 4) (hm : m ≤ 12) (ha : at' < m) (hl : (stL S t at').toNat < 6) :
    (drainAt S t m at').getD j 0 = if j = 138 + t then S.getD (138 + t) 0 - 1
      else if 42 + t * 24 + (m - 1) * 2 ≤ j ∧ j < 42 + t * 24 + (m - 1) * 2 + 2 then 0
      else if 42 + t * 24 + at' * 2 ≤ j ∧ j < 42 + t * 24 + (m - 1) * 2 then S.getD (j + 2) 0
      else if j = 36 + (stL S t at').toNat then stV S t at' else S.getD j 0 := by
  unfold drainAt
  simp only
  have hS0 : (S.set (36 + (stL S t at').toNat) (stV S t at')).length = 142 := by rw [List.length_set, hS]
  have g0 : ∀ k, (S.set (36 + (stL S t at').toNat) (stV S t at')).getD k 0 = if k = 36 + (stL S t at').toNat then stV S t at' else S.getD k 0 := fun k => by
    rw [set_getD _ _ _ _ (by omega)]
  rw [show (((m : Nat) : Int) - 1).toNat = m - 1 by omega]
  generalize hT : S.set (36 + (stL S t at').toNat) (stV S t at') = T at *
  have h1 : ((T.drop (42 + t * 24 + (at' + 1) * 2)).take ((m - (at' + 1)) * 2)).length = (m - (at' + 1)) * 2 := by simp only [List.length_take, List.length_drop]; omega
  have e1 : T.drop ((42 + t * 24 + at' * 2) + (m - (at' + 1)) * 2) = T.drop ((42 + t * 24 + at' * 2) + ((T.drop (42 + t * 24 + (at' + 1) * 2)).take ((m - (at' + 1)) * 2)).length) := by rw [h1]
  rw [e1]
  have hS1 : (T.take (42 + t * 24 + at' * 2) ++ (T.drop (42 + t * 24 + (at' + 1) * 2)).take ((m - (at' + 1)) * 2) ++ T.drop ((42 + t * 24 + at' * 2) + ((T.drop (42 + t * 24 + (at' + 1) * 2)).take ((m - (at' + 1)) * 2)).length)).length = 142 := by
    rw [splice_length _ _ _ (by omega), hS0]
  have g1 : ∀ k, (T.take (42 + t * 24 + at' * 2) ++ (T.drop (42 + t * 24 + (at' + 1) * 2)).take ((m - (at' + 1)) * 2) ++ T.drop ((42 + t * 24 + at' * 2) + ((T.drop (42 + t * 24 + (at' + 1) * 2)).take ((m - (at' + 1)) * 2)).length)).getD k 0 = if 42 + t * 24 + at' * 2 ≤ k ∧ k < 42 + t * 24 + at' * 2 + (m - (at' + 1)) * 2 then T.getD (k + 2) 0 else T.getD k 0 := fun k => by
    rw [splice_getD _ _ _ _ (by omega), h1]
    split
    · rw [sub_getD _ _ _ _ (by omega)]
      congr 1
      omega
    · rfl
  generalize (T.take (42 + t * 24 + at' * 2) ++ (T.drop (42 + t * 24 + (at' + 1) * 2)).take ((m - (at' + 1)) * 2) ++ T.drop ((42 + t * 24 + at' * 2) + ((T.drop (42 + t * 24 + (at' + 1) * 2)).take ((m - (at' + 1)) * 2)).length)) = U at *
  have h2 : (List.replicate 2 (0 : UInt8)).length = 2 := rfl
  have g2 : ∀ k, (U.take (42 + t * 24 + (m - 1) * 2) ++ List.replicate 2 0 ++ U.drop (42 + t * 24 + (m - 1) * 2 + (List.replicate 2 (0 : UInt8)).length)).getD k 0 = if 42 + t * 24 + (m - 1) * 2 ≤ k ∧ k < 42 + t * 24 + (m - 1) * 2 + 2 then 0 else U.getD k 0 := fun k => by
    rw [splice_getD _ _ _ _ (by rw [h2]; omega), h2]
    split
    · exact zero_getD 2 _
    · rfl
  have hS2 : (U.take (42 + t * 24 + (m - 1) * 2) ++ List.replicate 2 0 ++ U.drop (42 + t * 24 + (m - 1) * 2 + (List.replicate 2 (0 : UInt8)).length)).length = 142 := by
    rw [splice_length _ _ _ (by rw [h2]; omega), hS1]
  rw [set_getD _ _ _ _ (by omega)]
  split
  · rw [g2, if_neg (by omega), g1, if_neg (by omega), g0, if_neg (by omega)]
  · rw [g2]
    split
    · rfl
    · rw [g1]
      split
      · rw [if_pos (by omega), g0, if_neg (by omega)]
      · rw [if_neg (by omega), g0]

end Go.Proofs.YtimonjemjhecoaaGreatDoor
