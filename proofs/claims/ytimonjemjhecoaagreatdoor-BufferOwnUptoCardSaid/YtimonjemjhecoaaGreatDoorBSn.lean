/- Walks, printed by a program of this repository (wip/tool). -/
import Derived.Test.YtimonjemjhecoaaGreatDoorBV3
namespace Go.Proofs.YtimonjemjhecoaaGreatDoor
open Go.RowKit
open Go
attribute [local irreducible] wpList wpQuiet wpX Code.wp
set_option maxHeartbeats 1000000
set_option maxRecDepth 100000
set_option linter.unusedSimpArgs false
set_option linter.unusedVariables false


/-- The youngest store to loc among the first m of a thread's buffer, or what is in memory. -/
def seenAt (S : List UInt8) (t : Nat) (loc v : UInt8) : Nat → UInt8
  | 0 => v
  | m + 1 => if stL S t m = loc then stV S t m else seenAt S t loc v m
theorem seen_go (S : List UInt8) (t : Nat) (loc v : UInt8) (m : Nat) : ∀ n k, k + n = m → loopN (seenF_a S (t : Int) loc) seenF_ak n (seenAt S t loc v k, k) = seenAt S t loc v m
  | 0, k, h => by
    obtain rfl : k = m := by omega
    rfl
  | n + 1, k, h => by
    show seenF_a S (t : Int) loc (loopN (seenF_a S (t : Int) loc) seenF_ak n) (seenAt S t loc v k, k) = _
    simp only [seenF_a]
    rw [Int.toNat_natCast, sub_getD _ _ _ _ (by omega), sub_getD _ _ _ _ (by omega), Nat.add_zero]
    have ih := seen_go S t loc v m n (k + 1) (by omega)
    rw [← ih]
    show (bif (stL S t k == loc) then loopN (seenF_a S (t : Int) loc) seenF_ak n (stV S t k, k + 1) else loopN (seenF_a S (t : Int) loc) seenF_ak n (seenAt S t loc v k, k + 1)) = _
    by_cases h : stL S t k = loc
    · rw [beq_iff_eq.2 h, cond_true]
      congr 2
      show _ = if stL S t k = loc then stV S t k else seenAt S t loc v k
      rw [if_pos h]
    · rw [beq_eq_false_iff_ne.2 h, cond_false]
      congr 2
      show _ = if stL S t k = loc then stV S t k else seenAt S t loc v k
      rw [if_neg h]
theorem seen_eq {S : List UInt8} {t : Nat} {loc : UInt8} (ht : t < 4) (hl : loc.toNat < 6) (hm : (S.getD (138 + t) 0).toNat ≤ 12) : seenF S (t : Int) loc = seenAt S t loc (S.getD (36 + loc.toNat) 0) (S.getD (138 + t) 0).toNat := by
  unfold seenF
  rw [decide_eq_false (show ¬ ((t : Nat) : Int) < 0 by omega), decide_eq_false (show ¬ (4 : Int) ≤ ((t : Nat) : Int) by omega), decide_eq_false (fun h => by
    have h1 := UInt8.le_iff_toNat_le.1 h
    have h2 : (6 : UInt8).toNat = 6 := rfl
    omega), Int.toNat_natCast]
  have h12 : (if (12 : UInt8) < (S.getD (138 + t) 0) then (12 : UInt8) else (S.getD (138 + t) 0)) = S.getD (138 + t) 0 := if_neg fun h => by
    have h1 := UInt8.lt_iff_toNat_lt.1 h
    have h2 : (12 : UInt8).toNat = 12 := rfl
    omega
  rw [h12]
  exact seen_go S t loc (S.getD (36 + loc.toNat) 0) _ _ 0 (by omega)
theorem seen_congr {S T : List UInt8} {t : Nat} {loc v : UInt8} : ∀ m, (∀ i, i < m → stL T t i = stL S t i ∧ stV T t i = stV S t i) → seenAt T t loc v m = seenAt S t loc v m
  | 0, _ => rfl
  | m + 1, h => by
    unfold seenAt
    rw [(h m (by omega)).1, (h m (by omega)).2, seen_congr m fun i hi => h i (by omega)]
theorem seen_below {S T : List UInt8} {t a : Nat} {loc vS vT : UInt8} (hlo : ∀ i, i < a → stL T t i = stL S t i ∧ stV T t i = stV S t i) (hne : ∀ i, i < a → stL S t i ≠ stL S t a)
    (hv : vT = if stL S t a = loc then stV S t a else vS) : ∀ j, j ≤ a → seenAt T t loc vT j = if stL S t a = loc then stV S t a else seenAt S t loc vS j
  | 0, _ => hv
  | j + 1, h => by
    have ih := seen_below hlo hne hv j (by omega)
    show (if stL T t j = loc then stV T t j else seenAt T t loc vT j) = if stL S t a = loc then stV S t a else (if stL S t j = loc then stV S t j else seenAt S t loc vS j)
    rw [(hlo j (by omega)).1, (hlo j (by omega)).2, ih]
    by_cases h1 : stL S t a = loc
    · rw [if_neg (fun e => hne j (by omega) (e.trans h1.symm)), if_pos h1, if_pos h1]
    · rw [if_neg h1, if_neg h1]
/-- What a thread sees after one of its drains. -/
theorem seen_drain {S T : List UInt8} {t a m : Nat} {loc vS vT : UInt8} (hlo : ∀ i, i < a → stL T t i = stL S t i ∧ stV T t i = stV S t i) (hhi : ∀ i, a ≤ i → i < m → stL T t i = stL S t (i + 1) ∧ stV T t i = stV S t (i + 1))
    (hne : ∀ i, i < a → stL S t i ≠ stL S t a) (hv : vT = if stL S t a = loc then stV S t a else vS) : ∀ n, a + n ≤ m → seenAt T t loc vT (a + n) = seenAt S t loc vS (a + n + 1)
  | 0, _ => by
    rw [Nat.add_zero, seen_below hlo hne hv a (Nat.le_refl _)]
    rfl
  | n + 1, h => by
    have ih := seen_drain hlo hhi hne hv n (by omega)
    show (if stL T t (a + n) = loc then stV T t (a + n) else seenAt T t loc vT (a + n)) = if stL S t (a + n + 1) = loc then stV S t (a + n + 1) else seenAt S t loc vS (a + n + 1)
    rw [(hhi (a + n) (by omega) (by omega)).1, (hhi (a + n) (by omega) (by omega)).2, ih]
/-- What a thread sees after one of its stores, put at a. -/
theorem seen_store {S T : List UInt8} {t a m : Nat} {loc vS : UInt8} {x y : UInt8} (hlo : ∀ i, i < a → stL T t i = stL S t i ∧ stV T t i = stV S t i) (hat : stL T t a = x ∧ stV T t a = y) (hhi : ∀ i, a ≤ i → i < m → stL T t (i + 1) = stL S t i ∧ stV T t (i + 1) = stV S t i)
    (hne : ∀ i, a ≤ i → i < m → stL S t i ≠ x) : ∀ n, a + n ≤ m → seenAt T t loc vS (a + n + 1) = if x = loc then y else seenAt S t loc vS (a + n)
  | 0, _ => by
    show (if stL T t a = loc then stV T t a else seenAt T t loc vS a) = _
    rw [hat.1, hat.2, seen_congr a hlo, Nat.add_zero]
  | n + 1, h => by
    have ih := seen_store (loc := loc) (vS := vS) hlo hat hhi hne n (by omega)
    show (if stL T t (a + n + 1) = loc then stV T t (a + n + 1) else seenAt T t loc vS (a + n + 1)) = if x = loc then y else (if stL S t (a + n) = loc then stV S t (a + n) else seenAt S t loc vS (a + n))
    rw [(hhi (a + n) (by omega) (by omega)).1, (hhi (a + n) (by omega) (by omega)).2, ih]
    by_cases h1 : x = loc
    · rw [if_neg (fun e => hne (a + n) (by omega) (by omega) (e.trans h1.symm)), if_pos h1, if_pos h1]
    · rw [if_neg h1, if_neg h1]

end Go.Proofs.YtimonjemjhecoaaGreatDoor
