/- Walks, printed by a program of this repository (wip/tool). -/
import Derived.Test.YtimonjemjhecoaaGreatDoorBu2
namespace Go.Proofs.YtimonjemjhecoaaGreatDoor
open Go.RowKit
open Go
attribute [local irreducible] wpList wpQuiet wpX Code.wp
set_option maxHeartbeats 1000000
set_option maxRecDepth 100000
set_option linter.unusedSimpArgs false
set_option linter.unusedVariables false


section
variable {p : Prog} {mach : UInt8} {S : List UInt8}
theorem bvalid_of (hS : S.length = 142) (hk : mach = 1 ∨ mach = 2 ∨ mach = 3) (hr : rightF p = 0) (hpc : ∀ k, k < p.threads.l.length → k < 4 → (S.getD (k * 9) 0).toNat ≤ (p.threads.l.getD k default).l.length)
    (hidle : ∀ k, p.threads.l.length ≤ k → k < 4 → ∀ j, j < 9 → S.getD (k * 9 + j) 0 = 0) (hmem : ∀ l, p.locs.l.length ≤ l → l < 6 → S.getD (36 + l) 0 = 0)
    (many : ∀ t, t < 4 → (S.getD (138 + t) 0).toNat ≤ (S.getD (t * 9) 0).toNat) (sc : ∀ t, t < 4 → 0 < (S.getD (138 + t) 0).toNat → mach ≠ 1)
    (zero : ∀ t, t < 4 → ∀ i, i < 12 → (S.getD (138 + t) 0).toNat ≤ i → stL S t i = 0 ∧ stV S t i = 0)
    (loc : ∀ t, t < 4 → ∀ i, i < 12 → i < (S.getD (138 + t) 0).toNat → (stL S t i).toNat < p.locs.l.length)
    (sorted : mach = 3 → ∀ t, t < 4 → ∀ i, i < 12 → 0 < i → i < (S.getD (138 + t) 0).toNat → (stL S t (i - 1)).toNat ≤ (stL S t i).toNat) : BValid p mach S := by
  have h4 := (right_ok hr).threads
  refine ⟨hS, hk, ⟨bare_len hS, hr, fun k hk => ?_, fun k hk hk4 j hj => ?_, fun l hl hl6 => ?_, fun j h1 h2 => ?_⟩, many, sc, zero, loc, sorted⟩
  · have e : pcOf (bareOf S) k = (bareOf S).getD (k * 9) 0 := rfl
    rw [e, bare_getD hS, if_neg (by omega)]
    exact hpc k hk (by omega)
  · rw [bare_getD hS, if_neg (by omega)]
    exact hidle k hk hk4 j hj
  · rw [bare_getD hS, if_neg (by omega)]
    exact hmem l hl hl6
  · rw [bare_getD hS, if_pos ⟨h1, h2⟩]
theorem drain_valid (hv : BValid p mach S) {t a : Nat} (ht : t < 4) (ha : a < (S.getD (138 + t) 0).toNat) : BValid p mach (drainAt S t (S.getD (138 + t) 0).toNat a) := by
  have hm := (hv.most ht).1
  have hl := hv.loc t ht a (by omega) ha
  have hL := hv.ok.locs
  have hS := hv.len
  have hsc := hv.sc t ht (by omega)
  have g := fun j => drainAt_getD (j := j) hS ht hm ha (by omega)
  have hsub : (S.getD (138 + t) 0 - 1).toNat = (S.getD (138 + t) 0).toNat - 1 := by rcases u8_sub1 (S.getD (138 + t) 0) with h | h <;> omega
  have hlen := drainAt_len hS ht hm ha
  generalize hT : drainAt S t (S.getD (138 + t) 0).toNat a = T at *
  have gm : (T.getD (138 + t) 0).toNat = (S.getD (138 + t) 0).toNat - 1 := by rw [g, if_pos rfl, hsub]
  have gm' : ∀ u, u < 4 → u ≠ t → T.getD (138 + u) 0 = S.getD (138 + u) 0 := fun u hu hne => by
    rw [g, if_neg (by omega), if_neg (by omega), if_neg (by omega), if_neg (by omega)]
  have gp : ∀ j, j < 36 → T.getD j 0 = S.getD j 0 := fun j hj => by rw [g, if_neg (by omega), if_neg (by omega), if_neg (by omega), if_neg (by omega)]
  have gl' : ∀ u, u < 4 → u ≠ t → ∀ i, i < 12 → stL T u i = stL S u i ∧ stV T u i = stV S u i := fun u hu hne i hi => by
    unfold stL stV
    rw [g, g, if_neg (by omega), if_neg (by omega), if_neg (by omega), if_neg (by omega), if_neg (by omega), if_neg (by omega), if_neg (by omega), if_neg (by omega)]
    exact ⟨rfl, rfl⟩
  have glo : ∀ i, i < a → stL T t i = stL S t i ∧ stV T t i = stV S t i := fun i hi => by
    unfold stL stV
    rw [g, g, if_neg (by omega), if_neg (by omega), if_neg (by omega), if_neg (by omega), if_neg (by omega), if_neg (by omega), if_neg (by omega), if_neg (by omega)]
    exact ⟨rfl, rfl⟩
  have ghi : ∀ i, a ≤ i → i < (S.getD (138 + t) 0).toNat - 1 → stL T t i = stL S t (i + 1) ∧ stV T t i = stV S t (i + 1) := fun i h1 h2 => by
    unfold stL stV
    rw [g, g, if_neg (by omega), if_neg (by omega), if_pos (by omega), if_neg (by omega), if_neg (by omega), if_pos (by omega)]
    exact ⟨by congr 1; omega, by congr 1; omega⟩
  have gz : ∀ i, i < 12 → (S.getD (138 + t) 0).toNat - 1 ≤ i → stL T t i = 0 ∧ stV T t i = 0 := fun i hi h1 => by
    rcases Nat.eq_or_lt_of_le h1 with h2 | h2
    · unfold stL stV
      rw [g, g, if_neg (by omega), if_pos (by omega), if_neg (by omega), if_pos (by omega)]
      exact ⟨rfl, rfl⟩
    · have hz := hv.zero t ht i hi (by omega)
      unfold stL stV at hz ⊢
      rw [g, g, if_neg (by omega), if_neg (by omega), if_neg (by omega), if_neg (by omega), if_neg (by omega), if_neg (by omega), if_neg (by omega), if_neg (by omega)]
      exact hz
  refine bvalid_of hlen hv.kind hv.base.right (fun k hk hk4 => ?_) (fun k hk hk4 j hj => ?_) (fun l hl hl6 => ?_) (fun u hu => ?_) (fun u hu _ => hsc) (fun u hu i hi h => ?_) (fun u hu i hi h => ?_) (fun h3 u hu i hi hp h => ?_)
  · rw [gp _ (by omega)]; exact hv.pc_le hk
  · rw [gp _ (by omega)]; exact hv.idle hk hk4 hj
  · rw [g, if_neg (by omega), if_neg (by omega), if_neg (by omega), if_neg (by omega)]
    exact hv.mem hl hl6
  · rw [gp (u * 9) (by omega)]
    have h2 := hv.many u hu
    by_cases e : u = t
    · subst e; omega
    · rw [gm' u hu e]; exact h2
  · by_cases e : u = t
    · subst e; exact gz i hi (by omega)
    · rw [gm' u hu e] at h
      rw [(gl' u hu e i hi).1, (gl' u hu e i hi).2]
      exact hv.zero u hu i hi h
  · by_cases e : u = t
    · subst e
      rcases Nat.lt_or_ge i a with h4 | h4
      · rw [(glo i h4).1]; exact hv.loc u hu i hi (by omega)
      · rw [(ghi i h4 (by omega)).1]; exact hv.loc u hu (i + 1) (by omega) (by omega)
    · rw [gm' u hu e] at h
      rw [(gl' u hu e i hi).1]
      exact hv.loc u hu i hi h
  · by_cases e : u = t
    · subst e
      rcases Nat.lt_or_ge i a with h4 | h4
      · rw [(glo i h4).1, (glo (i - 1) (by omega)).1]; exact hv.sorted h3 u hu i hi hp (by omega)
      · rw [(ghi i h4 (by omega)).1]
        have hs1 := hv.sorted h3 u hu (i + 1) (by omega) (by omega) (by omega)
        rw [Nat.add_sub_cancel] at hs1
        rcases Nat.lt_or_ge (i - 1) a with h5 | h5
        · rw [(glo (i - 1) h5).1]
          have hs2 := hv.sorted h3 u hu i hi hp (by omega)
          omega
        · rw [(ghi (i - 1) h5 (by omega)).1, Nat.sub_add_cancel hp]
          exact hs1
    · rw [gm' u hu e] at h
      rw [(gl' u hu e i hi).1, (gl' u hu e (i - 1) (by omega)).1]
      exact hv.sorted h3 u hu i hi hp h
theorem keepPos_spec (mach : UInt8) (S : List UInt8) (t : Nat) (loc : UInt8) : ∀ n, (∀ i, keepPos mach S t loc n ≤ i → i < n → mach = 3 ∧ loc.toNat < (stL S t i).toNat) ∧ (0 < keepPos mach S t loc n → mach = 3 → (stL S t (keepPos mach S t loc n - 1)).toNat ≤ loc.toNat)
  | 0 => ⟨fun i _ h => by omega, fun h _ => by simp [keepPos] at h⟩
  | n + 1 => by
    have ih := keepPos_spec mach S t loc n
    unfold keepPos
    split
    · rename_i h
      rw [Bool.and_eq_true, beq_iff_eq, decide_eq_true_iff, UInt8.lt_iff_toNat_lt] at h
      refine ⟨fun i h1 h2 => ?_, ih.2⟩
      rcases Nat.eq_or_lt_of_le (Nat.le_of_lt_succ h2) with rfl | h3
      · exact h
      · exact ih.1 i h1 h3
    · rename_i h
      refine ⟨fun i h1 h2 => by omega, fun _ h3 => ?_⟩
      rw [Nat.add_sub_cancel]
      rcases Nat.lt_or_ge loc.toNat (stL S t n).toNat with h4 | h4
      · exact absurd (by rw [Bool.and_eq_true, beq_iff_eq, decide_eq_true_iff, UInt8.lt_iff_toNat_lt]; exact ⟨h3, h4⟩) h
      · exact h4
theorem store_valid (hv : BValid p mach S) {t a : Nat} {x : List UInt8} (ht : t < p.threads.l.length) (hpc : (S.getD (t * 9) 0).toNat < (p.threads.l.getD t default).l.length) (hx : x.length = 2) (hm1 : mach ≠ 1) (hloc : (x.getD 0 0).toNat < p.locs.l.length)
    (ha : a = keepPos mach S t (x.getD 0 0) (S.getD (138 + t) 0).toNat) {T : List UInt8} (hT : T = (keepAt S t x (S.getD (138 + t) 0).toNat a).set (t * 9) ((keepAt S t x (S.getD (138 + t) 0).toNat a).getD (t * 9) 0 + 1)) :
    BValid p mach T := by
  have h4 := hv.ok.threads
  have hlen := len_le hv.ok t
  have hmy := hv.many t (by omega)
  have hS := hv.len
  have hal : a ≤ (S.getD (138 + t) 0).toNat := by rw [ha]; exact keepPos_le _ _ _ _ _
  have hks := keepPos_spec mach S t (x.getD 0 0) (S.getD (138 + t) 0).toNat
  rw [← ha] at hks
  have ht4 : t < 4 := by omega
  have hm12 : (S.getD (138 + t) 0).toNat < 12 := by omega
  have g0 := fun j => keepAt_getD (j := j) hS hx ht4 hm12 hal
  have hl0 := keepAt_len hS hx ht4 hm12 hal
  generalize hU : keepAt S t x (S.getD (138 + t) 0).toNat a = U at *
  have g : ∀ j, T.getD j 0 = if j = t * 9 then U.getD (t * 9) 0 + 1 else U.getD j 0 := fun j => by rw [hT, set_getD _ _ _ _ (by omega)]
  have hTl : T.length = 142 := by rw [hT, List.length_set, hl0]
  clear hT
  have hadd : (S.getD (138 + t) 0 + 1).toNat = (S.getD (138 + t) 0).toNat + 1 := by rw [UInt8.toNat_add]; have : (1 : UInt8).toNat = 1 := rfl; omega
  have hpc1 : (S.getD (t * 9) 0 + 1).toNat = (S.getD (t * 9) 0).toNat + 1 := by rw [UInt8.toNat_add]; have : (1 : UInt8).toNat = 1 := rfl; omega
  have gpt : (T.getD (t * 9) 0).toNat = (S.getD (t * 9) 0).toNat + 1 := by rw [g, if_pos rfl, g0, if_neg (by omega), if_neg (by omega), if_neg (by omega), hpc1]
  have gm : (T.getD (138 + t) 0).toNat = (S.getD (138 + t) 0).toNat + 1 := by rw [g, if_neg (by omega), g0, if_pos rfl, hadd]
  have gm' : ∀ u, u < 4 → u ≠ t → T.getD (138 + u) 0 = S.getD (138 + u) 0 := fun u hu hne => by
    rw [g, if_neg (by omega), g0, if_neg (by omega), if_neg (by omega), if_neg (by omega)]
  have gp : ∀ j, j < 42 → j ≠ t * 9 → T.getD j 0 = S.getD j 0 := fun j hj hne => by rw [g, if_neg hne, g0, if_neg (by omega), if_neg (by omega), if_neg (by omega)]
  have gl' : ∀ u, u < 4 → u ≠ t → ∀ i, i < 12 → stL T u i = stL S u i ∧ stV T u i = stV S u i := fun u hu hne i hi => by
    unfold stL stV
    rw [g, if_neg (by omega), g0, if_neg (by omega), if_neg (by omega), if_neg (by omega), g, if_neg (by omega), g0, if_neg (by omega), if_neg (by omega), if_neg (by omega)]
    exact ⟨rfl, rfl⟩
  have glo : ∀ i, i < a → stL T t i = stL S t i := fun i hi => by
    unfold stL
    rw [g, if_neg (by omega), g0, if_neg (by omega), if_neg (by omega), if_neg (by omega)]
  have gat : stL T t a = x.getD 0 0 := by
    unfold stL
    rw [g, if_neg (by omega), g0, if_neg (by omega), if_pos (by omega)]
    congr 1; omega
  have ghi : ∀ i, a < i → i < (S.getD (138 + t) 0).toNat + 1 → stL T t i = stL S t (i - 1) := fun i h1 h2 => by
    unfold stL
    rw [g, if_neg (by omega), g0, if_neg (by omega), if_neg (by omega), if_pos (by omega)]
    congr 1; omega
  have gz : ∀ i, i < 12 → (S.getD (138 + t) 0).toNat + 1 ≤ i → stL T t i = 0 ∧ stV T t i = 0 := fun i hi h1 => by
    have hz := hv.zero t ht4 i hi (by omega)
    unfold stL stV at hz ⊢
    rw [g, if_neg (by omega), g0, if_neg (by omega), if_neg (by omega), if_neg (by omega), g, if_neg (by omega), g0, if_neg (by omega), if_neg (by omega), if_neg (by omega)]
    exact hz
  have hloc' : ∀ u, u < 4 → ∀ i, i < 12 → i < (T.getD (138 + u) 0).toNat → (stL T u i).toNat < p.locs.l.length := fun u hu i hi h => by
    by_cases e : u = t
    · subst e
      rcases Nat.lt_or_ge i a with h5 | h5
      · rw [glo i h5]; exact hv.loc u hu i hi (by omega)
      · rcases Nat.eq_or_lt_of_le h5 with rfl | h6
        · rw [gat]; exact hloc
        · rw [ghi i h6 (by omega)]; exact hv.loc u hu (i - 1) (by omega) (by omega)
    · rw [gm' u hu e] at h
      rw [(gl' u hu e i hi).1]
      exact hv.loc u hu i hi h
  refine bvalid_of hTl hv.kind hv.base.right (fun k hk hk4 => ?_) (fun k hk hk4 j hj => ?_) (fun l hl hl6 => ?_) (fun u hu => ?_) (fun u hu _ => hm1) (fun u hu i hi h => ?_) hloc' (fun h3 u hu i hi hp h => ?_)
  · by_cases e : k = t
    · subst e; omega
    · rw [gp _ (by omega) (by omega)]; exact hv.pc_le hk
  · rw [gp _ (by omega) (by omega)]; exact hv.idle hk hk4 hj
  · rw [gp _ (by omega) (by omega)]; exact hv.mem hl hl6
  · by_cases e : u = t
    · subst e; omega
    · rw [gp (u * 9) (by omega) (by omega), gm' u hu e]; exact hv.many u hu
  · by_cases e : u = t
    · subst e; exact gz i hi (by omega)
    · rw [gm' u hu e] at h
      rw [(gl' u hu e i hi).1, (gl' u hu e i hi).2]
      exact hv.zero u hu i hi h
  · by_cases e : u = t
    · subst e
      rcases Nat.lt_or_ge i a with h5 | h5
      · rw [glo i h5, glo (i - 1) (by omega)]; exact hv.sorted h3 u hu i hi hp (by omega)
      · rcases Nat.eq_or_lt_of_le h5 with e2 | h6
        · rw [glo (i - 1) (by omega), ← e2, gat]
          exact hks.2 (by omega) h3
        · rw [ghi i h6 (by omega)]
          rcases Nat.eq_or_lt_of_le (Nat.le_sub_one_of_lt h6) with e2 | h7
          · rw [← e2, gat]
            have := (hks.1 a (Nat.le_refl _) (by omega)).2
            omega
          · rw [ghi (i - 1) h7 (by omega)]; exact hv.sorted h3 u hu (i - 1) (by omega) (by omega) (by omega)
    · rw [gm' u hu e] at h
      rw [(gl' u hu e i hi).1, (gl' u hu e (i - 1) (by omega)).1]
      exact hv.sorted h3 u hu i hi hp h
theorem other_valid (hv : BValid p mach S) {t : Nat} (ht : t < 4) {T : List UInt8} (hTl : T.length = 142) (hpc : ∀ k, k < p.threads.l.length → k < 4 → (T.getD (k * 9) 0).toNat ≤ (p.threads.l.getD k default).l.length)
    (hidle : ∀ k, p.threads.l.length ≤ k → k < 4 → ∀ j, j < 9 → T.getD (k * 9 + j) 0 = 0) (hmem : ∀ l, p.locs.l.length ≤ l → l < 6 → T.getD (36 + l) 0 = 0) (hup : ∀ k, k < 4 → (S.getD (k * 9) 0).toNat ≤ (T.getD (k * 9) 0).toNat)
    (hrest : ∀ j, 42 ≤ j → j < 142 → T.getD j 0 = S.getD j 0) : BValid p mach T := by
  refine bvalid_of hTl hv.kind hv.base.right hpc hidle hmem (fun u hu => ?_) (fun u hu h => ?_) (fun u hu i hi h => ?_) (fun u hu i hi h => ?_) (fun h3 u hu i hi hp h => ?_)
  · rw [hrest (138 + u) (by omega) (by omega)]
    exact Nat.le_trans (hv.many u hu) (hup u hu)
  · rw [hrest (138 + u) (by omega) (by omega)] at h
    exact hv.sc u hu h
  · rw [hrest (138 + u) (by omega) (by omega)] at h
    have hz := hv.zero u hu i hi h
    unfold stL stV at hz ⊢
    rw [hrest _ (by omega) (by omega), hrest _ (by omega) (by omega)]
    exact hz
  · rw [hrest (138 + u) (by omega) (by omega)] at h
    have hz := hv.loc u hu i hi h
    unfold stL at hz ⊢
    rw [hrest _ (by omega) (by omega)]
    exact hz
  · rw [hrest (138 + u) (by omega) (by omega)] at h
    have hz := hv.sorted h3 u hu i hi hp h
    unfold stL at hz ⊢
    rw [hrest (42 + u * 24 + (i - 1) * 2) (by omega) (by omega), hrest (42 + u * 24 + i * 2) (by omega) (by omega)]
    exact hz
end

end Go.Proofs.YtimonjemjhecoaaGreatDoor
