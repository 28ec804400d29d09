/- Walks, printed by a program of this repository (wip/tool). -/
import Derived.Test.YtimonjemjhecoaaGreatDoorBV2
namespace Go.Proofs.YtimonjemjhecoaaGreatDoor
open Go.RowKit
open Go
attribute [local irreducible] wpList wpQuiet wpX Code.wp
set_option maxHeartbeats 1000000
set_option maxRecDepth 100000
set_option linter.unusedSimpArgs false
set_option linter.unusedVariables false


section
variable {p : Prog} {mach : UInt8} {S T : List UInt8}
def manyAll (S : List UInt8) : Nat := (S.getD 138 0).toNat + (S.getD 139 0).toNat + (S.getD 140 0).toNat + (S.getD 141 0).toNat
def bmeas (p : Prog) (S : List UInt8) : Nat := 2 * todo p S + manyAll S
theorem meas_lt {t : Nat} (ht : t < 4) (h : 2 * leftAt p T t + (T.getD (138 + t) 0).toNat < 2 * leftAt p S t + (S.getD (138 + t) 0).toNat)
    (ho : ∀ u, u < 4 → u ≠ t → T.getD (u * 9) 0 = S.getD (u * 9) 0 ∧ T.getD (138 + u) 0 = S.getD (138 + u) 0) : bmeas p T < bmeas p S := by
  have hl : ∀ u, u < 4 → u ≠ t → leftAt p T u = leftAt p S u := fun u hu hne => by
    unfold leftAt pcOf
    rw [(ho u hu hne).1]
  unfold bmeas todo manyAll
  rcases (by omega : t = 0 ∨ t = 1 ∨ t = 2 ∨ t = 3) with rfl | rfl | rfl | rfl
  · have h1 := hl 1 (by omega) (by omega)
    have h2 := hl 2 (by omega) (by omega)
    have h3 := hl 3 (by omega) (by omega)
    have m1 := (ho 1 (by omega) (by omega)).2
    have m2 := (ho 2 (by omega) (by omega)).2
    have m3 := (ho 3 (by omega) (by omega)).2
    simp only [Nat.reduceAdd] at h m1 m2 m3
    rw [m1, m2, m3, h1, h2, h3]
    omega
  · have h1 := hl 0 (by omega) (by omega)
    have h2 := hl 2 (by omega) (by omega)
    have h3 := hl 3 (by omega) (by omega)
    have m1 := (ho 0 (by omega) (by omega)).2
    have m2 := (ho 2 (by omega) (by omega)).2
    have m3 := (ho 3 (by omega) (by omega)).2
    simp only [Nat.reduceAdd] at h m1 m2 m3
    rw [m1, m2, m3, h1, h2, h3]
    omega
  · have h1 := hl 0 (by omega) (by omega)
    have h2 := hl 1 (by omega) (by omega)
    have h3 := hl 3 (by omega) (by omega)
    have m1 := (ho 0 (by omega) (by omega)).2
    have m2 := (ho 1 (by omega) (by omega)).2
    have m3 := (ho 3 (by omega) (by omega)).2
    simp only [Nat.reduceAdd] at h m1 m2 m3
    rw [m1, m2, m3, h1, h2, h3]
    omega
  · have h1 := hl 0 (by omega) (by omega)
    have h2 := hl 1 (by omega) (by omega)
    have h3 := hl 2 (by omega) (by omega)
    have m1 := (ho 0 (by omega) (by omega)).2
    have m2 := (ho 1 (by omega) (by omega)).2
    have m3 := (ho 2 (by omega) (by omega)).2
    simp only [Nat.reduceAdd] at h m1 m2 m3
    rw [m1, m2, m3, h1, h2, h3]
    omega
theorem BValid.meas_le (hv : BValid p mach S) : bmeas p S ≤ 96 := by
  have h : ∀ u, u < 4 → 2 * leftAt p S u + (S.getD (138 + u) 0).toNat ≤ 24 := fun u hu => by
    have h1 := hv.many u hu
    have h2 := len_le hv.ok u
    have e : (pcOf S u).toNat = (S.getD (u * 9) 0).toNat := rfl
    unfold leftAt
    rcases Nat.lt_or_ge u p.threads.l.length with h3 | h3
    · have := hv.pc_le h3
      omega
    · have := (hv.most hu).2 h3
      rw [this]
      have : (0 : UInt8).toNat = 0 := rfl
      omega
  have h0 := h 0 (by omega)
  have h1 := h 1 (by omega)
  have h2 := h 2 (by omega)
  have h3 := h 3 (by omega)
  simp only [Nat.reduceAdd] at h0 h1 h2 h3
  unfold bmeas todo manyAll
  omega
def Next (p : Prog) (mach : UInt8) (S T : List UInt8) : Prop := BValid p mach T ∧ bmeas p T < bmeas p S
theorem drain_next (hv : BValid p mach S) {t a : Nat} (ht : t < 4) (ha : a < (S.getD (138 + t) 0).toNat) : Next p mach S (drainAt S t (S.getD (138 + t) 0).toNat a) := by
  have hm := (hv.most ht).1
  have hl := hv.loc t ht a (by omega) ha
  have hL := hv.ok.locs
  have g := fun j => drainAt_getD (j := j) hv.len ht hm ha (by omega)
  have hsub : (S.getD (138 + t) 0 - 1).toNat = (S.getD (138 + t) 0).toNat - 1 := by rcases u8_sub1 (S.getD (138 + t) 0) with h | h <;> omega
  refine ⟨drain_valid hv ht ha, meas_lt ht ?_ fun u hu hne => ⟨?_, ?_⟩⟩
  · unfold leftAt pcOf
    rw [g, if_neg (by omega), if_neg (by omega), if_neg (by omega), if_neg (by omega), g, if_pos rfl, hsub]
    omega
  · rw [g, if_neg (by omega), if_neg (by omega), if_neg (by omega), if_neg (by omega)]
  · rw [g, if_neg (by omega), if_neg (by omega), if_neg (by omega), if_neg (by omega)]
theorem store_next (hv : BValid p mach S) {t a : Nat} {x : List UInt8} (ht : t < p.threads.l.length) (hpc : (S.getD (t * 9) 0).toNat < (p.threads.l.getD t default).l.length) (hx : x.length = 2) (hm1 : mach ≠ 1) (hloc : (x.getD 0 0).toNat < p.locs.l.length)
    (ha : a = keepPos mach S t (x.getD 0 0) (S.getD (138 + t) 0).toNat) {T : List UInt8} (hT : T = (keepAt S t x (S.getD (138 + t) 0).toNat a).set (t * 9) ((keepAt S t x (S.getD (138 + t) 0).toNat a).getD (t * 9) 0 + 1)) :
    Next p mach S T := by
  have h4 := hv.ok.threads
  have hlen := len_le hv.ok t
  have hmy := hv.many t (by omega)
  have hal : a ≤ (S.getD (138 + t) 0).toNat := by rw [ha]; exact keepPos_le _ _ _ _ _
  have ht4 : t < 4 := by omega
  have hm12 : (S.getD (138 + t) 0).toNat < 12 := by omega
  have g0 := fun j => keepAt_getD (j := j) hv.len hx ht4 hm12 hal
  have hl0 := keepAt_len hv.len hx ht4 hm12 hal
  have hV := store_valid hv ht hpc hx hm1 hloc ha hT
  have g : ∀ j, T.getD j 0 = if j = t * 9 then (keepAt S t x (S.getD (138 + t) 0).toNat a).getD (t * 9) 0 + 1 else (keepAt S t x (S.getD (138 + t) 0).toNat a).getD j 0 := fun j => by rw [hT, set_getD _ _ _ _ (by omega)]
  have hadd : (S.getD (138 + t) 0 + 1).toNat = (S.getD (138 + t) 0).toNat + 1 := by rw [UInt8.toNat_add]; have : (1 : UInt8).toNat = 1 := rfl; omega
  have hpc1 : (S.getD (t * 9) 0 + 1).toNat = (S.getD (t * 9) 0).toNat + 1 := by rw [UInt8.toNat_add]; have : (1 : UInt8).toNat = 1 := rfl; omega
  refine ⟨hV, meas_lt ht4 ?_ fun u hu hne => ⟨?_, ?_⟩⟩
  · unfold leftAt pcOf
    rw [g, if_pos rfl, g0, if_neg (by omega), if_neg (by omega), if_neg (by omega), hpc1, g, if_neg (by omega), g0, if_pos rfl, hadd]
    omega
  · rw [g, if_neg (by omega), g0, if_neg (by omega), if_neg (by omega), if_neg (by omega)]
  · rw [g, if_neg (by omega), g0, if_neg (by omega), if_neg (by omega), if_neg (by omega)]
theorem load_next (hv : BValid p mach S) {t d : Nat} {v : UInt8} (ht : t < p.threads.l.length) (hpc : (S.getD (t * 9) 0).toNat < (p.threads.l.getD t default).l.length) (hd : d < 8)
    {T : List UInt8} (hT : T = (S.set (t * 9 + 1 + d) v).set (t * 9) ((S.set (t * 9 + 1 + d) v).getD (t * 9) 0 + 1)) : Next p mach S T := by
  have h4 := hv.ok.threads
  have hlen := len_le hv.ok t
  have hS := hv.len
  have ht4 : t < 4 := by omega
  have hTl : T.length = 142 := by rw [hT, List.length_set, List.length_set, hS]
  have g : ∀ j, T.getD j 0 = if j = t * 9 then S.getD (t * 9) 0 + 1 else if j = t * 9 + 1 + d then v else S.getD j 0 := fun j => by
    rw [hT, set_getD _ _ _ _ (by rw [List.length_set]; omega), show (S.set (t * 9 + 1 + d) v).getD (t * 9) 0 = S.getD (t * 9) 0 by rw [set_getD _ _ _ _ (by omega), if_neg (by omega)], set_getD _ _ _ _ (by omega)]
  have hpc1 : (S.getD (t * 9) 0 + 1).toNat = (S.getD (t * 9) 0).toNat + 1 := by rw [UInt8.toNat_add]; have : (1 : UInt8).toNat = 1 := rfl; omega
  refine ⟨other_valid hv ht4 hTl (fun k hk hk4 => ?_) (fun k hk hk4 j hj => ?_) (fun l hl hl6 => ?_) (fun k hk => ?_) (fun j h1 h2 => ?_), meas_lt ht4 ?_ fun u hu hne => ⟨?_, ?_⟩⟩
  · rw [g]
    split
    · rename_i e; have : k = t := by omega
      subst this; omega
    · rw [if_neg (by omega)]; exact hv.pc_le hk
  · rw [g, if_neg (by omega), if_neg (by omega)]; exact hv.idle hk hk4 hj
  · rw [g, if_neg (by omega), if_neg (by omega)]; exact hv.mem hl hl6
  · rw [g]
    split
    · rename_i e; have : k = t := by omega
      subst this; omega
    · rw [if_neg (by omega)]; exact Nat.le_refl _
  · rw [g, if_neg (by omega), if_neg (by omega)]
  · unfold leftAt pcOf
    rw [g, if_pos rfl, hpc1, g, if_neg (by omega), if_neg (by omega)]
    omega
  · rw [g, if_neg (by omega), if_neg (by omega)]
  · rw [g, if_neg (by omega), if_neg (by omega)]
theorem alone_getD {p : Prog} {S : List UInt8} {t : UInt8} (hS : S.length = 142) (j : Nat) : (aloneF p S t).getD j 0 = if 42 ≤ j ∧ j < 142 then S.getD j 0 else (moveF p (bareOf S) (t.toNat : Int)).1.getD j 0 := by
  have e : aloneF p S t = aloneF_v20 S (moveF p (bareOf S) (t.toNat : Int)) := rfl
  have hm : (moveF p (bareOf S) (t.toNat : Int)).1.length = 142 := moveF_len0 _ _ _ (bare_len hS)
  rw [e]
  generalize (moveF p (bareOf S) (t.toNat : Int)) = M at *
  unfold aloneF_v20
  have h96 : ((S.drop 42).take 96).length = 96 := by simp only [List.length_take, List.length_drop]; omega
  have h4 : ((S.drop 138).take 4).length = 4 := by simp only [List.length_take, List.length_drop]; omega
  rw [splice_getD _ _ _ _ (by rw [splice_length _ _ _ (by omega)]; omega), splice_getD _ _ _ _ (by omega), h96, h4]
  by_cases h1 : 138 ≤ j ∧ j < 142
  · rw [if_pos (by omega), if_pos (by omega), sub_getD _ _ _ _ (by omega)]
    congr 1; omega
  · rw [if_neg (by omega)]
    by_cases h2 : 42 ≤ j ∧ j < 138
    · rw [if_pos (by omega), if_pos (by omega), sub_getD _ _ _ _ (by omega)]
      congr 1; omega
    · rw [if_neg (by omega), if_neg (by omega)]
theorem bare_may (hv : BValid p mach S) {t : UInt8} (ht : t.toNat < p.threads.l.length) (hpc : (S.getD (t.toNat * 9) 0).toNat < (p.threads.l.getD t.toNat default).l.length) : mayN p (bareOf S) t.toNat = true := by
  have h4 := hv.ok.threads
  refine mayN_iff.2 ⟨ht, ?_⟩
  have e : pcOf (bareOf S) t.toNat = (bareOf S).getD (t.toNat * 9) 0 := rfl
  rw [e, bare_getD hv.len, if_neg (by omega)]
  exact hpc
theorem alone_move (hv : BValid p mach S) {t : UInt8} (ht : t.toNat < p.threads.l.length) (hpc : (S.getD (t.toNat * 9) 0).toNat < (p.threads.l.getD t.toNat default).l.length) : moveF p (bareOf S) (t.toNat : Int) = (goesF p (bareOf S) t.toNat, 0) := by
  have h := move_eq (p := p) (s := bareOf S) (t := (t.toNat : Int)) ((valid_iff (bare_len hv.len)).2 hv.base) (by unfold mayF; rw [Int.toNat_natCast, bare_may hv ht hpc, Bool.and_true]; exact decide_eq_true (by omega))
  rw [Int.toNat_natCast] at h
  exact h
theorem alone_next (hv : BValid p mach S) {t : UInt8} (ht : t.toNat < p.threads.l.length) (hpc : (S.getD (t.toNat * 9) 0).toNat < (p.threads.l.getD t.toNat default).l.length) : Next p mach S (aloneF p S t) := by
  have h4 := hv.ok.threads
  have hS := hv.len
  have ht4 : t.toNat < 4 := by omega
  have hmN := bare_may hv ht hpc
  have hG := goes_valid hv.base hmN
  have hp := goes_pc hv.ok (bare_len hS) hmN
  have hmy := hv.base.may hmN
  have hgo := fun j => goes_getD (p := p) (j := j) (bare_len hS) ht4 hmy.2.1
  have g : ∀ j, (aloneF p S t).getD j 0 = if 42 ≤ j ∧ j < 142 then S.getD j 0 else (goesF p (bareOf S) t.toNat).getD j 0 := fun j => by rw [alone_getD hS, alone_move hv ht hpc]
  have hpo : ∀ k, k < 4 → k ≠ t.toNat → (goesF p (bareOf S) t.toNat).getD (k * 9) 0 = S.getD (k * 9) 0 := fun k hk hne => by
    rw [hgo, if_neg (by omega), if_neg (by omega), bare_getD hS, if_neg (by omega)]
  have e1 : (pcOf (bareOf S) t.toNat).toNat = (S.getD (t.toNat * 9) 0).toNat := by
    show ((bareOf S).getD (t.toNat * 9) 0).toNat = _
    rw [bare_getD hS, if_neg (by omega)]
  have e2 : (pcOf (goesF p (bareOf S) t.toNat) t.toNat).toNat = ((goesF p (bareOf S) t.toNat).getD (t.toNat * 9) 0).toNat := rfl
  refine ⟨other_valid hv ht4 (aloneF_len _ _ _ hS) (fun k hk hk4 => ?_) (fun k hk hk4 j hj => ?_) (fun l hl hl6 => ?_) (fun k hk => ?_) (fun j h1 h2 => ?_), meas_lt ht4 ?_ fun u hu hne => ⟨?_, ?_⟩⟩
  · rw [g, if_neg (by omega)]; exact hG.pc k hk
  · rw [g, if_neg (by omega)]; exact hG.idle k hk hk4 j hj
  · rw [g, if_neg (by omega)]; exact hG.mem l hl hl6
  · rw [g, if_neg (by omega)]
    by_cases e : k = t.toNat
    · subst e; omega
    · rw [hpo k hk e]; exact Nat.le_refl _
  · rw [g, if_pos ⟨h1, h2⟩]
  · have e3 : (pcOf (aloneF p S t) t.toNat).toNat = ((goesF p (bareOf S) t.toNat).getD (t.toNat * 9) 0).toNat := by
      show ((aloneF p S t).getD (t.toNat * 9) 0).toNat = _
      rw [g, if_neg (by omega)]
    have e4 : (pcOf S t.toNat).toNat = (S.getD (t.toNat * 9) 0).toNat := rfl
    unfold leftAt
    rw [g, if_pos (by omega)]
    omega
  · rw [g, if_neg (by omega), hpo u hu hne]
  · rw [g, if_pos (by omega)]
theorem goesB_next (hv : BValid p mach S) {t : UInt8} (ht : t.toNat < p.threads.l.length) (hpc : (S.getD (t.toNat * 9) 0).toNat < (p.threads.l.getD t.toNat default).l.length) : Next p mach S (bGoesF p mach S t) := by
  have h4 := hv.ok.threads
  have hat := hv.ok.at ht hpc
  have hlc := hv.ok.loc ht hpc
  have hmy := hv.many t.toNat (by omega)
  have hdst : ((p.threads.l.getD t.toNat default).l.getD (S.getD (t.toNat * 9) 0).toNat default).dst.toNat < 8 := UInt8.lt_iff_toNat_lt.1 hat.2.dst
  unfold bGoesF
  cases ((p.threads.l.getD t.toNat default).l.getD (S.getD (t.toNat * 9) 0).toNat default).op == 1
  · rw [cond_false]
    cases hc : (((p.threads.l.getD t.toNat default).l.getD (S.getD (t.toNat * 9) 0).toNat default).op == 2 && (mach != 1))
    · rw [cond_false]
      exact alone_next hv ht hpc
    · rw [cond_true]
      rw [Bool.and_eq_true, bne_iff_ne] at hc
      unfold bGoesF_v65 bGoesF_a
      rw [keep_eq (by omega)]
      refine store_next hv ht hpc ?_ hc.2 ?_ rfl rfl
      · rfl
      · exact hlc
  · rw [cond_true]
    exact load_next hv ht hpc hdst rfl
theorem does_next (hv : BValid p mach S) {x : Pass} (hx : x ∈ passesF p mach S) : Next p mach S (doesF p mach S x) := by
  have hpf := pass_facts hv hx
  unfold doesF
  cases hd : x.drain
  · rw [cond_false]
    exact goesB_next hv hpf.1 (hpf.2.2.1 hd)
  · rw [cond_true]
    have h := hpf.2.2.2 hd
    obtain ⟨a, h1, -, -, h4⟩ := drain_eq ⟨h.1, (hv.most hpf.2.1).1⟩ h.2
    rw [h4]
    exact drain_next hv hpf.2.1 h1
theorem passes_at {k : Nat} (hk : k < (passesF p mach S).length) : (passesF p mach S).getD k default ∈ passesF p mach S := by
  rw [List.getD_eq_getElem?_getD, List.getElem?_eq_getElem hk]; exact List.getElem_mem hk
theorem start_bvalid (h : rightF p = 0) (hk : mach = 1 ∨ mach = 2 ∨ mach = 3) : BValid p mach (startF p).1 := by
  have hV := (start_valid h).2
  have hz := hV.rest
  refine bvalid_of hV.len hk h (fun k hk hk4 => hV.pc k hk) (fun k hk hk4 j hj => hV.idle k hk hk4 j hj) (fun l hl hl6 => hV.mem l hl hl6) (fun u hu => ?_) (fun u hu h => ?_) (fun u hu i hi h => ?_) (fun u hu i hi h => ?_) (fun h3 u hu i hi hp h => ?_)
  · rw [hz _ (by omega) (by omega)]; exact Nat.zero_le _
  · rw [hz _ (by omega) (by omega)] at h; exact absurd h (by decide)
  · unfold stL stV; exact ⟨hz _ (by omega) (by omega), hz _ (by omega) (by omega)⟩
  · rw [hz _ (by omega) (by omega)] at h; exact absurd h (Nat.not_lt_zero _)
  · rw [hz (138 + u) (by omega) (by omega)] at h; exact absurd h (Nat.not_lt_zero _)
end

end Go.Proofs.YtimonjemjhecoaaGreatDoor

namespace Go.Proofs.YtimonjemjhecoaaGreatDoor
open Go.RowKit
open Go
attribute [local irreducible] wpList wpQuiet wpX Code.wp
set_option maxHeartbeats 1000000
set_option maxRecDepth 100000
set_option linter.unusedSimpArgs false
set_option linter.unusedVariables false


def seenAt (S : List UInt8) (t : Nat) (loc v : UInt8) : Nat → UInt8
  | 0 => v
  | m + 1 => if stL S t m = loc then stV S t m else seenAt S t loc v m
theorem seen_go (S : List UInt8) (t : Nat) (loc v : UInt8) (m : Nat) : ∀ n k, k + n = m → loopN (seenF_a S (t : Int) loc) seenF_ak n (seenAt S t loc v k, k) = seenAt S t loc v m
  | 0, k, h => by
    obtain rfl : k = m := by omega
    rfl
  | n + 1, k, h => by
    show seenF_a S (t : Int) loc (loopN (seenF_a S (t : Int) loc) seenF_ak n) (seenAt S t loc v k, k) = _
    simp only [seenF_a]
    rw [Int.toNat_natCast, sub_getD _ _ _ _ (by omega), sub_getD _ _ _ _ (by omega), Nat.add_zero]
    have ih := seen_go S t loc v m n (k + 1) (by omega)
    rw [← ih]
    show (bif (stL S t k == loc) then loopN (seenF_a S (t : Int) loc) seenF_ak n (stV S t k, k + 1) else loopN (seenF_a S (t : Int) loc) seenF_ak n (seenAt S t loc v k, k + 1)) = _
    by_cases h : stL S t k = loc
    · rw [beq_iff_eq.2 h, cond_true]
      congr 2
      show _ = if stL S t k = loc then stV S t k else seenAt S t loc v k
      rw [if_pos h]
    · rw [beq_eq_false_iff_ne.2 h, cond_false]
      congr 2
      show _ = if stL S t k = loc then stV S t k else seenAt S t loc v k
      rw [if_neg h]
theorem seen_eq {S : List UInt8} {t : Nat} {loc : UInt8} (ht : t < 4) (hl : loc.toNat < 6) (hm : (S.getD (138 + t) 0).toNat ≤ 12) : seenF S (t : Int) loc = seenAt S t loc (S.getD (36 + loc.toNat) 0) (S.getD (138 + t) 0).toNat := by
  unfold seenF
  rw [decide_eq_false (show ¬ (t : Int) < 0 by omega), decide_eq_false (show ¬ (4 : Int) ≤ (t : Int) by omega), decide_eq_false (fun h => by
    have h1 := UInt8.le_iff_toNat_le.1 h
    have h2 : (6 : UInt8).toNat = 6 := rfl
    omega), Int.toNat_natCast]
  have h12 : (if (12 : UInt8) < (S.getD (138 + t) 0) then (12 : UInt8) else (S.getD (138 + t) 0)) = S.getD (138 + t) 0 := if_neg fun h => by
    have h1 := UInt8.lt_iff_toNat_lt.1 h
    have h2 : (12 : UInt8).toNat = 12 := rfl
    omega
  rw [h12]
  exact seen_go S t loc (S.getD (36 + loc.toNat) 0) _ _ 0 (by omega)
theorem seen_congr {S T : List UInt8} {t : Nat} {loc v : UInt8} : ∀ m, (∀ i, i < m → stL T t i = stL S t i ∧ stV T t i = stV S t i) → seenAt T t loc v m = seenAt S t loc v m
  | 0, _ => rfl
  | m + 1, h => by
    unfold seenAt
    rw [(h m (by omega)).1, (h m (by omega)).2, seen_congr m fun i hi => h i (by omega)]
theorem seen_below {S T : List UInt8} {t a : Nat} {loc vS vT : UInt8} (hlo : ∀ i, i < a → stL T t i = stL S t i ∧ stV T t i = stV S t i) (hne : ∀ i, i < a → stL S t i ≠ stL S t a)
    (hv : vT = if stL S t a = loc then stV S t a else vS) : ∀ j, j ≤ a → seenAt T t loc vT j = if stL S t a = loc then stV S t a else seenAt S t loc vS j
  | 0, _ => hv
  | j + 1, h => by
    have ih := seen_below hlo hne hv j (by omega)
    show (if stL T t j = loc then stV T t j else seenAt T t loc vT j) = if stL S t a = loc then stV S t a else (if stL S t j = loc then stV S t j else seenAt S t loc vS j)
    rw [(hlo j (by omega)).1, (hlo j (by omega)).2, ih]
    by_cases h1 : stL S t a = loc
    · rw [if_neg (fun e => hne j (by omega) (e.trans h1.symm)), if_pos h1, if_pos h1]
    · rw [if_neg h1, if_neg h1]
theorem seen_drain {S T : List UInt8} {t a m : Nat} {loc vS vT : UInt8} (hlo : ∀ i, i < a → stL T t i = stL S t i ∧ stV T t i = stV S t i) (hhi : ∀ i, a ≤ i → i < m → stL T t i = stL S t (i + 1) ∧ stV T t i = stV S t (i + 1))
    (hne : ∀ i, i < a → stL S t i ≠ stL S t a) (hv : vT = if stL S t a = loc then stV S t a else vS) : ∀ n, a + n ≤ m → seenAt T t loc vT (a + n) = seenAt S t loc vS (a + n + 1)
  | 0, _ => by
    rw [Nat.add_zero, seen_below hlo hne hv a (Nat.le_refl _)]
    rfl
  | n + 1, h => by
    have ih := seen_drain hlo hhi hne hv n (by omega)
    show (if stL T t (a + n) = loc then stV T t (a + n) else seenAt T t loc vT (a + n)) = if stL S t (a + n + 1) = loc then stV S t (a + n + 1) else seenAt S t loc vS (a + n + 1)
    rw [(hhi (a + n) (by omega) (by omega)).1, (hhi (a + n) (by omega) (by omega)).2, ih]
theorem seen_store {S T : List UInt8} {t a m : Nat} {loc vS : UInt8} {x y : UInt8} (hlo : ∀ i, i < a → stL T t i = stL S t i ∧ stV T t i = stV S t i) (hat : stL T t a = x ∧ stV T t a = y) (hhi : ∀ i, a ≤ i → i < m → stL T t (i + 1) = stL S t i ∧ stV T t (i + 1) = stV S t i)
    (hne : ∀ i, a ≤ i → i < m → stL S t i ≠ x) : ∀ n, a + n ≤ m → seenAt T t loc vS (a + n + 1) = if x = loc then y else seenAt S t loc vS (a + n)
  | 0, _ => by
    show (if stL T t a = loc then stV T t a else seenAt T t loc vS a) = _
    rw [hat.1, hat.2, seen_congr a hlo, Nat.add_zero]
  | n + 1, h => by
    have ih := seen_store (loc := loc) (vS := vS) hlo hat hhi hne n (by omega)
    show (if stL T t (a + n + 1) = loc then stV T t (a + n + 1) else seenAt T t loc vS (a + n + 1)) = if x = loc then y else (if stL S t (a + n) = loc then stV S t (a + n) else seenAt S t loc vS (a + n))
    rw [(hhi (a + n) (by omega) (by omega)).1, (hhi (a + n) (by omega) (by omega)).2, ih]
    by_cases h1 : x = loc
    · rw [if_neg (fun e => hne (a + n) (by omega) (by omega) (e.trans h1.symm)), if_pos h1, if_pos h1]
    · rw [if_neg h1, if_neg h1]

end Go.Proofs.YtimonjemjhecoaaGreatDoor
