/- Walks, printed by a program of this repository (wip/tool). -/
import Derived.Test.YtimonjemjhecoaaGreatDoorBV0
import Derived.Test.YtimonjemjhecoaaGreatDoorAny
namespace Go.Proofs.YtimonjemjhecoaaGreatDoor
open Go.RowKit
open Go
attribute [local irreducible] wpList wpQuiet wpX Code.wp
set_option maxHeartbeats 1000000
set_option maxRecDepth 100000
set_option linter.unusedSimpArgs false
set_option linter.unusedVariables false


theorem two_zero {l : List UInt8} {i : Nat} (hl : i + 2 ≤ l.length) : (l.drop i).take 2 = List.replicate 2 (0 : UInt8) ↔ l.getD i 0 = 0 ∧ l.getD (i + 1) 0 = 0 := by
  constructor
  · intro h
    have e0 := congrArg (fun l : List UInt8 => l.getD 0 0) h
    have e1 := congrArg (fun l : List UInt8 => l.getD 1 0) h
    simp only [sub_getD _ _ _ _ (show 0 < 2 by omega), sub_getD _ _ _ _ (show 1 < 2 by omega), zero_getD, Nat.add_zero] at e0 e1
    exact ⟨e0, e1⟩
  · rintro ⟨h0, h1⟩
    refine ext_getD (n := 2) (by simp only [List.length_take, List.length_drop]; omega) rfl fun j hj => ?_
    rw [sub_getD _ _ _ _ hj, zero_getD]
    rcases (by omega : j = 0 ∨ j = 1) with rfl | rfl
    · exact h0
    · exact h1
theorem kept_b (A B C r : Bool) : (bif A then (bif A then false else (bif C then false else r)) else (bif B then false else (bif C then false else r))) = (bif ((A || B) || C) then false else r) := by
  cases A <;> cases B <;> cases C <;> rfl
theorem kept_iff {l : List UInt8} (hl : l.length = 24) (m most locs : Nat) (mach : UInt8) : keptB l (m : Int) (most : Int) (locs : Int) mach = true ↔
    m ≤ most ∧ (0 < m → mach ≠ 1) ∧ ∀ i, i < 12 → (m ≤ i → l.getD (i * 2) 0 = 0 ∧ l.getD (i * 2 + 1) 0 = 0) ∧ (i < m → (l.getD (i * 2) 0).toNat < locs) ∧ (mach = 3 → 0 < i → i < m → (l.getD ((i - 1) * 2) 0).toNat ≤ (l.getD (i * 2) 0).toNat) := by
  unfold keptB
  have q := loopN_all (B := keptB_a l (m : Int) (locs : Int) mach) (K := keptB_ak) (c := fun i => (((decide ((m : Int) ≤ (i : Int))) && (!(decide (((l.drop (i * 2)).take 2) = (List.replicate 2 (0 : UInt8)))))) || ((decide ((i : Int) < (m : Int))) && (decide ((locs : Int) ≤ ((((l.drop (i * 2)).take 2).getD 0 0).toNat : Int)))))
      || ((((mach == (3 : UInt8)) && (decide ((0 : Int) < (i : Int)))) && (decide ((i : Int) < (m : Int)))) && (decide ((((l.drop (i * 2)).take 2).getD 0 0) < (l.getD (((i : Int) - (1 : Int)).toNat * 2) 0))))) (fun r k => kept_b _ _ _ _) 12 0
  by_cases h0 : m ≤ most ∧ (0 < m → mach ≠ 1)
  · rw [show (decide ((most : Int) < (m : Int)) || (decide ((0 : Int) < (m : Int)) && (mach == (1 : UInt8)))) = false by
      rw [Bool.or_eq_false_iff, Bool.and_eq_false_iff]
      refine ⟨decide_eq_false (by omega), ?_⟩
      rcases Nat.eq_zero_or_pos m with h | h
      · left; exact decide_eq_false (by omega)
      · right; exact beq_eq_false_iff_ne.2 (h0.2 h)]
    rw [cond_false]
    refine q.trans ?_
    simp only [keptB_ak, and_true, Nat.zero_add, Nat.zero_le, true_implies, h0.1, h0.2, true_and]
    constructor
    · intro h
      refine ⟨h0.2, fun i hi => ?_⟩
      have hi' := h i hi
      rw [Bool.or_eq_false_iff, Bool.or_eq_false_iff] at hi'
      obtain ⟨⟨hA, hB⟩, hC⟩ := hi'
      have hs : ((l.drop (i * 2)).take 2).getD 0 0 = l.getD (i * 2) 0 := by rw [sub_getD _ _ _ _ (by omega), Nat.add_zero]
      rw [hs] at hB hC
      refine ⟨fun hm => ?_, fun hm => ?_, fun h3 hp hm => ?_⟩
      · rw [decide_eq_true (show (m : Int) ≤ (i : Int) by omega), Bool.true_and, Bool.not_eq_false'] at hA
        exact (two_zero (by omega)).1 (of_decide_eq_true hA)
      · rw [decide_eq_true (show (i : Int) < (m : Int) by omega), Bool.true_and] at hB
        have := of_decide_eq_false hB
        omega
      · rw [decide_eq_true (show (i : Int) < (m : Int) by omega), decide_eq_true (show (0 : Int) < (i : Int) by omega), h3, show ((3 : UInt8) == 3) = true by rfl, Bool.true_and, Bool.true_and, Bool.true_and, show ((i : Int) - 1).toNat = i - 1 by omega] at hC
        have := of_decide_eq_false hC
        have h5 : ¬ (l.getD (i * 2) 0).toNat < (l.getD ((i - 1) * 2) 0).toNat := fun h => this (UInt8.lt_iff_toNat_lt.2 h)
        omega
    · rintro ⟨-, h⟩ i hi
      obtain ⟨hA, hB, hC⟩ := h i hi
      have hs : ((l.drop (i * 2)).take 2).getD 0 0 = l.getD (i * 2) 0 := by rw [sub_getD _ _ _ _ (by omega), Nat.add_zero]
      rw [hs, Bool.or_eq_false_iff, Bool.or_eq_false_iff]
      refine ⟨⟨?_, ?_⟩, ?_⟩
      · rw [Bool.and_eq_false_iff]
        rcases Nat.lt_or_ge i m with hm | hm
        · left; exact decide_eq_false (by omega)
        · right; rw [Bool.not_eq_false']; exact decide_eq_true ((two_zero (by omega)).2 (hA hm))
      · rw [Bool.and_eq_false_iff]
        rcases Nat.lt_or_ge i m with hm | hm
        · right; exact decide_eq_false (by have := hB hm; omega)
        · left; exact decide_eq_false (by omega)
      · rw [Bool.and_eq_false_iff, Bool.and_eq_false_iff, Bool.and_eq_false_iff]
        by_cases h3 : mach = 3
        · rcases Nat.lt_or_ge i m with hm | hm
          · rcases Nat.eq_zero_or_pos i with hp | hp
            · left; left; right; exact decide_eq_false (by omega)
            · right
              have := hC h3 hp hm
              rw [show ((i : Int) - 1).toNat = i - 1 by omega]
              exact decide_eq_false fun h => by
                have := UInt8.lt_iff_toNat_lt.1 h
                omega
          · left; right; exact decide_eq_false (by omega)
        · left; left; left; exact beq_eq_false_iff_ne.2 h3
  · rw [show (decide ((most : Int) < (m : Int)) || (decide ((0 : Int) < (m : Int)) && (mach == (1 : UInt8)))) = true by
      rw [Bool.or_eq_true, Bool.and_eq_true]
      by_cases h1 : m ≤ most
      · right
        have h2 : ¬ (0 < m → mach ≠ 1) := fun h => h0 ⟨h1, h⟩
        have h3 : 0 < m := Nat.pos_of_ne_zero fun h => h2 fun h' => by omega
        have h4 : mach = 1 := Classical.byContradiction fun h => h2 fun _ => h
        exact ⟨decide_eq_true (by omega), beq_iff_eq.2 h4⟩
      · left; exact decide_eq_true (by omega)]
    rw [cond_true]
    exact ⟨fun h => (by cases h), fun h => absurd ⟨h.1, h.2.1⟩ h0⟩
def bareOf (S : List UInt8) : List UInt8 :=
  ((S.take 42 ++ (List.replicate 96 (0 : UInt8)) ++ S.drop (42 + (List.replicate 96 (0 : UInt8)).length)).take 138 ++ (List.replicate 4 (0 : UInt8)) ++ (S.take 42 ++ (List.replicate 96 (0 : UInt8)) ++ S.drop (42 + (List.replicate 96 (0 : UInt8)).length)).drop (138 + (List.replicate 4 (0 : UInt8)).length))
theorem bare_len {S : List UInt8} (hS : S.length = 142) : (bareOf S).length = 142 := by
  unfold bareOf
  rw [splice_length _ _ _ (by rw [splice_length _ _ _ (by rw [List.length_replicate]; omega), List.length_replicate]; omega), splice_length _ _ _ (by rw [List.length_replicate]; omega), hS]
theorem bare_getD {S : List UInt8} (hS : S.length = 142) (j : Nat) : (bareOf S).getD j 0 = if 42 ≤ j ∧ j < 142 then 0 else S.getD j 0 := by
  unfold bareOf
  rw [splice_getD _ _ _ _ (by rw [splice_length _ _ _ (by rw [List.length_replicate]; omega), List.length_replicate]; omega), splice_getD _ _ _ _ (by rw [List.length_replicate]; omega), zero_getD, zero_getD]
  simp only [List.length_replicate]
  repeat' split
  all_goals first | rfl | (exfalso; omega)
structure BValid (p : Prog) (mach : UInt8) (S : List UInt8) : Prop where
  len : S.length = 142
  kind : mach = 1 ∨ mach = 2 ∨ mach = 3
  base : Valid p (bareOf S)
  many : ∀ t, t < 4 → (S.getD (138 + t) 0).toNat ≤ (S.getD (t * 9) 0).toNat
  sc : ∀ t, t < 4 → 0 < (S.getD (138 + t) 0).toNat → mach ≠ 1
  zero : ∀ t, t < 4 → ∀ i, i < 12 → (S.getD (138 + t) 0).toNat ≤ i → stL S t i = 0 ∧ stV S t i = 0
  loc : ∀ t, t < 4 → ∀ i, i < 12 → i < (S.getD (138 + t) 0).toNat → (stL S t i).toNat < p.locs.l.length
  sorted : mach = 3 → ∀ t, t < 4 → ∀ i, i < 12 → 0 < i → i < (S.getD (138 + t) 0).toNat → (stL S t (i - 1)).toNat ≤ (stL S t i).toNat
theorem known_iff (mach : UInt8) : knownF mach = true ↔ mach = 1 ∨ mach = 2 ∨ mach = 3 := by
  unfold knownF
  rw [Bool.and_eq_true, decide_eq_true_iff, decide_eq_true_iff, UInt8.le_iff_toNat_le, UInt8.le_iff_toNat_le]
  simp only [← UInt8.toNat_inj]
  have h1 : (1 : UInt8).toNat = 1 := rfl
  have h2 : (2 : UInt8).toNat = 2 := rfl
  have h3 : (3 : UInt8).toNat = 3 := rfl
  omega
theorem bvalid_iff {p : Prog} {mach : UInt8} {S : List UInt8} (hS : S.length = 142) : bRightF p mach S = true ↔ BValid p mach S := by
  have hb : ∀ t, t < 4 → ((((S.drop 42).take 96).drop (t * 24)).take 24).length = 24 := fun t ht => by simp only [List.length_take, List.length_drop]; omega
  have hg : ∀ t, t < 4 → ∀ j, j < 24 → ((((S.drop 42).take 96).drop (t * 24)).take 24).getD j 0 = S.getD (42 + t * 24 + j) 0 := fun t ht j hj => by
    rw [sub_getD _ _ _ _ hj, sub_getD _ _ _ _ (by omega)]
    congr 1; omega
  have q := loopN_all (B := bRightF_a p mach S) (K := bRightF_ak) (c := fun t => !(keptB ((((S.drop 42).take 96).drop (t * 24)).take 24) ((S.getD (138 + t) 0).toNat : Int) ((S.getD (t * 9) 0).toNat : Int) (p.locs.l.length : Int) mach)) (fun r k => rfl) 4 0
  have e : bRightF p mach S = bif ((!(knownF mach)) || (!(aRightF p (bareOf S)))) then false else (loopN (bRightF_a p mach S) bRightF_ak (4 - 0) 0) := rfl
  rw [e]
  have key : ((knownF mach = true ∧ aRightF p (bareOf S) = true) ∧ ∀ t, t < 4 → keptB ((((S.drop 42).take 96).drop (t * 24)).take 24) ((S.getD (138 + t) 0).toNat : Int) ((S.getD (t * 9) 0).toNat : Int) (p.locs.l.length : Int) mach = true) ↔ BValid p mach S := by
    rw [known_iff, valid_iff (bare_len hS)]
    constructor
    · rintro ⟨⟨h1, h2⟩, h3⟩
      have h4 := fun t ht => (kept_iff (hb t ht) _ _ _ _).1 (h3 t ht)
      refine ⟨hS, h1, h2, fun t ht => (h4 t ht).1, fun t ht => (h4 t ht).2.1, fun t ht i hi hm => ?_, fun t ht i hi hm => ?_, fun h3 t ht i hi hp hm => ?_⟩
      · have h := ((h4 t ht).2.2 i hi).1 hm
        rw [hg t ht _ (by omega), hg t ht _ (by omega)] at h
        exact h
      · have h := ((h4 t ht).2.2 i hi).2.1 hm
        rw [hg t ht _ (by omega)] at h
        exact h
      · have h := ((h4 t ht).2.2 i hi).2.2 h3 hp hm
        rw [hg t ht _ (by omega), hg t ht _ (by omega)] at h
        exact h
    · intro h
      refine ⟨⟨h.kind, h.base⟩, fun t ht => (kept_iff (hb t ht) _ _ _ _).2 ⟨h.many t ht, h.sc t ht, fun i hi => ⟨fun hm => ?_, fun hm => ?_, fun h3 hp hm => ?_⟩⟩⟩
      · rw [hg t ht _ (by omega), hg t ht _ (by omega)]
        exact h.zero t ht i hi hm
      · rw [hg t ht _ (by omega)]
        exact h.loc t ht i hi hm
      · rw [hg t ht _ (by omega), hg t ht _ (by omega)]
        exact h.sorted h3 t ht i hi hp hm
  rw [← key]
  by_cases h0 : knownF mach = true ∧ aRightF p (bareOf S) = true
  · rw [h0.1, h0.2]
    simp only [Bool.not_true, Bool.or_false, cond_false, true_and]
    refine q.trans ?_
    simp [bRightF_ak]
  · rw [show ((!(knownF mach)) || (!(aRightF p (bareOf S)))) = true by
      rw [Bool.or_eq_true, Bool.not_eq_true', Bool.not_eq_true']
      by_cases h1 : knownF mach = true
      · right; exact Bool.eq_false_iff.2 fun h => h0 ⟨h1, h⟩
      · left; exact Bool.eq_false_iff.2 h1, cond_true]
    exact ⟨fun h => (by cases h), fun h => absurd h.1 h0⟩
section
variable {p : Prog} {mach : UInt8} {S : List UInt8}
theorem BValid.ok (h : BValid p mach S) : RightOk p := h.base.ok
theorem BValid.pc_le (h : BValid p mach S) {t : Nat} (ht : t < p.threads.l.length) : (S.getD (t * 9) 0).toNat ≤ (p.threads.l.getD t default).l.length := by
  have h1 := h.base.pc t ht
  have h2 := h.ok.threads
  have e : pcOf (bareOf S) t = (bareOf S).getD (t * 9) 0 := rfl
  rw [e, bare_getD h.len, if_neg (by omega)] at h1
  exact h1
theorem BValid.idle (h : BValid p mach S) {t : Nat} (ht : p.threads.l.length ≤ t) (ht4 : t < 4) {j : Nat} (hj : j < 9) : S.getD (t * 9 + j) 0 = 0 := by
  have h1 := h.base.idle t ht ht4 j hj
  rw [bare_getD h.len, if_neg (by omega)] at h1
  exact h1
theorem BValid.mem (h : BValid p mach S) {l : Nat} (hl : p.locs.l.length ≤ l) (hl6 : l < 6) : S.getD (36 + l) 0 = 0 := by
  have h1 := h.base.mem l hl hl6
  rw [bare_getD h.len, if_neg (by omega)] at h1
  exact h1
theorem BValid.most (h : BValid p mach S) {t : Nat} (ht : t < 4) : (S.getD (138 + t) 0).toNat ≤ 12 ∧ (p.threads.l.length ≤ t → S.getD (138 + t) 0 = 0) := by
  have h1 := h.many t ht
  rcases Nat.lt_or_ge t p.threads.l.length with hp | hp
  · have h2 := h.pc_le hp
    have h3 := len_le h.ok t
    exact ⟨by omega, fun h' => by omega⟩
  · have h2 := h.idle hp ht (j := 0) (by omega)
    rw [Nat.add_zero] at h2
    rw [h2] at h1
    have : (0 : UInt8).toNat = 0 := rfl
    exact ⟨by omega, fun _ => UInt8.toNat_inj.1 (by omega)⟩
end

end Go.Proofs.YtimonjemjhecoaaGreatDoor

namespace Go.Proofs.YtimonjemjhecoaaGreatDoor
open Go.RowKit
open Go
section
variable {P : Program} {o : Oper} {a : Act} {w w0 : World} {S : List Nat} {R : List (World → Prop)} {L : List Res} {ops : Array Oper} {rest : List Oper} {Q : Exit → Act → World → Prop}
theorem append_none {T ty e : TypeId} {inf : TypeInfo} (hT : P.underlying T = some (.slice e)) (hi : P.info? e = some inf) (b : Option Addr) (n cp : Nat) (hle : n ≤ cp) (c : Nat) (ad : Addr) :
    (Builtin.append_ #[T, T] ty #[.slice b n cp, .slice none 0 c]).run P w = (Builtin.append_ #[T, T] ty #[.slice b n cp, .slice (some ad) 0 c]).run P w := by
  simp [Builtin.append_, run_underlying hT, sizeOf, typeInfo, hi, Builtin.lenOf, Builtin.firstCells, loadCells, loadCellsFrom, hle]
theorem row_slice {len e n : Nat} {v : Value} {xs : List Value} (hr : ownsRowW w e n v len xs) : ∃ b k cp, v = .slice b k cp ∧ k ≤ cp := by
  rcases hr.2 with ⟨rfl, h0⟩ | ⟨g, cap, cur, rfl, _, hg, hnc, hcm, hcs, htk⟩
  · exact ⟨_, _, _, rfl, Nat.le_refl _⟩
  · exact ⟨_, _, _, rfl, by omega⟩
theorem wl_appendN (H : Own w0 S R L w) (i : Nat) {dst : Option Tmp} {x y : Operand} {T : TypeId} {ty : TypeId} {pos : String} {after : Array Edge} {guard : Option (Nat × Bool)}
    (hw : Region.wanted { dst, op := .call { callee := .builtin .append, args := #[x, y], argTypes := #[T, T] }, type := ty, pos, after, guard } (yielded ops a.tmps) = true)
    {e size bytes n c : Nat} {z v : Value} {xs : List Value} (hT : P.underlying T = some (.slice e)) (hs : (P.info? e).map (·.size) = some size) (hz : (P.info? e).bind (·.zero) = some z) (hby : (P.info? e).map (·.bytes) = some bytes)
    (hzs : z.cells.size = size) (hsz : 0 < size) (hi : L[i]? = some (.row v e size n xs)) (hx : a.eval x = v) (hy : a.eval y = .slice none 0 c)
    (hb : n * bytes ≤ 140737488355328) (hn : n ≤ 9223372036854775807)
    (hS : ∀ b ∈ S, v.ownBlock ≠ some b)
    (h : ∀ v' w', Own w0 S R (L.set i (.row v' e size n xs)) w' → wpList P ops Q rest (a.put dst v') w') :
    wpList P ops Q ({ dst, op := .call { callee := .builtin .append, args := #[x, y], argTypes := #[T, T] }, type := ty, pos, after, guard } :: rest) a w := by
  subst hx
  obtain ⟨inf, hinf, rfl⟩ := Option.map_eq_some_iff.1 hs
  obtain ⟨j, hj, hzz⟩ := Option.bind_eq_some_iff.1 hz
  rw [hinf] at hj; cases hj
  obtain rfl : inf.bytes = bytes := by simpa [hinf] using hby
  obtain ⟨v', w', hr, ho, hg, hf⟩ := run_append_foot (P := P) (ty := ty) (c := c) hT hinf hzz hzs hsz (H.at hi) (ad := ⟨0, 0, none⟩) (m := 0) (news := []) (by simp) (fun j u hu => by simp at hu) (fun u hu => by simp at hu) (by simpa [maxLen] using hn) (by simpa using hb)
  obtain ⟨b0, k0, cp0, hv0, hle0⟩ := row_slice (H.at hi)
  rw [hv0, ← append_none hT hinf b0 k0 cp0 hle0, ← hv0] at hr
  simp only [Nat.add_zero, List.append_nil] at ho
  refine wl_run (w' := w') (v := v') hw ?_ (h v' w' ?_)
  · rw [BigFrame.execOp_builtin, BigFrame.builtin_append]
    rw [show (#[x, y].map a.eval) = #[a.eval x, a.eval y] by simp, hy]
    simp only [Sem.run_bind, hr, Result.andThen_ok]
    rfl
  · refine H.turn hi hg.os hg.tape hg.output hg.size (fun b hb hne => hg.block b hb (fun e => hne e.symm)) ho hf ?_
    intro b hb hbf
    rcases H.new _ (List.mem_of_getElem? hi) b hbf with h2 | h2
    · omega
    · exact absurd hbf (hS b h2)
theorem wl_appendS {α : Type} [Inhabited α] (en : α → List Value) (H : Own w0 S R L w) (i : Nat) {dst : Option Tmp} {x y : Operand} {T : TypeId} {ty : TypeId} {pos : String} {after : Array Edge} {guard : Option (Nat × Bool)}
    (hw : Region.wanted { dst, op := .call { callee := .builtin .append, args := #[x, y], argTypes := #[T, T] }, type := ty, pos, after, guard } (yielded ops a.tmps) = true)
    {e size bytes : Nat} {z v : Value} {l : List α} {s : Sl α} (hT : P.underlying T = some (.slice e)) (hs : (P.info? e).map (·.size) = some size) (hz : (P.info? e).bind (·.zero) = some z) (hby : (P.info? e).map (·.bytes) = some bytes)
    (hzs : z.cells.size = size) (hsz : 0 < size) (hi : L[i]? = some (.row v e size l.length (l.flatMap en))) (hx : a.eval x = v) (hy : a.eval y = s.val) (hsl : SlIn size en s w)
    (hen : ∀ x, (en x).length = size ∧ 0 < size) (h1 : ∀ y, ∀ u ∈ en y, u.oneCell' = true) (hb : (l.length + s.l.length) * bytes ≤ 140737488355328) (hn : l.length + s.l.length ≤ 9223372036854775807)
    (hS : ∀ b ∈ S, v.ownBlock ≠ some b)
    (h : ∀ v' w', Own w0 S R (L.set i (.row v' e size (l ++ s.l).length ((l ++ s.l).flatMap en))) w' → wpList P ops Q rest (a.put dst v') w') :
    wpList P ops Q ({ dst, op := .call { callee := .builtin .append, args := #[x, y], argTypes := #[T, T] }, type := ty, pos, after, guard } :: rest) a w := by
  rcases s with ⟨ad, cap, sl⟩
  cases ad with
  | some ad => 
    refine wl_appendT en H i hw hT hs hz hby hzs hsz hi hx (ad := ad) hy sl rfl hen (fun j u hu => ?_) h1 hb hn hS h
    obtain ⟨ad', h2, h3⟩ := sl_news hsl j u hu
    cases h2
    exact h3
  | none =>
    cases sl with
    | cons q sl => have := (hsl.1 0 (by simp)).1; cases this
    | nil =>
      refine wl_appendN H i hw hT hs hz hby hzs hsz hi hx hy (by simpa using hb) (by simpa using hn) hS fun v' w' hw' => h v' w' ?_
      simpa only [List.append_nil] using hw'
end
end Go.Proofs.YtimonjemjhecoaaGreatDoor
