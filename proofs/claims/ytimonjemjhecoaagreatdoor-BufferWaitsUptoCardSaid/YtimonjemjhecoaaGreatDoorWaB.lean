/- Walks, printed by a program of this repository (wip/tool). -/
import Derived.Test.YtimonjemjhecoaaGreatDoorBSn
import Derived.Test.YtimonjemjhecoaaGreatDoorLB1
import Derived.Test.YtimonjemjhecoaaGreatDoorSL
import Derived.Test.YtimonjemjhecoaaGreatDoorBu3
namespace Go.Proofs.YtimonjemjhecoaaGreatDoor
open Go.RowKit
open Go
attribute [local irreducible] wpList wpQuiet wpX Code.wp
set_option maxHeartbeats 1000000
set_option maxRecDepth 100000
set_option linter.unusedSimpArgs false
set_option linter.unusedVariables false


/-- T is S after the drain of the store at a of thread t. -/
structure Drained (S T : List UInt8) (t a : Nat) : Prop where
  lt : a < (S.getD (138 + t) 0).toNat
  low : ∀ j, j < 36 → T.getD j 0 = S.getD j 0
  mem : ∀ l, l < 6 → T.getD (36 + l) 0 = if l = (stL S t a).toNat then stV S t a else S.getD (36 + l) 0
  own : (T.getD (138 + t) 0).toNat + 1 = (S.getD (138 + t) 0).toNat
  many : ∀ u, u < 4 → u ≠ t → T.getD (138 + u) 0 = S.getD (138 + u) 0
  buf : ∀ u, u < 4 → u ≠ t → ∀ i, i < 12 → stL T u i = stL S u i ∧ stV T u i = stV S u i
  lo : ∀ i, i < a → stL T t i = stL S t i ∧ stV T t i = stV S t i
  hi : ∀ i, a ≤ i → i + 1 < (S.getD (138 + t) 0).toNat → stL T t i = stL S t (i + 1) ∧ stV T t i = stV S t (i + 1)
/-- T is S after a store of thread t, kept at a. -/
structure Stored (S T : List UInt8) (t a : Nat) (x y : UInt8) : Prop where
  le : a ≤ (S.getD (138 + t) 0).toNat
  low : ∀ j, j < 42 → j ≠ t * 9 → T.getD j 0 = S.getD j 0
  pc : (T.getD (t * 9) 0).toNat = (S.getD (t * 9) 0).toNat + 1
  own : (T.getD (138 + t) 0).toNat = (S.getD (138 + t) 0).toNat + 1
  many : ∀ u, u < 4 → u ≠ t → T.getD (138 + u) 0 = S.getD (138 + u) 0
  buf : ∀ u, u < 4 → u ≠ t → ∀ i, i < 12 → stL T u i = stL S u i ∧ stV T u i = stV S u i
  lo : ∀ i, i < a → stL T t i = stL S t i ∧ stV T t i = stV S t i
  put : stL T t a = x ∧ stV T t a = y
  hi : ∀ i, a ≤ i → i < (S.getD (138 + t) 0).toNat → stL T t (i + 1) = stL S t i ∧ stV T t (i + 1) = stV S t i
section
variable {p : Prog} {mach : UInt8} {S T : List UInt8}
/-- The instruction that thread t executes next. -/
def insB (p : Prog) (S : List UInt8) (t : Nat) : Ins := insAt p t (S.getD (t * 9) 0).toNat
theorem bmove_in {x : Pass} (hv : BValid p mach S) (hx : x ∈ passesF p mach S) : bMoveF p mach S x = (doesF p mach S x, 0) := by
  rw [bMove_eq, if_pos]
  unfold bMovesF
  rw [(bvalid_iff hv.len).2 hv]
  exact hx
theorem bmoves_eq (hv : BValid p mach S) : bMovesF p mach S = passesF p mach S := by
  unfold bMovesF
  rw [(bvalid_iff hv.len).2 hv]
  rfl
end
end Go.Proofs.YtimonjemjhecoaaGreatDoor

namespace Go.Proofs.YtimonjemjhecoaaGreatDoor
open Go.RowKit
open Go
attribute [local irreducible] wpList wpQuiet wpX Code.wp
set_option maxHeartbeats 1000000
set_option maxRecDepth 100000
set_option linter.unusedSimpArgs false
set_option linter.unusedVariables false


/-- From one state by these threads' moves to another. -/
inductive Run (p : Prog) : List UInt8 → List Int → List UInt8 → Prop where
  | nil (S : List UInt8) : Run p S [] S
  | cons {S : List UInt8} {t : Int} {l : List Int} {S' : List UInt8} (h : mayF p S t = true) (r : Run p (goesF p S t.toNat) l S') : Run p S (t :: l) S'
theorem Run.valid {p : Prog} {S S' : List UInt8} {l : List Int} (r : Run p S l S') : Valid p S → Valid p S' := by
  induction r with
  | nil => exact id
  | cons h _ ih => exact fun hv => ih (goes_valid hv (mayF_nat.1 h).2)
theorem Run.len {p : Prog} {S S' : List UInt8} {l : List Int} (r : Run p S l S') : Valid p S → l.length + todo p S' ≤ todo p S := by
  induction r with
  | nil => intro _; simp
  | cons h _ ih =>
    intro hv
    have h1 := (mayF_nat.1 h).2
    have := ih (goes_valid hv h1)
    have := goes_todo hv.ok hv.len h1
    simp only [List.length_cons]
    omega
/-! ### the same run by its picks -/
end Go.Proofs.YtimonjemjhecoaaGreatDoor

namespace Go.Proofs.YtimonjemjhecoaaGreatDoor
open Go.RowKit
open Go
attribute [local irreducible] wpList wpQuiet wpX Code.wp
set_option maxHeartbeats 1000000
set_option maxRecDepth 100000
set_option linter.unusedSimpArgs false
set_option linter.unusedVariables false


/-- From one state by these moves to another. -/
inductive BRun (p : Prog) (mach : UInt8) : List UInt8 → List Pass → List UInt8 → Prop where
  | nil (S : List UInt8) : BRun p mach S [] S
  | cons {S : List UInt8} {x : Pass} {l : List Pass} {T : List UInt8} (h : x ∈ passesF p mach S) (r : BRun p mach (doesF p mach S x) l T) : BRun p mach S (x :: l) T
theorem BRun.valid {p : Prog} {mach : UInt8} {S T : List UInt8} {l : List Pass} (r : BRun p mach S l T) : BValid p mach S → BValid p mach T := by
  induction r with
  | nil => exact id
  | cons h _ ih => exact fun hv => ih (does_next hv h).1
theorem BRun.len {p : Prog} {mach : UInt8} {S T : List UInt8} {l : List Pass} (r : BRun p mach S l T) : BValid p mach S → l.length + bmeas p T ≤ bmeas p S := by
  induction r with
  | nil => intro _; simp
  | cons h _ ih =>
    intro hv
    have h1 := does_next hv h
    have h2 := ih h1.1
    have h3 := h1.2
    simp only [List.length_cons]
    omega
theorem bplay_run {p : Prog} {mach : UInt8} {picks : List UInt8} : ∀ (n : Nat) (S : List UInt8) (o : List Pass), BValid p mach S → bmeas p S < n →
    ∃ l T, BRun p mach S l T ∧ passesF p mach T = [] ∧ loopF (bPlayF_a p mach picks) n (passesF p mach S, o, S) = (finalF T, o ++ l, 0)
  | 0, S, o, _, h => by omega
  | n + 1, S, o, hv, h => by
    have key : ∀ k, k < (passesF p mach S).length → ∀ o', ∃ l T, BRun p mach (doesF p mach S ((passesF p mach S).getD k default)) l T ∧ passesF p mach T = [] ∧ loopF (bPlayF_a p mach picks) n (passesF p mach (doesF p mach S ((passesF p mach S).getD k default)), o', doesF p mach S ((passesF p mach S).getD k default)) = (finalF T, o' ++ l, 0) := fun k hk o' => by
      have hm := does_next hv (passes_at hk)
      exact bplay_run n _ o' hm.1 (by have := hm.2; omega)
    show ∃ l T, BRun p mach S l T ∧ passesF p mach T = [] ∧ bPlayF_a p mach picks (loopF (bPlayF_a p mach picks) n) (passesF p mach S, o, S) = _
    simp only [bPlayF_a]
    cases hc : decide ((0 : Int) < ((passesF p mach S).length : Nat)) <;> simp only [cond_true, cond_false]
    · have hc := of_decide_eq_false hc
      exact ⟨[], S, .nil S, List.length_eq_zero_iff.1 (by omega), by simp⟩
    · have hc := of_decide_eq_true hc
      have step : ∀ k, k < (passesF p mach S).length → ∃ l T, BRun p mach S l T ∧ passesF p mach T = [] ∧ loopF (bPlayF_a p mach picks) n (passesF p mach (doesF p mach S ((passesF p mach S).getD k default)), o ++ [(passesF p mach S).getD k default], doesF p mach S ((passesF p mach S).getD k default)) = (finalF T, o ++ l, 0) := fun k hk => by
        obtain ⟨l, T, r, h1, h2⟩ := key k hk (o ++ [(passesF p mach S).getD k default])
        exact ⟨_, T, .cons (passes_at hk) r, h1, by rw [h2]; simp⟩
      cases decide (((o.length : Nat) : Int) < ((picks.length : Nat) : Int)) <;> simp only [cond_true, cond_false]
      · exact step _ (by omega)
      · exact step _ (Nat.mod_lt _ (by omega))
theorem bplay_eq {p : Prog} {mach : UInt8} (h : rightF p = 0) (hk : mach = 1 ∨ mach = 2 ∨ mach = 3) (picks : List UInt8) : ∃ l T, BRun p mach (startF p).1 l T ∧ passesF p mach T = [] ∧ bPlayF p mach picks = (finalF T, l, 0) := by
  have hv := start_bvalid h hk
  obtain ⟨l, T, r, h1, h2⟩ := bplay_run (picks := picks) 97 (startF p).1 [] hv (by have := hv.meas_le; omega)
  refine ⟨l, T, r, h1, ?_⟩
  unfold bPlayF
  rw [h, (known_iff mach).2 hk]
  simp only [bne_self_eq_false, Bool.not_true, Bool.or_false, cond_false]
  rw [h2, List.nil_append]
theorem bplay_no {p : Prog} {mach : UInt8} (h : rightF p ≠ 0) (picks : List UInt8) : bPlayF p mach picks = (List.replicate 38 0, [], 2) := by
  unfold bPlayF
  rw [bne_iff_ne.2 h]
  rfl
theorem bstart_right {p : Prog} (h : (startF p).2 = 0) : rightF p = 0 := by
  by_cases hr : rightF p = 0
  · exact hr
  · rw [start_no hr] at h; cases h
theorem bplay_order {p : Prog} {mach : UInt8} (hk : mach = 1 ∨ mach = 2 ∨ mach = 3) (picks : List UInt8) : (bPlayF p mach picks).2.1.length ≤ 96 := by
  by_cases hr : rightF p = 0
  · obtain ⟨l, T, r, _, h2⟩ := bplay_eq hr hk picks
    have hv := start_bvalid hr hk
    have h3 := r.len hv
    have h4 := hv.meas_le
    rw [h2]
    show l.length ≤ 96
    omega
  · rw [bplay_no hr]; exact Nat.zero_le _
theorem machine_kind (mach : UInt8) : machineF mach = 1 ∨ machineF mach = 2 ∨ machineF mach = 3 := by
  have h1 : (1 : UInt8).toNat = 1 := rfl
  have h2 : (2 : UInt8).toNat = 2 := rfl
  have h3 : (3 : UInt8).toNat = 3 := rfl
  have hm : (machineF mach).toNat = 1 + mach.toNat % 3 := by
    unfold machineF
    rw [UInt8.toNat_add, UInt8.toNat_mod, h1, h3]
    omega
  simp only [← UInt8.toNat_inj]
  omega

end Go.Proofs.YtimonjemjhecoaaGreatDoor

namespace Go.Proofs.YtimonjemjhecoaaGreatDoor
open Go.RowKit
open Go
attribute [local irreducible] wpList wpQuiet wpX Code.wp
set_option maxHeartbeats 1000000
set_option maxRecDepth 100000
set_option linter.unusedSimpArgs false
set_option linter.unusedVariables false


section
variable {p : Prog} {mach : UInt8} {S : List UInt8}
theorem goes_flag (hv : BValid p mach S) {d : Nat} (hd : d < p.threads.l.length) : (passesF p mach S).any (fun x => ((x.thread.toNat : Int) == ((d : Nat) : Int)) && !x.drain) = bMayF p mach S d := by
  have h4 := hv.ok.threads
  cases h : bMayF p mach S d
  · rw [List.any_eq_false]
    intro x hx hc
    rw [Bool.and_eq_true, beq_iff_eq, Bool.not_eq_true'] at hc
    obtain ⟨t, ht, hx⟩ := passes_mem.1 hx
    have hU := thU_nat (show t < 256 by omega)
    rcases hx with ⟨h1, rfl⟩ | ⟨k, hk, hc', rfl⟩
    · have e : t = d := by have := hc.1; simp only [hU] at this; omega
      subst e; rw [h1] at h; cases h
    · cases hc.2
  · rw [List.any_eq_true]
    refine ⟨⟨thU d, false, 0⟩, passes_mem.2 ⟨d, hd, .inl ⟨h, rfl⟩⟩, ?_⟩
    have hU := thU_nat (show d < 256 by omega)
    simp [hU]
theorem drains_flag (hv : BValid p mach S) {d : Nat} (hd : d < p.threads.l.length) : (passesF p mach S).any (fun x => ((x.thread.toNat : Int) == ((d : Nat) : Int)) && x.drain) = decide ((0 : UInt8) < S.getD (138 + d) 0) := by
  have h4 := hv.ok.threads
  have hU := thU_nat (show d < 256 by omega)
  rw [Bool.eq_iff_iff, List.any_eq_true, decide_eq_true_iff, UInt8.lt_iff_toNat_lt]
  have z : (0 : UInt8).toNat = 0 := rfl
  constructor
  · rintro ⟨x, hx, hc⟩
    rw [Bool.and_eq_true, beq_iff_eq] at hc
    obtain ⟨t, ht, hx⟩ := passes_mem.1 hx
    have hUt := thU_nat (show t < 256 by omega)
    rcases hx with ⟨h1, rfl⟩ | ⟨k, hk, hc', rfl⟩
    · cases hc.2
    · have e : t = d := by have := hc.1; rw [show (drP mach S t k).thread.toNat = t from hUt] at this; omega
      subst e; omega
  · intro h
    have hsc := hv.sc d (by omega) (by omega)
    refine ⟨drP mach S d 0, passes_mem.2 ⟨d, hd, .inr ⟨0, by omega, ?_, rfl⟩⟩, ?_⟩
    · unfold drC
      rcases hv.kind with rfl | rfl | rfl
      · exact absurd rfl hsc
      · rfl
      · rfl
    · rw [Bool.and_eq_true, beq_iff_eq]
      exact ⟨by rw [show (drP mach S d 0).thread.toNat = d from hU], rfl⟩
/-- When a thread may go. -/
theorem bmay_iff {d : Nat} : bMayF p mach S d = true ↔ (S.getD (d * 9) 0).toNat < (p.threads.l.getD d default).l.length ∧
    ((insB p S d).op = 4 ∨ (insB p S d).op = 5 ∨ (insB p S d).op = 6 → S.getD (138 + d) 0 = 0) ∧ ((insB p S d).op = 7 → S.getD (138 + d) 0 = 0 ∨ (insB p S d).mode = 4 ∨ ((insB p S d).mode = 5 ∧ mach ≠ 3)) := by
  unfold bMayF bMayF_a
  change (bif decide ((((p.threads.l.getD d default).l.length : Nat) : Int) ≤ ((S.getD (d * 9) 0).toNat : Int)) then false else bif ((insB p S d).op == 4) then (bif ((insB p S d).op == 4) then (S.getD (138 + d) 0 == 0) else _) else bif ((insB p S d).op == 5) then (bif ((insB p S d).op == 5) then (S.getD (138 + d) 0 == 0) else _) else (bif ((insB p S d).op == 6) then (S.getD (138 + d) 0 == 0) else bif ((insB p S d).op == 7) then ((S.getD (138 + d) 0 == 0 || (insB p S d).mode == 4) || ((insB p S d).mode == 5 && (mach != 3))) else true)) = true ↔ _
  generalize insB p S d = i
  generalize S.getD (138 + d) 0 = z
  generalize (S.getD (d * 9) 0).toNat = a
  generalize (p.threads.l.getD d default).l.length = n
  rcases Nat.lt_or_ge a n with hpc | hpc
  · rw [decide_eq_false (by omega), cond_false]
    by_cases h4 : i.op = 4
    · simp [h4, hpc]
    · by_cases h5 : i.op = 5
      · simp [h5, hpc]
      · by_cases h6 : i.op = 6
        · simp [h6, hpc]
        · by_cases h7 : i.op = 7
          · simp [h7, hpc, or_assoc]
          · simp [h4, h5, h6, h7, hpc]
  · rw [decide_eq_true (by omega), cond_true]
    exact ⟨fun h => (by cases h), fun h => absurd h.1 (by omega)⟩
theorem bmay_empty {d : Nat} (h : (S.getD (d * 9) 0).toNat < (p.threads.l.getD d default).l.length) (h0 : S.getD (138 + d) 0 = 0) : bMayF p mach S d = true :=
  bmay_iff.2 ⟨h, fun _ => h0, fun _ => .inl h0⟩
/-- Where nothing can be done any more all buffers are empty. -/
theorem end_empty (hv : BValid p mach S) (h : passesF p mach S = []) : ∀ t, t < 4 → S.getD (138 + t) 0 = 0 := fun t ht => by
  rcases Nat.lt_or_ge t p.threads.l.length with h1 | h1
  · have h2 := drains_flag hv h1
    rw [h] at h2
    have h3 := of_decide_eq_false h2.symm
    rw [UInt8.lt_iff_toNat_lt] at h3
    have z : (0 : UInt8).toNat = 0 := rfl
    exact UInt8.toNat_inj.1 (by omega)
  · exact (hv.most ht).2 h1
theorem end_many (hv : BValid p mach S) (h : passesF p mach S = []) : (S.drop 138).take 4 = List.replicate 4 (0 : UInt8) := by
  have hS := hv.len
  refine ext_getD (n := 4) (by simp only [List.length_take, List.length_drop]; omega) rfl fun j hj => ?_
  rw [sub_getD _ _ _ _ hj, zero_getD, end_empty hv h j hj]
theorem over_end (hv : BValid p mach S) (h : passesF p mach S = []) : bOverF p mach S = true := by
  unfold bOverF
  rw [(bvalid_iff hv.len).2 hv, h]
  rfl
end
theorem todo_sumB {p : Prog} (h : RightOk p) (S : List UInt8) : todo p S ≤ (p.threads.l.map (fun t => t.l.length)).sum := by
  have h4 := h.threads
  have d0 : (default : Sl Ins).l.length = 0 := rfl
  unfold todo leftAt
  match p.threads.l, h4 with
  | [a], _ => (simp [List.getD, d0]; try omega)
  | [a, b], _ => (simp [List.getD, d0]; try omega)
  | [a, b, c], _ => (simp [List.getD, d0]; try omega)
  | [a, b, c, d], _ => (simp [List.getD, d0]; try omega)
  | a :: b :: c :: d :: e :: l, h4 => simp at h4
theorem start_meas {p : Prog} (h : rightF p = 0) : bmeas p (startF p).1 ≤ 2 * (p.threads.l.map (fun t => t.l.length)).sum := by
  have hz := (start_valid h).2.rest
  have h1 := todo_sumB (right_ok h) (startF p).1
  have z : (0 : UInt8).toNat = 0 := rfl
  unfold bmeas manyAll
  rw [hz 138 (by omega) (by omega), hz 139 (by omega) (by omega), hz 140 (by omega) (by omega), hz 141 (by omega) (by omega)]
  omega

end Go.Proofs.YtimonjemjhecoaaGreatDoor
