/- Walks, printed by a program of this repository (wip/tool). -/
import Derived.Test.YtpnaooajmdildaaGreatDoorSL
namespace Go.Proofs.YtpnaooajmdildaaGreatDoor
open Go.RowKit
open Go
attribute [local irreducible] wpList wpQuiet wpX Code.wp
set_option maxHeartbeats 1000000
set_option maxRecDepth 100000
set_option linter.unusedSimpArgs false
set_option linter.unusedVariables false


/-- From one state by these threads' moves to another. -/
inductive Run (p : Prog) : List UInt8 → List Int → List UInt8 → Prop where
  | nil (S : List UInt8) : Run p S [] S
  | cons {S : List UInt8} {t : Int} {l : List Int} {S' : List UInt8} (h : mayF p S t = true) (r : Run p (goesF p S t.toNat) l S') : Run p S (t :: l) S'
theorem Run.valid {p : Prog} {S S' : List UInt8} {l : List Int} (r : Run p S l S') : Valid p S → Valid p S' := by
  induction r with
  | nil => exact id
  | cons h _ ih => exact fun hv => ih (goes_valid hv (mayF_nat.1 h).2)
theorem Run.len {p : Prog} {S S' : List UInt8} {l : List Int} (r : Run p S l S') : Valid p S → l.length + todo p S' ≤ todo p S := by
  induction r with
  | nil => intro _; simp
  | cons h _ ih =>
    intro hv
    have h1 := (mayF_nat.1 h).2
    have := ih (goes_valid hv h1)
    have := goes_todo hv.ok hv.len h1
    simp only [List.length_cons]
    omega
theorem play_run {p : Prog} {picks : List UInt8} : ∀ (n : Nat) (S : List UInt8) (o : List Int), Valid p S → todo p S < n →
    ∃ l S', Run p S l S' ∧ ableF p S' = [] ∧ loopF (playF_a p picks) n (ableF p S, o, S) = (finalF S', o ++ l, 0)
  | 0, S, o, _, h => by omega
  | n + 1, S, o, hv, h => by
    have key : ∀ k, k < (ableF p S).length → ∀ o', ∃ l S', Run p (goesF p S ((ableF p S).getD k default).toNat) l S' ∧ ableF p S' = [] ∧ loopF (playF_a p picks) n (ableF p (goesF p S ((ableF p S).getD k default).toNat), o', goesF p S ((ableF p S).getD k default).toNat) = (finalF S', o' ++ l, 0) := fun k hk o' => by
      have hm := able_may (p := p) (S := S) rfl hk
      have h1 := able_todo hv.ok hv.len hm
      exact play_run n _ o' (goes_valid hv (mayF_nat.1 hm).2) (by omega)
    show ∃ l S', Run p S l S' ∧ ableF p S' = [] ∧ playF_a p picks (loopF (playF_a p picks) n) (ableF p S, o, S) = _
    simp only [playF_a]
    cases hc : decide ((0 : Int) < ((ableF p S).length : Nat)) <;> simp only [cond_true, cond_false]
    · have hc := of_decide_eq_false hc
      exact ⟨[], S, .nil S, List.length_eq_zero_iff.1 (by omega), by simp⟩
    · have hc := of_decide_eq_true hc
      have step : ∀ k, k < (ableF p S).length → ∃ l S', Run p S l S' ∧ ableF p S' = [] ∧ loopF (playF_a p picks) n (ableF p (goesF p S ((ableF p S).getD k default).toNat), o ++ [(ableF p S).getD k default], goesF p S ((ableF p S).getD k default).toNat) = (finalF S', o ++ l, 0) := fun k hk => by
        obtain ⟨l, S', r, h1, h2⟩ := key k hk (o ++ [(ableF p S).getD k default])
        exact ⟨_, S', .cons (able_may rfl hk) r, h1, by rw [h2]; simp⟩
      cases decide (((o.length : Nat) : Int) < ((picks.length : Nat) : Int)) <;> simp only [cond_true, cond_false]
      · exact step _ (by omega)
      · exact step _ (Nat.mod_lt _ (by omega))
theorem play_eq {p : Prog} (h : rightF p = 0) (picks : List UInt8) : ∃ l S', Run p (startF p).1 l S' ∧ ableF p S' = [] ∧ playF p picks = (finalF S', l, 0) := by
  obtain ⟨h0, hv⟩ := start_valid h
  obtain ⟨l, S', r, h1, h2⟩ := play_run (picks := picks) 49 (startF p).1 [] hv (by have := todo_le hv.ok (startF p).1; omega)
  refine ⟨l, S', r, h1, ?_⟩
  unfold playF
  rw [h0]
  simp only [bne_self_eq_false, cond_false]
  rw [h2, List.nil_append]
theorem play_no {p : Prog} (h : rightF p ≠ 0) (picks : List UInt8) : playF p picks = (List.replicate 38 0, [], 2) := by
  unfold playF
  rw [start_no h]
  rfl
theorem right_start {p : Prog} (h : (startF p).2 = 0) : rightF p = 0 := by
  by_cases hr : rightF p = 0
  · exact hr
  · rw [start_no hr] at h; cases h
theorem play_order {p : Prog} (h : rightF p = 0) (picks : List UInt8) : (playF p picks).2.1.length ≤ 48 := by
  obtain ⟨l, S', r, _, h2⟩ := play_eq h picks
  obtain ⟨_, hv⟩ := start_valid h
  have h3 := r.len hv
  have h4 := todo_le hv.ok (startF p).1
  rw [h2]
  show l.length ≤ 48
  omega
/-! ### the same run by its picks -/
theorem able_nodup (p : Prog) (S : List UInt8) : (ableF p S).Nodup := by
  rw [able_eq]
  unfold List.Nodup
  rw [List.pairwise_map]
  refine List.Pairwise.imp (fun {a b} h e => h (Int.ofNat.inj e)) (List.Pairwise.filter _ (List.nodup_range' (s := 0) (n := p.threads.l.length) (step := 1)))
/-- Which of the enabled threads t is. -/
def code (p : Prog) (S : List UInt8) (t : Int) : Nat := (ableF p S).idxOf t
theorem code_lt {p : Prog} {S : List UInt8} {t : Int} (h : mayF p S t = true) : code p S t < (ableF p S).length := List.idxOf_lt_length_iff.2 (able_mem.2 h)
theorem code_at {p : Prog} {S : List UInt8} {t : Int} (h : mayF p S t = true) : (ableF p S).getD (code p S t) default = t := by
  have h1 := code_lt h
  rw [List.getD_eq_getElem?_getD, List.getElem?_eq_getElem h1]
  exact List.getElem_idxOf h1
def codes (p : Prog) : List UInt8 → List Int → List UInt8
  | _, [] => []
  | S, t :: l => UInt8.ofNat (code p S t) :: codes p (goesF p S t.toNat) l
theorem codes_len (p : Prog) : ∀ (l : List Int) (S : List UInt8), (codes p S l).length = l.length
  | [], _ => rfl
  | _ :: l, S => by simp [codes, codes_len p l]
theorem able_len {p : Prog} (h : RightOk p) (S : List UInt8) : (ableF p S).length ≤ 4 := by
  rw [able_eq, List.length_map]
  have h1 := List.length_filter_le (fun j : Nat => mayF p S (j : Int)) (List.range' 0 p.threads.l.length)
  rw [List.length_range'] at h1
  have := h.threads
  omega
theorem code_u8 {p : Prog} (hp : RightOk p) {S : List UInt8} {t : Int} (h : mayF p S t = true) : (UInt8.ofNat (code p S t)).toNat % (ableF p S).length = code p S t := by
  have h1 := code_lt h
  have h2 := able_len hp S
  rw [UInt8.toNat_ofNat', Nat.mod_eq_of_lt (show code p S t < 2 ^ 8 by omega), Nat.mod_eq_of_lt h1]
theorem play_again {p : Prog} {S S' : List UInt8} {l : List Int} (r : Run p S l S') : ∀ (pre : List UInt8) (n : Nat) (o : List Int), Valid p S → ableF p S' = [] → todo p S < n → o.length = pre.length →
    loopF (playF_a p (pre ++ codes p S l)) n (ableF p S, o, S) = (finalF S', o ++ l, 0) := by
  induction r with
  | nil S =>
    intro pre n o hv he hn ho
    cases n with
    | zero => omega
    | succ n =>
      show playF_a p _ (loopF (playF_a p _) n) (ableF p S, o, S) = _
      simp [playF_a, he]
  | @cons S t l S' h r ih =>
    intro pre n o hv he hn ho
    cases n with
    | zero => omega
    | succ n =>
      have h1 := (mayF_nat.1 h).2
      have hc := code_lt h
      have ht := goes_todo hv.ok hv.len h1
      have ih' := ih (pre ++ [UInt8.ofNat (code p S t)]) n (o ++ [t]) (goes_valid hv h1) he (by omega) (by simp [ho])
      rw [List.append_assoc, List.singleton_append] at ih'
      have hpick : ((pre ++ codes p S (t :: l)).getD o.length default) = UInt8.ofNat (code p S t) := by
        rw [ho, List.getD_eq_getElem?_getD, List.getElem?_append_right (Nat.le_refl _), Nat.sub_self]
        rfl
      have hlen : o.length < (pre ++ codes p S (t :: l)).length := by rw [ho, List.length_append]; simp [codes]
      show playF_a p _ (loopF (playF_a p _) n) (ableF p S, o, S) = _
      simp only [playF_a]
      rw [decide_eq_true (show (0 : Int) < ((ableF p S).length : Nat) by omega), decide_eq_true (show ((o.length : Nat) : Int) < (((pre ++ codes p S (t :: l)).length : Nat) : Int) by omega)]
      simp only [cond_true]
      rw [hpick, code_u8 hv.ok h, code_at h]
      show loopF (playF_a p (pre ++ UInt8.ofNat (code p S t) :: codes p (goesF p S t.toNat) l)) n _ = _
      rw [ih']
      simp

end Go.Proofs.YtpnaooajmdildaaGreatDoor
