/- Walks, printed by a program of this repository (wip/tool). -/
import Derived.Test.YtpnaooajmdildaaGreatDoorPl
import Derived.Test.YtpnaooajmdildaaGreatDoorSP
namespace Go.Proofs.YtpnaooajmdildaaGreatDoor
open Go.RowKit
open Go
attribute [local irreducible] wpList wpQuiet wpX Code.wp
set_option maxHeartbeats 1000000
set_option maxRecDepth 100000
set_option linter.unusedSimpArgs false
set_option linter.unusedVariables false


theorem sum_loop (K : Nat → Bool) : ∀ (l : List (Sl Ins)) (b : Nat), loopL playsL_b K l b = K (b + (l.map (fun t => t.l.length)).sum)
  | [], b => by simp [loopL]
  | x :: l, b => by
    show loopL playsL_b K l (b + x.l.length) = _
    rw [sum_loop K l]
    simp [Nat.add_assoc]
theorem todo_sum {p : Prog} (h : RightOk p) (S : List UInt8) : todo p S ≤ (p.threads.l.map (fun t => t.l.length)).sum := by
  have h4 := h.threads
  have d0 : (default : Sl Ins).l.length = 0 := rfl
  unfold todo leftAt
  match p.threads.l, h4 with
  | [a], _ => (simp [List.getD, d0]; try omega)
  | [a, b], _ => (simp [List.getD, d0]; try omega)
  | [a, b, c], _ => (simp [List.getD, d0]; try omega)
  | [a, b, c, d], _ => (simp [List.getD, d0]; try omega)
  | a :: b :: c :: d :: e :: l, h4 => simp at h4
def posns (t : Int) : List Int → Nat → List UInt8
  | [], _ => []
  | x :: l, j => (if x == t then [UInt8.ofNat (((j : Nat) : Int) % 256).toNat] else []) ++ posns t l (j + 1)
theorem pos_loop {p : Prog} {picks : List UInt8} {c : Nat} {t : Int} (ht : (playF p (picks.take (min picks.length 60))).2.1.getD c default = t) (K : (Nat × List UInt8) → Bool) :
    ∀ (l : List Int) (j : Nat) (row : List UInt8), loopL (playsL_d p picks c) K l (j, row) = K (j + l.length, row ++ posns t l j)
  | [], j, row => by simp [loopL, posns]
  | x :: l, j, row => by
    show (bif (x == ((playF p (picks.take (min picks.length 60))).2.1.getD c default)) then (loopL (playsL_d p picks c) K l (j + 1, row ++ [(UInt8.ofNat (((j : Nat) : Int) % 256).toNat)])) else (loopL (playsL_d p picks c) K l (j + 1, row))) = _
    rw [ht]
    cases h : x == t
    · simp only [cond_false]
      rw [pos_loop ht K l]
      simp [posns, h, Nat.add_assoc, Nat.add_comm 1]
    · simp only [cond_true]
      rw [pos_loop ht K l]
      simp [posns, h, Nat.add_assoc, Nat.add_comm 1]
theorem pos_none (t : Int) : ∀ (l : List Int) (j : Nat), t ∉ l → posns t l j = []
  | [], _, _ => rfl
  | x :: l, j, h => by
    have h1 : (x == t) = false := by simp; intro e; exact h (by simp [e])
    simp only [posns, h1]
    rw [pos_none t l (j + 1) (fun e => h (List.mem_cons_of_mem _ e))]
    rfl
theorem pos_one (t : Int) : ∀ (l : List Int) (j : Nat), l.Nodup → t ∈ l → posns t l j = [UInt8.ofNat (((j + l.idxOf t : Nat) : Int) % 256).toNat]
  | [], _, _, h => by cases h
  | x :: l, j, hn, h => by
    have hn' := List.nodup_cons.1 hn
    cases hx : x == t
    · have hne : x ≠ t := by simpa using hx
      have hm : t ∈ l := by
        rcases List.mem_cons.1 h with e | e
        · exact absurd e.symm hne
        · exact e
      simp only [posns, hx]
      rw [pos_one t l (j + 1) hn'.2 hm, List.idxOf_cons, hx]
      simp [Nat.add_assoc, Nat.add_comm 1]
    · have he : x = t := by simpa using hx
      subst he
      simp only [posns, hx]
      rw [pos_none x l (j + 1) hn'.1, List.idxOf_cons, hx]
      simp
theorem wrap_code (d : Nat) : UInt8.ofNat (((d : Nat) : Int) % 256).toNat = UInt8.ofNat d := by
  apply UInt8.toNat_inj.1
  rw [UInt8.toNat_ofNat', UInt8.toNat_ofNat']
  have : (((d : Nat) : Int) % 256).toNat = d % 256 := by omega
  rw [this]
  omega
theorem order_loop {p : Prog} {picks : List UInt8} (K : (Nat × List UInt8 × List UInt8) → Bool) {S S' : List UInt8} {l : List Int} (r : Run p S l S') :
    ∀ (pre : List Int) (row : List UInt8), Valid p S → (playF p (picks.take (min picks.length 60))).2.1 = pre ++ l → loopL (playsL_c p picks) K l (pre.length, row, S) = K (pre.length + l.length, row ++ codes p S l, S') := by
  induction r with
  | nil S => intro pre row _ _; simp [loopL, codes]
  | @cons S t l S' h r ih =>
    intro pre row hv ho
    have hr := (valid_iff hv.len).2 hv
    have ht : (playF p (picks.take (min picks.length 60))).2.1.getD pre.length default = t := by
      rw [ho, List.getD_eq_getElem?_getD, List.getElem?_append_right (Nat.le_refl _), Nat.sub_self]
      rfl
    show loopL (playsL_d p picks pre.length) (playsL_dk p picks pre.length S (loopL (playsL_c p picks) K l)) (movesF p S) (0, row) = _
    rw [pos_loop ht, moves_eq hr, pos_one t _ 0 (able_nodup p S) (able_mem.2 h), wrap_code]
    simp only [Nat.zero_add]
    show playsL_v111 pre.length (row ++ [UInt8.ofNat ((ableF p S).idxOf t)]) (loopL (playsL_c p picks) K l) (moveF p S ((playF p (picks.take (min picks.length 60))).2.1.getD pre.length default)) = _
    rw [ht, move_eq hr h]
    show loopL (playsL_c p picks) K l (pre.length + 1, row ++ [UInt8.ofNat ((ableF p S).idxOf t)], goesF p S t.toNat) = _
    have := ih (pre ++ [t]) (row ++ [UInt8.ofNat ((ableF p S).idxOf t)]) (goes_valid hv (mayF_nat.1 h).2) (by rw [ho]; simp)
    simp only [List.length_append, List.length_singleton] at this
    rw [this]
    simp [codes, code, Nat.add_assoc, Nat.add_comm 1]
theorem ints_self (a : List Int) : intsF a a = true := by
  unfold intsF
  simp only [bne_self_eq_false, cond_false]
  have key : ∀ (n k : Nat), k + n = a.length → loopL (intsF_a a) intsF_ak (a.drop k) k = true := by
    intro n
    induction n with
    | zero => intro k hk; rw [List.drop_eq_nil_of_le (by omega)]; rfl
    | succ n ih =>
      intro k hk
      rw [loopL_step (by omega)]
      unfold intsF_a
      simp only [bne_self_eq_false, cond_false]
      exact ih (k + 1) (by omega)
  exact key a.length 0 (by omega)
theorem playsL_true (p : Prog) (picks : List UInt8) : playsL p picks = true := by
  unfold playsL playsL_a
  by_cases hr : rightF p = 0
  · obtain ⟨h0, hv⟩ := start_valid hr
    obtain ⟨l, S', r, h1, e⟩ := play_eq hr (picks.take (min picks.length 60))
    have hv' := r.valid hv
    have hlen := r.len hv
    have hsum := todo_sum hv.ok (startF p).1
    have hag : playF p (codes p (startF p).1 l) = (finalF S', l, 0) := by
      have := play_again r [] 49 [] hv h1 (by have := todo_le hv.ok (startF p).1; omega) rfl
      rw [List.nil_append, List.nil_append] at this
      unfold playF
      rw [h0]
      exact this
    have ho : overF p S' = true := by
      unfold overF
      rw [(valid_iff hv'.len).2 hv', h1]
      rfl
    rw [show ((playF p (picks.take (min picks.length 60))).2.2 != (startF p).2 || (playF p (picks.take (min picks.length 60))).2.2 != 0) = false by rw [e, h0]; rfl, cond_false, sum_loop]
    unfold playsL_bk
    simp only
    have hl : (playF p (picks.take (min picks.length 60))).2.1 = l := by rw [e]
    rw [hl]
    have := order_loop (playsL_ck p picks (0 + (p.threads.l.map (fun t => t.l.length)).sum)) r [] [] hv (by rw [hl]; rfl)
    simp only [List.length_nil, List.nil_append, Nat.zero_add] at this ⊢
    rw [this]
    unfold playsL_ck
    simp only
    rw [e, hag, ho, codes_len]
    simp only [ints_self, decide_true, Bool.and_true, beq_self_eq_true]
    exact decide_eq_true (by omega)
  · have hs := start_no hr
    rw [play_no hr, hs]
    simp [hr]

end Go.Proofs.YtpnaooajmdildaaGreatDoor
