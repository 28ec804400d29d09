/- Walks, printed by a program of this repository (wip/tool). -/
import Derived.Test.YtimonjemjhecoaaGreatDoorBQ
import Derived.Test.YtimonjemjhecoaaGreatDoorBFe
namespace Go.Proofs.YtimonjemjhecoaaGreatDoor
open Go.RowKit
open Go
attribute [local irreducible] wpList wpQuiet wpX Code.wp
set_option maxHeartbeats 1000000
set_option maxRecDepth 100000
set_option linter.unusedSimpArgs false
set_option linter.unusedVariables false


/-- The full fence. -/
def fenceI : Ins := ⟨7, 0, 0, ⟨false, 0⟩, ⟨false, 0⟩, 0, 3, 0⟩
/-- A thread without skips, with a full fence after each store. -/
def fencedL : List Ins → List Ins
  | [] => []
  | i :: l => if i.op = 8 then fencedL l else if i.op = 2 then i :: fenceI :: fencedL l else i :: fencedL l
theorem fence_loop (K : List Ins → Bool) : ∀ (l row : List Ins), loopL fencedF_b K l row = K (row ++ fencedL l)
  | [], row => by simp [loopL, fencedL]
  | i :: l, row => by
    have ih := fun row => fence_loop K l row
    show fencedF_b i (loopL fencedF_b K l) row = _
    generalize loopL fencedF_b K l = R at ih ⊢
    unfold fencedF_b
    simp only
    unfold fencedL
    by_cases h8 : i.op = 8
    · rw [beq_iff_eq.2 h8, cond_true, if_pos h8, ih]
    · rw [beq_eq_false_iff_ne.2 h8, cond_false, if_neg h8]
      by_cases h2 : i.op = 2
      · rw [beq_iff_eq.2 h2, cond_true, if_pos h2, ih, List.append_assoc]
        rfl
      · rw [beq_eq_false_iff_ne.2 h2, cond_false, if_neg h2, ih, List.append_assoc]
        rfl
theorem fence_threads (K : List (List Ins) → Bool) : ∀ (l : List (Sl Ins)) (row : List (List Ins)), loopL fencedF_a K l row = K (row ++ l.map fun t => fencedL (t.l.take (min t.l.length 6)))
  | [], row => by simp [loopL]
  | t :: l, row => by
    show loopL fencedF_b (fencedF_bk row (loopL fencedF_a K l)) (t.l.take (min t.l.length 6)) [] = _
    rw [fence_loop, List.nil_append]
    unfold fencedF_bk
    simp only
    rw [fence_threads K l, List.append_assoc]
    rfl
theorem fence_len : ∀ l : List Ins, (fencedL l).length ≤ 2 * l.length
  | [] => Nat.le_refl _
  | i :: l => by
    have := fence_len l
    unfold fencedL
    split
    · simp only [List.length_cons]; omega
    · split
      · simp only [List.length_cons]; omega
      · simp only [List.length_cons]; omega
theorem fence_mem {i : Ins} : ∀ l : List Ins, i ∈ fencedL l → i = fenceI ∨ (i ∈ l ∧ i.op ≠ 8)
  | [], h => by cases h
  | k :: l, h => by
    unfold fencedL at h
    split at h
    · exact (fence_mem l h).imp id fun h => ⟨List.mem_cons_of_mem _ h.1, h.2⟩
    · rename_i h8
      split at h
      · rcases List.mem_cons.1 h with rfl | h
        · exact .inr ⟨List.mem_cons_self .., h8⟩
        · rcases List.mem_cons.1 h with rfl | h
          · exact .inl rfl
          · exact (fence_mem l h).imp id fun h => ⟨List.mem_cons_of_mem _ h.1, h.2⟩
      · rcases List.mem_cons.1 h with rfl | h
        · exact .inr ⟨List.mem_cons_self .., h8⟩
        · exact (fence_mem l h).imp id fun h => ⟨List.mem_cons_of_mem _ h.1, h.2⟩
theorem fence_next : ∀ (l : List Ins) (n : Nat), n < (fencedL l).length → ((fencedL l).getD n default).op = 2 → n + 1 < (fencedL l).length ∧ (fencedL l).getD (n + 1) default = fenceI
  | [], n, h, _ => absurd h (Nat.not_lt_zero _)
  | i :: l, n, h, ho => by
    by_cases h8 : i.op = 8
    · have e : fencedL (i :: l) = fencedL l := by rw [fencedL, if_pos h8]
      rw [e] at h ho ⊢
      exact fence_next l n h ho
    · by_cases h2 : i.op = 2
      · have e : fencedL (i :: l) = i :: fenceI :: fencedL l := by rw [fencedL, if_neg h8, if_pos h2]
        rw [e] at h ho ⊢
        match n, h, ho with
        | 0, _, _ => exact ⟨by simp only [List.length_cons]; omega, rfl⟩
        | 1, _, ho => exact absurd (show fenceI.op = 2 from ho) (by decide)
        | n + 2, h, ho =>
          have := fence_next l n (by simp only [List.length_cons] at h; omega) ho
          exact ⟨by simp only [List.length_cons]; omega, this.2⟩
      · have e : fencedL (i :: l) = i :: fencedL l := by rw [fencedL, if_neg h8, if_neg h2]
        rw [e] at h ho ⊢
        match n, h, ho with
        | 0, _, ho => exact absurd (show i.op = 2 from ho) h2
        | n + 1, h, ho =>
          have := fence_next l n (by simp only [List.length_cons] at h; omega) ho
          exact ⟨by simp only [List.length_cons]; omega, this.2⟩
/-- The program whose threads are fenced. -/
def fenceP (p : Prog) : Prog := progT p (p.threads.l.map fun t => fencedL (t.l.take (min t.l.length 6)))
theorem fence_ok (b L : Int) : insOk ⟨fenceI, b⟩ L = true := by kernel_rfl
theorem fence_right {p : Prog} (h : rightF p = 0) : rightF (fenceP p) = 0 := by
  have hr := right_ok h
  refine right_with h (by rw [List.length_map]) fun t ht => ?_
  obtain ⟨s, hs, rfl⟩ := List.mem_map.1 ht
  have h1 := hr.thread s hs
  have hl := fence_len (s.l.take (min s.l.length 6))
  rw [List.length_take] at hl
  refine threadF_yes (by omega) fun j hj => ?_
  have hm : (fencedL (s.l.take (min s.l.length 6))).getD j default ∈ fencedL (s.l.take (min s.l.length 6)) := by
    rw [List.getD_eq_getElem?_getD, List.getElem?_eq_getElem hj]; exact List.getElem_mem hj
  rcases fence_mem _ hm with e | ⟨h2, h8⟩
  · rw [e]; exact fence_ok _ _
  · have h3 := List.mem_of_mem_take h2
    obtain ⟨n, hn, e⟩ := List.getElem_of_mem h3
    simp only [threadF, Bool.and_eq_true, decide_eq_true_eq, List.all_eq_true, List.mem_range] at h1
    have h4 := h1.2 n hn
    rw [List.getD_eq_getElem?_getD, List.getElem?_eq_getElem hn] at h4
    rw [← e] at h8 ⊢
    exact behind_any h8 h4
/-- After each store there is a full fence. -/
def Fenced (p : Prog) : Prop := ∀ k n, n < (p.threads.l.getD k default).l.length → (insAt p k n).op = 2 → n + 1 < (p.threads.l.getD k default).l.length ∧ insAt p k (n + 1) = fenceI
theorem fenceP_fenced (p : Prog) : Fenced (fenceP p) := by
  intro k n hn ho
  unfold insAt at ho ⊢
  have e : ((fenceP p).threads.l.getD k default).l = if k < p.threads.l.length then fencedL ((p.threads.l.getD k default).l.take (min (p.threads.l.getD k default).l.length 6)) else [] := by
    unfold fenceP progT
    simp only [List.map_map, List.getD_eq_getElem?_getD, List.getElem?_map]
    rcases Nat.lt_or_ge k p.threads.l.length with h | h
    · rw [List.getElem?_eq_getElem h, if_pos h]; rfl
    · rw [List.getElem?_eq_none h, if_neg (by omega)]; rfl
  rw [e] at hn ho ⊢
  split at hn
  · rename_i h
    rw [if_pos h] at ho ⊢
    exact fence_next _ n hn ho
  · exact absurd hn (Nat.not_lt_zero _)
/-! ### the two states side by side -/
/-- Thread t of S holds a store that Z has yet to execute. -/
structure Held (p : Prog) (S Z : List UInt8) (t : Nat) : Prop where
  one : (S.getD (138 + t) 0).toNat = 1
  regs : ∀ j, 1 ≤ j → j < 9 → Z.getD (t * 9 + j) 0 = S.getD (t * 9 + j) 0
  pc : (S.getD (t * 9) 0).toNat = (Z.getD (t * 9) 0).toNat + 1
  op : (insB p Z t).op = 2
  th : t < p.threads.l.length
  room : (Z.getD (t * 9) 0).toNat < (p.threads.l.getD t default).l.length
  loc : stL S t 0 = (insB p Z t).loc
  val : stV S t 0 = worth (insB p Z t).a ((Z.drop (t * 9 + 1)).take 8)
structure Sim (p : Prog) (S Z : List UInt8) : Prop where
  mem : ∀ l, l < 6 → Z.getD (36 + l) 0 = S.getD (36 + l) 0
  th : ∀ t, t < 4 → (S.getD (138 + t) 0 = 0 ∧ ∀ j, j < 9 → Z.getD (t * 9 + j) 0 = S.getD (t * 9 + j) 0) ∨ Held p S Z t
section
variable {p : Prog} {mach : UInt8} {S Z T Z' : List UInt8}
theorem ins_same {t : Nat} (h : Z.getD (t * 9) 0 = S.getD (t * 9) 0) : insB p Z t = insB p S t := by unfold insB; rw [h]
/-- Thread u is not touched. -/
theorem th_other {u : Nat} (hu : u < 4) (h : (S.getD (138 + u) 0 = 0 ∧ ∀ j, j < 9 → Z.getD (u * 9 + j) 0 = S.getD (u * 9 + j) 0) ∨ Held p S Z u) (hZl : Z.length = 142) (hZl' : Z'.length = 142)
    (hT : ∀ j, j < 9 → T.getD (u * 9 + j) 0 = S.getD (u * 9 + j) 0) (hZ : ∀ j, j < 9 → Z'.getD (u * 9 + j) 0 = Z.getD (u * 9 + j) 0) (hm : T.getD (138 + u) 0 = S.getD (138 + u) 0) (hb : stL T u 0 = stL S u 0 ∧ stV T u 0 = stV S u 0) :
    (T.getD (138 + u) 0 = 0 ∧ ∀ j, j < 9 → Z'.getD (u * 9 + j) 0 = T.getD (u * 9 + j) 0) ∨ Held p T Z' u := by
  have e0 := hZ 0 (by omega)
  have e1 := hT 0 (by omega)
  rw [Nat.add_zero] at e0 e1
  rcases h with ⟨h0, h1⟩ | h
  · exact .inl ⟨by rw [hm, h0], fun j hj => by rw [hZ j hj, h1 j hj, hT j hj]⟩
  · have ei : insB p Z' u = insB p Z u := ins_same e0
    have er : (Z'.drop (u * 9 + 1)).take 8 = (Z.drop (u * 9 + 1)).take 8 := by
      refine ext_getD (n := 8) (by simp only [List.length_take, List.length_drop]; omega) (by simp only [List.length_take, List.length_drop]; omega) fun q hq => ?_
      rw [sub_getD _ _ _ _ hq, sub_getD _ _ _ _ hq]
      have := hZ (q + 1) (by omega)
      rw [show u * 9 + 1 + q = u * 9 + (q + 1) by omega]
      exact this
    exact .inr ⟨by rw [hm, h.one], fun j h1 hj => by rw [hZ j hj, h.regs j h1 hj, hT j hj], by rw [e1, e0, h.pc], by rw [ei]; exact h.op, h.th, by rw [e0]; exact h.room, by rw [hb.1, ei]; exact h.loc, by rw [hb.2, ei, er]; exact h.val⟩

theorem pass_may {x : Pass} (hv : BValid p mach S) (hx : x ∈ passesF p mach S) (hd : x.drain = false) : bMayF p mach S x.thread.toNat = true := by
  have h4 := hv.ok.threads
  obtain ⟨t, ht, ⟨h1, rfl⟩ | ⟨k, hk, hc, rfl⟩⟩ := passes_mem.1 hx
  · have hU := thU_nat (show t < 256 by omega)
    show bMayF p mach S (thU t).toNat = true
    rw [hU]
    exact h1
  · cases hd
theorem sim_store (hF : Fenced p) (hk : mach = 2 ∨ mach = 3) (hv : BValid p mach S) (hz : Valid p Z) (hs : Sim p S Z) {x : Pass} (hx : x ∈ passesF p mach S) (hd : x.drain = false) :
    S.getD (138 + x.thread.toNat) 0 = 0 ∧ ∀ j, j < 9 → Z.getD (x.thread.toNat * 9 + j) 0 = S.getD (x.thread.toNat * 9 + j) 0 := by
  have hpf := pass_facts hv hx
  rcases hs.th _ hpf.2.1 with h | h
  · exact h
  · exfalso
    have h3 := (bmay_iff.1 (pass_may hv hx hd)).2.2
    have hi : insB p S x.thread.toNat = fenceI := by
      have := (hF _ _ h.room h.op).2
      unfold insB
      rw [h.pc]
      exact this
    rw [hi] at h3
    have hone := h.one
    rcases h3 rfl with h4 | h4 | h4
    · rw [h4] at hone; exact absurd hone (by decide)
    · exact absurd h4 (by decide)
    · exact absurd h4.1 (by decide)
theorem sim_held (hF : Fenced p) (hk : mach = 2 ∨ mach = 3) (hv : BValid p mach S) (hz : Valid p Z) (hs : Sim p S Z) {x : Pass} (hx : x ∈ passesF p mach S) (hd : x.drain = false) (ho : (insB p S x.thread.toNat).op = 2) :
    Sim p (doesF p mach S x) Z := by
  have hpf := pass_facts hv hx
  have hpc := hpf.2.2.1 hd
  obtain ⟨h0, hth⟩ := sim_store hF hk hv hz hs hx hd
  have hm1 : mach ≠ 1 := by rcases hk with rfl | rfl <;> decide
  have D := does_store hv hx hd ho hm1
  have hle := D.le
  have z : (0 : UInt8).toNat = 0 := rfl
  rw [h0] at hle
  have ha : keepPos mach S x.thread.toNat (insB p S x.thread.toNat).loc (S.getD (138 + x.thread.toNat) 0).toNat = 0 := by rw [h0]; rfl
  rw [ha] at D
  have e0 := hth 0 (by omega)
  rw [Nat.add_zero] at e0
  have ei := ins_same (p := p) e0
  have hS := hv.len
  have hZ := hz.len
  have h4 := hpf.2.1
  have er : (Z.drop (x.thread.toNat * 9 + 1)).take 8 = (S.drop (x.thread.toNat * 9 + 1)).take 8 := by
    refine ext_getD (n := 8) (by simp only [List.length_take, List.length_drop]; omega) (by simp only [List.length_take, List.length_drop]; omega) fun q hq => ?_
    rw [sub_getD _ _ _ _ hq, sub_getD _ _ _ _ hq]
    have := hth (q + 1) (by omega)
    rw [show x.thread.toNat * 9 + 1 + q = x.thread.toNat * 9 + (q + 1) by omega]
    exact this
  generalize doesF p mach S x = T at *
  generalize x.thread.toNat = t at *
  refine ⟨fun l hl => by rw [hs.mem l hl, D.low _ (by omega) (by omega)], fun u hu => ?_⟩
  by_cases e : u = t
  · subst e
    right
    refine ⟨by rw [D.own, h0, z], fun j h1 hj => by rw [hth j hj, D.low _ (by omega) (by omega)], by rw [D.pc, e0], by rw [ei]; exact ho, hpf.1, by rw [e0]; exact hpc, by rw [ei]; exact D.put.1, by rw [ei, er]; exact D.put.2⟩
  · exact th_other hu (hs.th u hu) hZ hZ (fun j hj => D.low _ (by omega) (by omega)) (fun j hj => rfl) (D.many u hu e) (D.buf u hu e 0 (by omega))
theorem sim_drain (hk : mach = 2 ∨ mach = 3) (hv : BValid p mach S) (hz : Valid p Z) (hs : Sim p S Z) {x : Pass} (hx : x ∈ passesF p mach S) (hd : x.drain = true) :
    mayN p Z x.thread.toNat = true ∧ Sim p (doesF p mach S x) (goesF p Z x.thread.toNat) := by
  have hpf := pass_facts hv hx
  obtain ⟨a, D, -, -⟩ := does_drain hv hx hd
  have hlt := D.lt
  have z : (0 : UInt8).toNat = 0 := rfl
  have h : Held p S Z x.thread.toNat := by
    rcases hs.th _ hpf.2.1 with h | h
    · rw [h.1] at hlt; exact absurd hlt (Nat.not_lt_zero _)
    · exact h
  have hone := h.one
  obtain rfl : a = 0 := by omega
  have hm : mayN p Z x.thread.toNat = true := mayN_iff.2 ⟨h.th, h.room⟩
  have hl := hv.ok.loc h.th h.room
  have hL := hv.ok.locs
  have hlen := len_le hv.ok x.thread.toNat
  have hroom := h.room
  have g := goes_store hz hm h.op
  have hZl := goes_length (p := p) hz.len hpf.2.1
  have hpcT := h.pc
  have hown := D.own
  have hZ := hz.len
  have h4 := hpf.2.1
  have hl6 : (insB p Z x.thread.toNat).loc.toNat < 6 := by unfold insB; omega
  refine ⟨hm, ?_⟩
  generalize doesF p mach S x = T at *
  generalize x.thread.toNat = t at *
  generalize goesF p Z t = Z' at *
  refine ⟨fun l hl => ?_, fun u hu => ?_⟩
  · rw [D.mem l hl, g, if_neg (by omega), h.loc, h.val]
    by_cases e : l = (insB p Z t).loc.toNat
    · rw [if_pos (by omega), if_pos e]
    · rw [if_neg (by omega), if_neg e, hs.mem l hl]
  · by_cases e : u = t
    · subst e
      left
      refine ⟨UInt8.toNat_inj.1 (by omega), fun j hj => ?_⟩
      rw [g, D.low _ (by omega)]
      rcases Nat.eq_zero_or_pos j with rfl | hp
      · rw [if_pos (by omega), Nat.add_zero]
        refine UInt8.toNat_inj.1 ?_
        rw [UInt8.toNat_add, hpcT, show (1 : UInt8).toNat = 1 by rfl]
        omega
      · rw [if_neg (by omega), if_neg (by omega), h.regs j hp hj]
    · exact th_other hu (hs.th u hu) hZ hZl (fun j hj => D.low _ (by omega)) (fun j hj => by rw [g, if_neg (by omega), if_neg (by omega)]) (D.many u hu e) (D.buf u hu e 0 (by omega))
theorem sim_plain (hF : Fenced p) (hk : mach = 2 ∨ mach = 3) (hv : BValid p mach S) (hz : Valid p Z) (hs : Sim p S Z) {x : Pass} (hx : x ∈ passesF p mach S) (hd : x.drain = false) (ho : (insB p S x.thread.toNat).op ≠ 2) :
    mayN p Z x.thread.toNat = true ∧ Sim p (doesF p mach S x) (goesF p Z x.thread.toNat) := by
  have hpf := pass_facts hv hx
  have hpc := hpf.2.2.1 hd
  obtain ⟨h0, hth⟩ := sim_store hF hk hv hz hs hx hd
  have e0 := hth 0 (by omega)
  rw [Nat.add_zero] at e0
  have ei := ins_same (p := p) e0
  have hS := hv.len
  have hZ := hz.len
  have h4 := hpf.2.1
  have hm : mayN p Z x.thread.toNat = true := mayN_iff.2 ⟨hpf.1, by show (Z.getD (x.thread.toNat * 9) 0).toNat < _; rw [e0]; exact hpc⟩
  have hl := hv.ok.loc hpf.1 hpc
  have hat := hv.ok.at hpf.1 hpc
  have hL := hv.ok.locs
  have hl6 : (insB p S x.thread.toNat).loc.toNat < 6 := by unfold insB; omega
  have hZl := goes_length (p := p) hz.len h4
  have key : (∀ j, (x.thread.toNat * 9 ≤ j ∧ j < x.thread.toNat * 9 + 9) ∨ (36 ≤ j ∧ j < 42) → (goesF p Z x.thread.toNat).getD j 0 = (doesF p mach S x).getD j 0) ∧
      (∀ j, j < 36 → ¬ (x.thread.toNat * 9 ≤ j ∧ j < x.thread.toNat * 9 + 9) → (doesF p mach S x).getD j 0 = S.getD j 0 ∧ (goesF p Z x.thread.toNat).getD j 0 = Z.getD j 0) ∧ (∀ j, 42 ≤ j → (doesF p mach S x).getD j 0 = S.getD j 0) := by
    have hZo : ∀ j, j < 36 → ¬ (x.thread.toNat * 9 ≤ j ∧ j < x.thread.toNat * 9 + 9) → (goesF p Z x.thread.toNat).getD j 0 = Z.getD j 0 := fun j h1 h2 => by
      obtain ⟨_, hl6', _, _⟩ := hz.may hm
      rw [goes_getD hz.len h4 hl6', if_neg h2, if_neg (by omega)]
    by_cases h1 : (insB p S x.thread.toNat).op = 1
    · have g1 := does_load hv hx hd h1
      have g2 := goes_load hz hm (by rw [ei]; exact h1)
      rw [ei] at g2
      have hdst : (insB p S x.thread.toNat).dst.toNat < 8 := UInt8.lt_iff_toNat_lt.1 hat.2.dst
      rw [sees_mem hv hl6 h4 h0] at g1
      refine ⟨fun j hj => ?_, fun j h1 h2 => ⟨by rw [g1, if_neg (by omega), if_neg (by omega)], hZo j h1 h2⟩, fun j hj => by rw [g1, if_neg (by omega), if_neg (by omega)]⟩
      rw [g1, g2, e0, hs.mem _ hl6]
      split
      · rfl
      · split
        · rfl
        · rcases hj with hj | hj
          · have := hth (j - x.thread.toNat * 9) (by omega)
            rw [show x.thread.toNat * 9 + (j - x.thread.toNat * 9) = j by omega] at this
            exact this
          · have := hs.mem (j - 36) (by omega)
            rw [show 36 + (j - 36) = j by omega] at this
            exact this
    · have g1 := does_other hv hx hd h1 (fun h => absurd h ho)
      have hbl := bare_len hS
      have hb : ∀ j, j < 42 → (bareOf S).getD j 0 = S.getD j 0 := fun j hj => by rw [bare_getD hS, if_neg (by omega)]
      have eb : insB p (bareOf S) x.thread.toNat = insB p S x.thread.toNat := ins_same (by rw [hb _ (by omega)])
      have gc := goes_congr (p := p) (S := bareOf S) (Z := Z) hbl hZ h4 (fun j hj => by rw [hb _ (by omega)]; exact hth j hj) (fun l hl => by rw [hb _ (by omega)]; exact hs.mem l hl) (by rw [eb]; exact hl6)
      refine ⟨fun j hj => ?_, fun j h1 h2 => ⟨?_, hZo j h1 h2⟩, fun j hj => ?_⟩
      · rw [g1, if_neg (by omega)]
        exact gc j (by omega) (fun h1 h2 => by omega)
      · have eS : insAt p x.thread.toNat (pcOf (bareOf S) x.thread.toNat).toNat = insB p (bareOf S) x.thread.toNat := rfl
        rw [g1, if_neg (by omega), goes_getD hbl h4 (by rw [eS, eb]; exact hl6), if_neg h2, if_neg (by omega), hb _ (by omega)]
      · rw [g1]
        split
        · rfl
        · have eS : insAt p x.thread.toNat (pcOf (bareOf S) x.thread.toNat).toNat = insB p (bareOf S) x.thread.toNat := rfl
          rw [goes_getD hbl h4 (by rw [eS, eb]; exact hl6), if_neg (by omega), if_neg (by rw [eS, eb]; omega), bare_getD hS, if_neg (by omega)]
  obtain ⟨kA, kB, kC⟩ := key
  refine ⟨hm, ?_⟩
  generalize doesF p mach S x = T at *
  generalize x.thread.toNat = t at *
  generalize goesF p Z t = Z' at *
  refine ⟨fun l hl => kA _ (.inr (by omega)), fun u hu => ?_⟩
  by_cases e : u = t
  · subst e
    exact .inl ⟨by rw [kC _ (by omega), h0], fun j hj => kA _ (.inl (by omega))⟩
  · exact th_other hu (hs.th u hu) hZ hZl (fun j hj => (kB _ (by omega) (by omega)).1) (fun j hj => (kB _ (by omega) (by omega)).2) (kC _ (by omega)) ⟨kC _ (by omega), kC _ (by omega)⟩
end
theorem fenced_run {p : Prog} {L : List (List Ins)} {mach : UInt8} {picks : List UInt8} (hF : Fenced (progT p L)) (hk : mach = 2 ∨ mach = 3) (K : Nat × List UInt8 × List UInt8 → Bool) {S T : List UInt8} {l : List Pass} (r : BRun (progT p L) mach S l T) :
    ∀ Z, BValid (progT p L) mach S → Valid (progT p L) Z → Sim (progT p L) S Z → ∀ dn, (bPlayF (progT p L) mach (picks.take (min picks.length 100))).2.1 = dn ++ l →
    ∃ Z', Valid (progT p L) Z' ∧ Sim (progT p L) T Z' ∧ loopL (fencedF_f p picks L mach) K l (dn.length, Z, S) = K (dn.length + l.length, Z', T) := by
  induction r with
  | nil => intro Z _ hz hs dn _; exact ⟨Z, hz, hs, rfl⟩
  | cons h r ih =>
    rename_i S x l T
    intro Z hv hz hs dn e
    have hx : (bPlayF (progT p L) mach (picks.take (min picks.length 100))).2.1.getD dn.length default = x := by
      rw [e, List.getD_eq_getElem?_getD, List.getElem?_append_right (Nat.le_refl _), Nat.sub_self]
      rfl
    have hn := (does_next hv h).1
    have hpf := pass_facts hv h
    have step : ∀ Z1, Valid (progT p L) Z1 → Sim (progT p L) (doesF (progT p L) mach S x) Z1 → ∃ Z', Valid (progT p L) Z' ∧ Sim (progT p L) T Z' ∧ loopL (fencedF_f p picks L mach) K l (dn.length + 1, Z1, doesF (progT p L) mach S x) = K (dn.length + (x :: l).length, Z', T) := fun Z1 h1 h2 => by
      obtain ⟨Z', a, b, c⟩ := ih Z1 hn h1 h2 (dn ++ [x]) (by rw [e, List.append_assoc]; rfl)
      refine ⟨Z', a, b, ?_⟩
      rw [List.length_append, List.length_singleton] at c
      rw [c, List.length_cons, Nat.add_right_comm, Nat.add_assoc]
    show ∃ Z', _ ∧ _ ∧ fencedF_f p picks L mach x (loopL (fencedF_f p picks L mach) K l) (dn.length, Z, S) = _
    generalize loopL (fencedF_f p picks L mach) K l = R at step
    unfold fencedF_f fencedF_v105 fencedF_v116 fencedF_v128
    simp only
    rw [hx, bmove_in hv h]
    simp only [bne_self_eq_false, cond_false]
    have hgo : mayN (progT p L) Z x.thread.toNat = true → moveF (progT p L) Z (x.thread.toNat : Int) = (goesF (progT p L) Z x.thread.toNat, 0) := fun hm => by
      have := move_eq (p := progT p L) (s := Z) (t := (x.thread.toNat : Int)) ((valid_iff hz.len).2 hz) (by unfold mayF; rw [Int.toNat_natCast, hm, Bool.and_true]; exact decide_eq_true (by omega))
      rw [Int.toNat_natCast] at this
      exact this
    cases hd : x.drain
    · rw [storeF_iff hpf.1 (hpf.2.2.1 hd)]
      by_cases ho : (insB (progT p L) S x.thread.toNat).op = 2
      · rw [beq_iff_eq.2 ho]
        exact step Z hz (sim_held hF hk hv hz hs h hd ho)
      · obtain ⟨hm, hs'⟩ := sim_plain hF hk hv hz hs h hd ho
        rw [beq_eq_false_iff_ne.2 ho, Bool.false_and, cond_false, hgo hm]
        exact step _ (goes_valid hz hm) hs'
    · obtain ⟨hm, hs'⟩ := sim_drain hk hv hz hs h hd
      rw [Bool.not_true, Bool.and_false, cond_false, hgo hm]
      exact step _ (goes_valid hz hm) hs'
theorem fenced_c {p : Prog} {mach : UInt8} (hr : rightF p = 0) (hk : mach = 2 ∨ mach = 3) (picks : List UInt8) : fencedF_c p picks (p.threads.l.map fun t => fencedL (t.l.take (min t.l.length 6))) mach = true := by
  have hQ := fence_right hr
  have hFn := fenceP_fenced p
  have eQ : progT p (p.threads.l.map fun t => fencedL (t.l.take (min t.l.length 6))) = fenceP p := rfl
  obtain ⟨l, T, r, h1, h2⟩ := bplay_eq hQ (.inr hk) (picks.take (min picks.length 100))
  have hv := start_bvalid hQ (.inr hk)
  obtain ⟨h0, hz⟩ := start_valid hQ
  unfold fencedF_c fencedF_d fencedF_v84
  rw [eQ, h2, h0]
  rw [show (((finalF T, l, (0 : Int)).2.2 != 0) || ((0 : Int) != 0)) = false by rfl, cond_false]
  have hs0 : Sim (fenceP p) (startF (fenceP p)).1 (startF (fenceP p)).1 := ⟨fun l _ => rfl, fun t ht => .inl ⟨hz.rest _ (by omega) (by omega), fun j _ => rfl⟩⟩
  have hrun := fenced_run (p := p) (L := p.threads.l.map fun t => fencedL (t.l.take (min t.l.length 6))) (mach := mach) (picks := picks)
  rw [eQ] at hrun
  obtain ⟨Z, hZ, hS, e⟩ := hrun hFn hk (fencedF_fk p picks (p.threads.l.map fun t => fencedL (t.l.take (min t.l.length 6))) mach) r _ hv hz hs0 [] (by rw [h2]; rfl)
  refine e.trans ?_
  have hT := r.valid hv
  have he := end_empty hT h1
  have h4 := hT.ok.threads
  have hth : ∀ t, t < 4 → ∀ j, j < 9 → Z.getD (t * 9 + j) 0 = T.getD (t * 9 + j) 0 := fun t ht j hj => by
    rcases hS.th t ht with h | h
    · exact h.2 j hj
    · have := h.one
      rw [he t ht] at this
      exact absurd this (by decide)
  have hfin : finalF Z = finalF T := final_congr hZ.len hT.len fun j hj => by
    rcases Nat.lt_or_ge j 36 with h | h
    · have := hth (j / 9) (by omega) (j % 9) (by omega)
      rw [show j / 9 * 9 + j % 9 = j by omega] at this
      exact this
    · have := hS.mem (j - 36) (by omega)
      rw [show 36 + (j - 36) = j by omega] at this
      exact this
  have hab : ableF (fenceP p) Z = [] := by
    rw [List.eq_nil_iff_forall_not_mem]
    intro t ht
    obtain ⟨t0, hm⟩ := mayF_nat.1 (able_mem.1 ht)
    obtain ⟨h5, h6⟩ := mayN_iff.1 hm
    have h7 := hth t.toNat (by omega) 0 (by omega)
    rw [Nat.add_zero] at h7
    change (Z.getD (t.toNat * 9) 0).toNat < _ at h6
    rw [h7] at h6
    have := passes_mem.2 ⟨t.toNat, h5, .inl ⟨bmay_empty (mach := mach) h6 (he _ (by omega)), rfl⟩⟩
    rw [h1] at this
    cases this
  have hov : overF (fenceP p) Z = true := by
    unfold overF
    rw [(valid_iff hZ.len).2 hZ, hab]
    rfl
  unfold fencedF_fk fencedF_v136
  simp only
  rw [eQ, h2, hov, hfin, decide_eq_true rfl]
  rfl
theorem fenced_true (p : Prog) (pso : Bool) (picks : List UInt8) : fencedF p pso picks = true := by
  unfold fencedF
  by_cases hr : rightF p = 0
  · rw [hr, show ((0 : Int) != 0) = false by rfl, cond_false, fence_threads, List.nil_append]
    unfold fencedF_ak
    simp only
    cases pso
    · exact fenced_c hr (.inl rfl) picks
    · exact fenced_c hr (.inr rfl) picks
  · rw [bne_iff_ne.2 hr]
    rfl

end Go.Proofs.YtimonjemjhecoaaGreatDoor
