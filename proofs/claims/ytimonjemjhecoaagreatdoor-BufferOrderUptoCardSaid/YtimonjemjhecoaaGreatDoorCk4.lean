/- Walks, printed by a program of this repository (wip/tool). -/
import Derived.Test.YtimonjemjhecoaaGreatDoorCk3
namespace Go.Proofs.YtimonjemjhecoaaGreatDoor
open Go.RowKit
open Go
attribute [local irreducible] wpList wpQuiet wpX Code.wp
set_option maxHeartbeats 1000000
set_option maxRecDepth 100000
set_option linter.unusedSimpArgs false
set_option linter.unusedVariables false

theorem right1_spec (s : Sl Ins) (w : World) : Calls Tryz.prog 29 #[s.val] w fun e w' => e = .returned (.bool (decide (12 < s.l.length))) ∧ Ext w w' := by
 have H := Own.start w
 go_enter Tryz.func29, Tryz.ntmps29
 refine wsr ?_
 refine wasg (.bool false) ?_; simp only [N]
 refine wnr ?_
 refine wmv (s.val) ?_; simp only [N]
 refine wr (rp_len_sl (s := s) Tryz.underlying59 rfl) ?_; simp only [N]
 refine wr (rp_int_gtr rfl (s.l.length : Int) (12 : Int) rfl rfl) ?_; simp only [N]
 refine wasg (.bool (decide ((12 : Int) < (s.l.length : Int)))) ?_; simp only [N]
 refine wpList_nil ?_
 refine wp_ret ?_
 try simp only [Exit.inBlock, Exit.then]
 refine bodyPost_ret (results1 rfl (rv_tmp rfl)) rfl ?_
 exact ⟨by simp [Int.ofNat_lt]; try omega, H.ext⟩

theorem right2_spec (s : Sl Ins) (b T : Nat) (p : Prog) (w : World) (hs : SlIn 10 Ins.cells s w) (hb : w.heap[b]? = some (.cells p.cells.toArray T (0, 0))) (hl : p.locs.l.length ≤ 140737488355328) :
    Calls Tryz.prog 30 #[s.val, .pointer (some ⟨b, 0, none⟩)] w fun e w' => e = .returned (.bool (!threadF s.l p.locs.l.length)) ∧ Ext w w' := by
 have H := Own.start_ro w [SlIn 10 Ins.cells s, fun w => w.heap[b]? = some (.cells p.cells.toArray T (0, 0))] (List.forall_mem_cons.2 ⟨fun w' hw => hs.keep hw, List.forall_mem_cons.2 ⟨fun w' hw => (hw _ (Array.getElem?_eq_some_iff.1 hb).1).trans hb, fun _ h => by cases h⟩⟩)
 go_enter Tryz.func30, Tryz.ntmps30
 refine wsr ?_
 refine wasg (.bool false) ?_; simp only [N]
 refine wnr ?_
 refine wmv (s.val) ?_; simp only [N]
 refine wr (rp_fieldAddr rfl Tryz.underlying29 rfl 1 rfl sz22 rfl 1 rfl) ?_; simp only [N]
 refine wr (rp_load1ro H 1 rfl rfl rfl Tryz.underlying22 rfl (v := p.locs.val) rfl) ?_; simp only [N]
 refine wr (rp_len_sl (s := p.locs) Tryz.underlying22 rfl) ?_; simp only [N]
 refine wl_callE H rfl (rc_go Tryz.func31 (by kernel_rfl) rfl) (thread_spec s (p.locs.l.length : Int) _ (H.ro_at 0 rfl)) ?_
 clear H; intro w1 H
 simp only [N]
 refine wr (rp_not rfl (threadF s.l (p.locs.l.length : Int)) rfl) ?_; simp only [N]
 refine wasg (.bool (!(threadF s.l (p.locs.l.length : Int)))) ?_; simp only [N]
 refine wpList_nil ?_
 refine wp_ret ?_
 try simp only [Exit.inBlock, Exit.then]
 refine bodyPost_ret (results1 rfl (rv_tmp rfl)) rfl ?_
 exact ⟨rfl, H.ext⟩

theorem Cond.cells_one (c : Cond) : ∀ v ∈ c.cells.toArray.toList, v.oneCell' = true := by
  simp [Cond.cells, Value.oneCell', Sl.val]
mutual
def condF : Cond → Int → Int → Bool
  | .mk kind thread n val _ _ kids, t, l =>
    condsF kids t l &&
    (let bare := thread == 0 && n == 0 && val == 0
     if kind == 0 then bare && (kids.length : Int) == 0
     else if kind == 1 then decide ((thread.toNat : Int) < t) && decide (n < 8) && (kids.length : Int) == 0
     else if kind == 2 then decide ((n.toNat : Int) < l) && thread == 0 && (kids.length : Int) == 0
     else if kind == 3 || kind == 4 then bare && decide ((1 : Int) < (kids.length : Int))
     else if kind == 5 then bare && (kids.length : Int) == 1
     else false)
def condsF : List Cond → Int → Int → Bool
  | [], _, _ => true
  | k :: r, t, l => condF k t l && condsF r t l
end
theorem condsF_any (t l : Int) : ∀ ks : List Cond, condsF ks t l = !(ks.any fun k => !condF k t l)
  | [] => rfl
  | k :: r => by simp [condsF, condsF_any t l r]
def bareF (c : Cond) : Bool := c.thread == 0 && c.n == 0 && c.valu == 0
theorem condF_eq (c : Cond) (t l : Int) : condF c t l = (!(c.kids.l.any fun k => !condF k t l) && (if c.kind == 0 then bareF c && (c.kids.l.length : Int) == 0
     else if c.kind == 1 then decide ((c.thread.toNat : Int) < t) && decide (c.n < 8) && (c.kids.l.length : Int) == 0
     else if c.kind == 2 then decide ((c.n.toNat : Int) < l) && c.thread == 0 && (c.kids.l.length : Int) == 0
     else if c.kind == 3 || c.kind == 4 then bareF c && decide ((1 : Int) < (c.kids.l.length : Int))
     else if c.kind == 5 then bareF c && (c.kids.l.length : Int) == 1
     else false)) := by
  cases c
  rw [condF, condsF_any]
  rfl
theorem deepsF_append (k : Cond) : ∀ (l : List Cond) (d : Nat), deepsF (l ++ [k]) d = max (deepsF l d) (deepF k)
  | [], d => rfl
  | x :: l, d => by simp only [List.cons_append, deepsF]; exact deepsF_append k l _
theorem deepF_eq (c : Cond) : deepF c = deepsF c.kids.l 0 + 1 := by
  cases c
  rfl
theorem deepsF_le : ∀ (l : List Cond) (d : Nat), d ≤ deepsF l d
  | [], _ => Nat.le_refl _
  | x :: l, d => Nat.le_trans (Nat.le_max_left _ _) (deepsF_le l _)
theorem deepsF_take {l : List Cond} {k : Nat} (d : Nat) (h : k < l.length) : max (deepsF (l.take k) d) (deepF (l.getD k default)) = deepsF (l.take (k + 1)) d := by
  rw [← deepsF_append, List.take_add_one]
  simp [List.getD, List.getElem?_eq_getElem h]
theorem deepsF_mono (l : List Cond) (d : Nat) (k : Nat) : deepsF (l.take k) d ≤ deepsF l d := by
  have : deepsF l d = deepsF (l.drop k) (deepsF (l.take k) d) := by
    conv => lhs; rw [← List.take_append_drop k l]
    generalize l.take k = a
    generalize l.drop k = b
    induction a generalizing d with
    | nil => rfl
    | cons x a ih => simp only [List.cons_append, deepsF]; exact ih _
  rw [this]
  exact deepsF_le _ _

theorem indexFunc_cond (s : Sl Cond) (f : Nat) (first cap : List Value) (p : Cond → Bool) (w : World) (hs : SlIn 5 Cond.cells s w) (hf : IsFn Tryz.prog f)
    (hc : ∀ k, k < s.l.length → ∀ w', Ext w w' → Calls Tryz.prog f (first ++ [Value.agg ((s.l.getD k default).cells).toArray] ++ cap).toArray w' fun e w'' => e = .returned (.bool (p (s.l.getD k default))) ∧ Ext w' w'') :
    Calls Tryz.prog 102 #[s.val, .func (.func f) first.toArray cap.toArray] w fun e w' => e = .returned (iv (idxOf p s.l 0)) ∧ Ext w w' := by
 have H := Own.start_ro w [SlIn 5 Cond.cells s] (by simpa [HangsBelow] using fun w' hw => hs.keep hw)
 have hcap := hs.2.2
 go_enter Tryz.func102, Tryz.ntmps102
 refine wsr ?_
 refine wasg (iv (0 : Int)) ?_; simp only [N]
 refine wpList_nil ?_
 refine wp_seq ?_; refine wsr ?_
 refine wmv (s.val) ?_; simp only [N]
 refine wr (rp_len_sl (s := s) Tryz.underlying25 rfl) ?_; simp only [N]
 refine wmv (iv (0 : Int)) ?_; simp only [N]
 refine wpList_nil ?_
 refine wp_block ?_
 refine wp_loopX (fun m' a' w' => ∃ (k : Nat) (u4 u5 u9 u10 u11 u12 u13 u14 u15 u16 u17 u18 : Value), a' = ⟨#[s.val, .func (.func f) first.toArray cap.toArray, uU, uU, u4, u5, s.val, iv (s.l.length : Int), iv (k : Int), u9, u10, u11, u12, u13, u14, u15, u16, u17, u18], []⟩ ∧ Own w [] [SlIn 5 Cond.cells s] [] w' ∧ (k ≤ s.l.length) ∧ (∀ j, j < k → p (s.l.getD j default) = false) ∧ m' = s.l.length - k) _ ⟨0, _, _, _, _, _, _, _, _, _, _, _, _, rfl, H, (by simp), (by intro j hj; omega), rfl⟩ ?_
 clear H
 rintro _ _ w1 ⟨k, u4, u5, u9, u10, u11, u12, u13, u14, u15, u16, u17, u18, rfl, H, hi1_0, hi1_1, rfl⟩
 refine wsr ?_
 refine wr (rp_int_lss rfl (k : Int) (s.l.length : Int) rfl rfl) ?_; simp only [N]
 refine wpList_nil ?_
 refine wp_seq ?_; refine wp_cond_split rfl (fun hc1 => ?_) (fun hc1 => ?_)
 · --T 1
  have hc1N : (k : Int) < (s.l.length : Int) := by simpa using hc1
  refine wp_skip ?_
  refine wp_seq ?_; refine wp_block ?_
  refine wsr ?_
  refine wmv (iv (k : Int)) ?_; simp only [N]
  refine wasg (iv (k : Int)) ?_; simp only [N]
  refine wnr ?_
  refine wmv (.func (.func f) first.toArray cap.toArray) ?_; simp only [N]
  refine wmv (s.val) ?_; simp only [N]
  refine wmv (iv (k : Int)) ?_; simp only [N]
  refine wr (rp_indexAddr_sl (H.ro_at 0 rfl) rfl Tryz.underlying25 sz27 rfl k rfl (by omega)) ?_; simp only [N]
  refine wr (rp_loadN_sl (H.ro_at 0 rfl) k (by omega) rfl Tryz.underlying27 rfl rfl sz27) ?_; simp only [N]
  refine wl_callE H rfl (rc_fnv (first := first) (captured := cap) rfl hf) (hc k (by omega) _ H.ext) ?_
  clear H; intro w2 H
  simp only [N]
  refine wpList_nil ?_
  refine wp_cond_split rfl (fun hc2 => ?_) (fun hc2 => ?_)
  · --T 2
   refine wsr ?_
   refine wmv (iv (k : Int)) ?_; simp only [N]
   refine wasg (iv (k : Int)) ?_; simp only [N]
   refine wpList_nil ?_
   refine wp_ret ?_
   try simp only [Exit.inBlock, Exit.then]
   refine bodyPost_ret (results1 rfl (rv_tmp rfl)) rfl ?_
   exact ⟨by rw [idxOf_some (k := k) (by omega) hi1_1 (by simpa using hc2)]; simp, H.ext⟩
  · --F 2
   refine wp_skip ?_
   refine wp_region_lit ?_; refine wr (rp_int_add rfl (k : Int) (1 : Int) rfl rfl (by omega)) ?_; simp only [N]
   refine wmv (iv ((k : Int) + (1 : Int))) ?_; simp only [N]
   refine wpList_nil ?_
   show ∃ n', n' < _ ∧ _
   refine ⟨_, ?_, k + 1, _, _, _, _, _, _, _, _, _, _, _, _, rfl, H, ?_, ?_, rfl⟩
   · omega
   · omega
   · exact upto hi1_1 (by simpa using hc2)
 · --F 1
  have hc1N : (s.l.length : Int) ≤ (k : Int) := by simpa using hc1
  refine wp_exit ?_
  refine wsr ?_
  refine wasg (iv (-1 : Int)) ?_; simp only [N]
  refine wpList_nil ?_
  refine wp_ret ?_
  try simp only [Exit.inBlock, Exit.then]
  refine bodyPost_ret (results1 rfl (rv_tmp rfl)) rfl ?_
  exact ⟨by rw [idxOf_none fun j hj => hi1_1 j (by omega)]; rfl, H.ext⟩

theorem containsFunc_cond (s : Sl Cond) (f : Nat) (first cap : List Value) (p : Cond → Bool) (w : World) (hs : SlIn 5 Cond.cells s w) (hf : IsFn Tryz.prog f)
    (hc : ∀ k, k < s.l.length → ∀ w', Ext w w' → Calls Tryz.prog f (first ++ [Value.agg ((s.l.getD k default).cells).toArray] ++ cap).toArray w' fun e w'' => e = .returned (.bool (p (s.l.getD k default))) ∧ Ext w' w'') :
    Calls Tryz.prog 80 #[s.val, .func (.func f) first.toArray cap.toArray] w fun e w' => e = .returned (.bool (s.l.any p)) ∧ Ext w w' := by
 have H := Own.start_ro w [SlIn 5 Cond.cells s] (by simpa [HangsBelow] using fun w' hw => hs.keep hw)
 go_enter Tryz.func80, Tryz.ntmps80
 refine wsr ?_
 refine wasg (.bool false) ?_; simp only [N]
 refine wnr ?_
 refine wmv (s.val) ?_; simp only [N]
 refine wmv (.func (.func f) first.toArray cap.toArray) ?_; simp only [N]
 refine wl_callE H rfl (rc_go Tryz.func102 (by kernel_rfl) rfl) (indexFunc_cond s f first cap p _ (H.ro_at 0 rfl) hf (fun k hk w1 hw => hc k hk w1 (H.ext.trans hw))) ?_
 clear H; intro w1 H
 simp only [N]
 refine wr (rp_int_geq rfl (idxOf p s.l 0) (0 : Int) rfl rfl) ?_; simp only [N]
 refine wasg (.bool (decide ((0 : Int) ≤ (idxOf p s.l 0)))) ?_; simp only [N]
 refine wpList_nil ?_
 refine wp_ret ?_
 try simp only [Exit.inBlock, Exit.then]
 refine bodyPost_ret (results1 rfl (rv_tmp rfl)) rfl ?_
 exact ⟨by rw [idxOf_any]; rfl, H.ext⟩

theorem cond1_spec (k : Cond) (bt bl Tt Tl : Nat) (t l : Int) (w : World) (ht : w.heap[bt]? = some (.cells #[iv t] Tt (0, 0))) (hl : w.heap[bl]? = some (.cells #[iv l] Tl (0, 0)))
    (hc : ∀ w', Ext w w' → Calls Tryz.prog 54 #[.agg k.cells.toArray, iv t, iv l] w' fun e w'' => e = .returned (.bool (condF k t l)) ∧ Ext w' w'') :
    Calls Tryz.prog 81 #[.agg k.cells.toArray, .pointer (some ⟨bt, 0, none⟩), .pointer (some ⟨bl, 0, none⟩)] w fun e w' => e = .returned (.bool (!condF k t l)) ∧ Ext w w' := by
 have H := Own.start_ro w [fun w => w.heap[bt]? = some (.cells #[iv t] Tt (0, 0)), fun w => w.heap[bl]? = some (.cells #[iv l] Tl (0, 0))] (List.forall_mem_cons.2 ⟨fun w' hw => (hw _ (Array.getElem?_eq_some_iff.1 ht).1).trans ht, List.forall_mem_cons.2 ⟨fun w' hw => (hw _ (Array.getElem?_eq_some_iff.1 hl).1).trans hl, fun _ h => by cases h⟩⟩)
 go_enter Tryz.func81, Tryz.ntmps81
 refine wsr ?_
 refine wl_box H rfl rfl (v := .agg (k.cells).toArray) rfl ?_
 clear H; intro b1 w1 hnb1 H; dsimp only [Value.cells] at H
 simp only [N]
 refine wasg (.bool false) ?_; simp only [N]
 refine wnr ?_
 refine wr (rp_loadN H 0 rfl rfl rfl Tryz.underlying27 rfl sz27 (Nat.le_of_ble_eq_true rfl) (cs' := k.cells) rfl) ?_; simp only [N]
 refine wr (rp_load1ro H 0 rfl rfl rfl Tryz.underlying3 rfl (v := iv t) rfl) ?_; simp only [N]
 refine wr (rp_load1ro H 1 rfl rfl rfl Tryz.underlying3 rfl (v := iv l) rfl) ?_; simp only [N]
 refine wl_callE H rfl (rc_go Tryz.func54 (by kernel_rfl) rfl) (hc _ H.ext) ?_
 clear H; intro w2 H
 simp only [N]
 refine wr (rp_not rfl (condF k t l) rfl) ?_; simp only [N]
 refine wasg (.bool (!(condF k t l))) ?_; simp only [N]
 refine wpList_nil ?_
 refine wp_ret ?_
 try simp only [Exit.inBlock, Exit.then]
 refine bodyPost_ret (results1 rfl (rv_tmp rfl)) rfl ?_
 exact ⟨rfl, H.ext⟩

theorem cond_step (c : Cond) (t l : Int) (w : World) (hs : SlIn 5 Cond.cells c.kids w) (hk : ∀ k ∈ c.kids.l, ∀ w', Ext w w' → Calls Tryz.prog 54 #[.agg k.cells.toArray, iv t, iv l] w' fun e w'' => e = .returned (.bool (condF k t l)) ∧ Ext w' w'') :
    Calls Tryz.prog 54 #[.agg c.cells.toArray, iv t, iv l] w fun e w'' => e = .returned (.bool (condF c t l)) ∧ Ext w w'' := by
 have H := Own.start_ro w [SlIn 5 Cond.cells c.kids] (List.forall_mem_cons.2 ⟨fun w' hw => hs.keep hw, fun _ h => by cases h⟩)
 go_enter Tryz.func54, Tryz.ntmps54
 refine wsr ?_
 refine wl_box H rfl rfl (v := .agg (c.cells).toArray) rfl ?_
 clear H; intro b1 w1 hnb1 H; dsimp only [Value.cells] at H
 simp only [N]
 refine wl_box H rfl rfl (v := iv t) rfl ?_
 clear H; intro b2 w2 hnb2 H; dsimp only [Value.cells] at H
 simp only [N]
 refine wl_box H rfl rfl (v := iv l) rfl ?_
 clear H; intro b3 w3 hnb3 H; dsimp only [Value.cells] at H
 simp only [N]
 refine wasg (.bool false) ?_; simp only [N]
 refine wpList_nil ?_
 refine wp_seq ?_; refine wsr ?_
 refine wr (rp_fieldAddr rfl Tryz.underlying27 rfl 4 rfl sz25 rfl 4 rfl) ?_; simp only [N]
 refine wr (rp_load1 H 2 rfl rfl rfl Tryz.underlying25 rfl (v := c.kids.val) rfl) ?_; simp only [N]
 refine wr (rp_makeFuncL rfl (fs := []) (cs := [.pointer (some ⟨b2, 0, none⟩), .pointer (some ⟨b3, 0, none⟩)]) rfl rfl) ?_; simp only [N]
 refine wl_callE H rfl (rc_go Tryz.func80 (by kernel_rfl) rfl) (containsFunc_cond c.kids 81 [] [.pointer (some ⟨b2, 0, none⟩), .pointer (some ⟨b3, 0, none⟩)] (fun k => !condF k t l) _ (H.ro_at 0 rfl) ⟨⟨_, _, Tryz.func81, by kernel_rfl, rfl⟩⟩ (fun k hk1 w1 hw => cond1_spec _ _ _ _ _ t l _ (hw.heap (H.blk (i := 1) rfl)) (hw.heap (H.blk (i := 0) rfl)) (fun w2 hw2 => hk _ (getD_mem hk1) w2 ((H.ext.trans hw).trans hw2)))) ?_
 clear H; intro w4 H
 simp only [N]
 refine wpList_nil ?_
 refine wp_cond_split rfl (fun hc1 => ?_) (fun hc1 => ?_)
 · --T 1
  refine wsr ?_
  refine wasg (.bool false) ?_; simp only [N]
  refine wpList_nil ?_
  refine wp_ret ?_
  try simp only [Exit.inBlock, Exit.then]
  refine bodyPost_ret (results1 rfl (rv_tmp rfl)) rfl ?_
  have HE := H.ext
  clear H hk
  exact ⟨by rw [condF_eq, hc1]; simp_all [bareF] <;> (intros; first | omega | (have := UInt8.lt_iff_toNat_lt.1 (by assumption : c.n < 8); simp at this; omega)), HE⟩
 · --F 1
  refine wp_skip ?_
  refine wp_seq ?_; refine wp_cutO H (fun a' => ∃ (u12 : Value) (u13 : Value) (u14 : Value) (u15 : Value) (u16 : Value) (u17 : Value) (u18 : Value) (u19 : Value) (u20 : Value) (u21 : Value) (u22 : Value) (u23 : Value) (u24 : Value) (r7 : Bool), r7 = (bareF c) ∧  a' = ⟨#[.agg (c.cells).toArray, iv t, iv l, .pointer (some ⟨b1, 0, none⟩), .pointer (some ⟨b2, 0, none⟩), .pointer (some ⟨b3, 0, none⟩), .bool false, .bool r7, .pointer (some ⟨b1, 4, none⟩), c.kids.val, .func (.func 81) #[] #[.pointer (some ⟨b2, 0, none⟩), .pointer (some ⟨b3, 0, none⟩)], .bool (c.kids.l.any (fun k => !condF k t l)), u12, u13, u14, u15, u16, u17, u18, u19, u20, u21, u22, u23, u24, uU, uU, uU, uU, uU, uU, uU, uU, uU, uU, uU, uU, uU, uU, uU, uU, uU, uU, uU, uU, uU, uU, uU, uU, uU, uU, uU, uU, uU, uU, uU, uU, uU, uU, uU, uU, uU, uU, uU, uU, uU, uU, uU, uU, uU, uU, uU, uU, uU, uU, uU, uU, uU, uU, uU, uU, uU, uU, uU, uU, uU, uU, uU, uU, uU, uU], []⟩) ?_ ?_
  ·
   refine wp_region_lit ?_; refine wr (rp_fieldAddr rfl Tryz.underlying27 rfl 1 rfl sz5 rfl 1 rfl) ?_; simp only [N]
   refine wr (rp_load1 H 2 rfl rfl rfl Tryz.underlying5 rfl (v := bv c.thread) rfl) ?_; simp only [N]
   refine wr (rp_u8_eql rfl c.thread (0 : UInt8) rfl rfl) ?_; simp only [N]
   refine wmv (.bool (c.thread == (0 : UInt8))) ?_; simp only [N]
   cases hg1 : (c.thread == (0 : UInt8))
   · --false
    have hg1N : (c.thread).toNat ≠ 0 := u8_ne hg1
    refine wskf ?_; simp only [N]
    refine wskf ?_; simp only [N]
    refine wskf ?_; simp only [N]
    refine wr (rp_pickF rfl rfl (v := .bool false) rfl) ?_; simp only [N]
    refine wmv (.bool false) ?_; simp only [N]
    refine wskf ?_; simp only [N]
    refine wskf ?_; simp only [N]
    refine wskf ?_; simp only [N]
    refine wr (rp_pickF rfl rfl (v := .bool false) rfl) ?_; simp only [N]
    refine wasg (.bool false) ?_; simp only [N]
    refine wpList_nil ?_
    refine ⟨rfl, ⟨_, _, _, _, _, _, _, _, _, _, _, _, _, false, (by simp_all [bareF]), rfl⟩, H⟩
   · --true
    have hg1N : (c.thread).toNat = 0 := u8_eq hg1
    refine wr (rp_fieldAddr rfl Tryz.underlying27 rfl 2 rfl sz5 rfl 2 rfl) ?_; simp only [N]
    refine wr (rp_load1 H 2 rfl rfl rfl Tryz.underlying5 rfl (v := bv c.n) rfl) ?_; simp only [N]
    refine wr (rp_u8_eql rfl c.n (0 : UInt8) rfl rfl) ?_; simp only [N]
    refine wr (rp_pickT rfl rfl (u := .bool (c.n == (0 : UInt8))) rfl) ?_; simp only [N]
    refine wmv (.bool (c.n == (0 : UInt8))) ?_; simp only [N]
    cases hg2 : (c.n == (0 : UInt8))
    · --false
     have hg2N : (c.n).toNat ≠ 0 := u8_ne hg2
     refine wskf ?_; simp only [N]
     refine wskf ?_; simp only [N]
     refine wskf ?_; simp only [N]
     refine wr (rp_pickF rfl rfl (v := .bool false) rfl) ?_; simp only [N]
     refine wasg (.bool false) ?_; simp only [N]
     refine wpList_nil ?_
     refine ⟨rfl, ⟨_, _, _, _, _, _, _, _, _, _, _, _, _, false, (by simp_all [bareF]), rfl⟩, H⟩
    · --true
     have hg2N : (c.n).toNat = 0 := u8_eq hg2
     refine wr (rp_fieldAddr rfl Tryz.underlying27 rfl 3 rfl sz5 rfl 3 rfl) ?_; simp only [N]
     refine wr (rp_load1 H 2 rfl rfl rfl Tryz.underlying5 rfl (v := bv c.valu) rfl) ?_; simp only [N]
     refine wr (rp_u8_eql rfl c.valu (0 : UInt8) rfl rfl) ?_; simp only [N]
     refine wr (rp_pickT rfl rfl (u := .bool (c.valu == (0 : UInt8))) rfl) ?_; simp only [N]
     refine wasg (.bool (c.valu == (0 : UInt8))) ?_; simp only [N]
     refine wpList_nil ?_
     refine ⟨rfl, ⟨_, _, _, _, _, _, _, _, _, _, _, _, _, (c.valu == (0 : UInt8)), (by simp_all [bareF]), rfl⟩, H⟩
  clear H
  rintro _ w5 ⟨u12, u13, u14, u15, u16, u17, u18, u19, u20, u21, u22, u23, u24, _, rfl, rfl⟩ H
  refine wp_seq ?_; refine wsr ?_
  refine wr (rp_fieldAddr rfl Tryz.underlying27 rfl 0 rfl sz5 rfl 0 rfl) ?_; simp only [N]
  refine wr (rp_load1 H 2 rfl rfl rfl Tryz.underlying5 rfl (v := bv c.kind) rfl) ?_; simp only [N]
  refine wpList_nil ?_
  refine wp_block ?_
  refine wsr ?_
  refine wr (rp_u8_eql rfl c.kind (0 : UInt8) rfl rfl) ?_; simp only [N]
  refine wasg (.bool (c.kind == (0 : UInt8))) ?_; simp only [N]
  refine wpList_nil ?_
  refine wp_cond_split rfl (fun hc2 => ?_) (fun hc2 => ?_)
  · --T 2
   have hc2N : (c.kind).toNat = 0 := u8_eq hc2
   refine wsr ?_
   refine wmv (.bool (bareF c)) ?_; simp only [N]
   refine wmv (.bool (bareF c)) ?_; simp only [N]
   cases hg3 : (bareF c)
   · --false
    refine wskf ?_; simp only [N]
    refine wskf ?_; simp only [N]
    refine wskf ?_; simp only [N]
    refine wskf ?_; simp only [N]
    refine wr (rp_pickF rfl rfl (v := .bool false) rfl) ?_; simp only [N]
    refine wasg (.bool false) ?_; simp only [N]
    refine wpList_nil ?_
    refine wp_ret ?_
    try simp only [Exit.inBlock, Exit.then]
    refine bodyPost_ret (results1 rfl (rv_tmp rfl)) rfl ?_
    have HE := H.ext
    clear H hk
    exact ⟨by rw [condF_eq, hc1]; simp_all [bareF] <;> (intros; first | omega | (have := UInt8.lt_iff_toNat_lt.1 (by assumption : c.n < 8); simp at this; omega)), HE⟩
   · --true
    refine wr (rp_fieldAddr rfl Tryz.underlying27 rfl 4 rfl sz25 rfl 4 rfl) ?_; simp only [N]
    refine wr (rp_load1 H 2 rfl rfl rfl Tryz.underlying25 rfl (v := c.kids.val) rfl) ?_; simp only [N]
    refine wr (rp_len_sl (s := c.kids) Tryz.underlying25 rfl) ?_; simp only [N]
    refine wr (rp_int_eql rfl (c.kids.l.length : Int) (0 : Int) rfl rfl) ?_; simp only [N]
    refine wr (rp_pickT rfl rfl (u := .bool ((c.kids.l.length : Int) == (0 : Int))) rfl) ?_; simp only [N]
    refine wasg (.bool ((c.kids.l.length : Int) == (0 : Int))) ?_; simp only [N]
    refine wpList_nil ?_
    refine wp_ret ?_
    try simp only [Exit.inBlock, Exit.then]
    refine bodyPost_ret (results1 rfl (rv_tmp rfl)) rfl ?_
    have HE := H.ext
    clear H hk
    exact ⟨by rw [condF_eq, hc1]; simp_all [bareF] <;> (intros; first | omega | (have := UInt8.lt_iff_toNat_lt.1 (by assumption : c.n < 8); simp at this; omega)), HE⟩
  · --F 2
   have hc2N : (c.kind).toNat ≠ 0 := u8_ne hc2
   refine wsr ?_
   refine wr (rp_u8_eql rfl c.kind (1 : UInt8) rfl rfl) ?_; simp only [N]
   refine wasg (.bool (c.kind == (1 : UInt8))) ?_; simp only [N]
   refine wpList_nil ?_
   refine wp_cond_split rfl (fun hc3 => ?_) (fun hc3 => ?_)
   · --T 3
    have hc3N : (c.kind).toNat = 1 := u8_eq hc3
    refine wsr ?_
    refine wr (rp_fieldAddr rfl Tryz.underlying27 rfl 1 rfl sz5 rfl 1 rfl) ?_; simp only [N]
    refine wr (rp_load1 H 2 rfl rfl rfl Tryz.underlying5 rfl (v := bv c.thread) rfl) ?_; simp only [N]
    refine wr (rp_u8_to_int rfl Tryz.underlying5 Tryz.underlying3 c.thread rfl) ?_; simp only [N]
    refine wr (rp_load1 H 1 rfl rfl rfl Tryz.underlying3 rfl (v := iv t) rfl) ?_; simp only [N]
    refine wr (rp_int_lss rfl ((c.thread).toNat : Int) t rfl rfl) ?_; simp only [N]
    refine wmv (.bool (decide (((c.thread).toNat : Int) < t))) ?_; simp only [N]
    cases hg4 : (decide (((c.thread).toNat : Int) < t))
    · --false
     have hg4N : t ≤ ((c.thread).toNat : Int) := by simpa using hg4
     refine wskf ?_; simp only [N]
     refine wskf ?_; simp only [N]
     refine wskf ?_; simp only [N]
     refine wr (rp_pickF rfl rfl (v := .bool false) rfl) ?_; simp only [N]
     refine wmv (.bool false) ?_; simp only [N]
     refine wskf ?_; simp only [N]
     refine wskf ?_; simp only [N]
     refine wskf ?_; simp only [N]
     refine wskf ?_; simp only [N]
     refine wr (rp_pickF rfl rfl (v := .bool false) rfl) ?_; simp only [N]
     refine wasg (.bool false) ?_; simp only [N]
     refine wpList_nil ?_
     refine wp_ret ?_
     try simp only [Exit.inBlock, Exit.then]
     refine bodyPost_ret (results1 rfl (rv_tmp rfl)) rfl ?_
     have HE := H.ext
     clear H hk
     exact ⟨by rw [condF_eq, hc1]; simp_all [bareF] <;> (intros; first | omega | (have := UInt8.lt_iff_toNat_lt.1 (by assumption : c.n < 8); simp at this; omega)), HE⟩
    · --true
     have hg4N : ((c.thread).toNat : Int) < t := by simpa using hg4
     refine wr (rp_fieldAddr rfl Tryz.underlying27 rfl 2 rfl sz5 rfl 2 rfl) ?_; simp only [N]
     refine wr (rp_load1 H 2 rfl rfl rfl Tryz.underlying5 rfl (v := bv c.n) rfl) ?_; simp only [N]
     refine wr (rp_u8_lss rfl c.n (8 : UInt8) rfl rfl) ?_; simp only [N]
     refine wr (rp_pickT rfl rfl (u := .bool (decide (c.n < (8 : UInt8)))) rfl) ?_; simp only [N]
     refine wmv (.bool (decide (c.n < (8 : UInt8)))) ?_; simp only [N]
     cases hg5 : (decide (c.n < (8 : UInt8)))
     · --false
      have hg5N : 8 ≤ (c.n).toNat := u8_ge hg5
      refine wskf ?_; simp only [N]
      refine wskf ?_; simp only [N]
      refine wskf ?_; simp only [N]
      refine wskf ?_; simp only [N]
      refine wr (rp_pickF rfl rfl (v := .bool false) rfl) ?_; simp only [N]
      refine wasg (.bool false) ?_; simp only [N]
      refine wpList_nil ?_
      refine wp_ret ?_
      try simp only [Exit.inBlock, Exit.then]
      refine bodyPost_ret (results1 rfl (rv_tmp rfl)) rfl ?_
      have HE := H.ext
      clear H hk
      exact ⟨by rw [condF_eq, hc1]; simp_all [bareF] <;> (intros; first | omega | (have := UInt8.lt_iff_toNat_lt.1 (by assumption : c.n < 8); simp at this; omega)), HE⟩
     · --true
      have hg5N : (c.n).toNat < 8 := u8_lt hg5
      refine wr (rp_fieldAddr rfl Tryz.underlying27 rfl 4 rfl sz25 rfl 4 rfl) ?_; simp only [N]
      refine wr (rp_load1 H 2 rfl rfl rfl Tryz.underlying25 rfl (v := c.kids.val) rfl) ?_; simp only [N]
      refine wr (rp_len_sl (s := c.kids) Tryz.underlying25 rfl) ?_; simp only [N]
      refine wr (rp_int_eql rfl (c.kids.l.length : Int) (0 : Int) rfl rfl) ?_; simp only [N]
      refine wr (rp_pickT rfl rfl (u := .bool ((c.kids.l.length : Int) == (0 : Int))) rfl) ?_; simp only [N]
      refine wasg (.bool ((c.kids.l.length : Int) == (0 : Int))) ?_; simp only [N]
      refine wpList_nil ?_
      refine wp_ret ?_
      try simp only [Exit.inBlock, Exit.then]
      refine bodyPost_ret (results1 rfl (rv_tmp rfl)) rfl ?_
      have HE := H.ext
      clear H hk
      exact ⟨by rw [condF_eq, hc1]; simp_all [bareF] <;> (intros; first | omega | (have := UInt8.lt_iff_toNat_lt.1 (by assumption : c.n < 8); simp at this; omega)), HE⟩
   · --F 3
    have hc3N : (c.kind).toNat ≠ 1 := u8_ne hc3
    refine wsr ?_
    refine wr (rp_u8_eql rfl c.kind (2 : UInt8) rfl rfl) ?_; simp only [N]
    refine wasg (.bool (c.kind == (2 : UInt8))) ?_; simp only [N]
    refine wpList_nil ?_
    refine wp_cond_split rfl (fun hc4 => ?_) (fun hc4 => ?_)
    · --T 4
     have hc4N : (c.kind).toNat = 2 := u8_eq hc4
     refine wsr ?_
     refine wr (rp_fieldAddr rfl Tryz.underlying27 rfl 2 rfl sz5 rfl 2 rfl) ?_; simp only [N]
     refine wr (rp_load1 H 2 rfl rfl rfl Tryz.underlying5 rfl (v := bv c.n) rfl) ?_; simp only [N]
     refine wr (rp_u8_to_int rfl Tryz.underlying5 Tryz.underlying3 c.n rfl) ?_; simp only [N]
     refine wr (rp_load1 H 0 rfl rfl rfl Tryz.underlying3 rfl (v := iv l) rfl) ?_; simp only [N]
     refine wr (rp_int_lss rfl ((c.n).toNat : Int) l rfl rfl) ?_; simp only [N]
     refine wmv (.bool (decide (((c.n).toNat : Int) < l))) ?_; simp only [N]
     cases hg6 : (decide (((c.n).toNat : Int) < l))
     · --false
      have hg6N : l ≤ ((c.n).toNat : Int) := by simpa using hg6
      refine wskf ?_; simp only [N]
      refine wskf ?_; simp only [N]
      refine wskf ?_; simp only [N]
      refine wr (rp_pickF rfl rfl (v := .bool false) rfl) ?_; simp only [N]
      refine wmv (.bool false) ?_; simp only [N]
      refine wskf ?_; simp only [N]
      refine wskf ?_; simp only [N]
      refine wskf ?_; simp only [N]
      refine wskf ?_; simp only [N]
      refine wr (rp_pickF rfl rfl (v := .bool false) rfl) ?_; simp only [N]
      refine wasg (.bool false) ?_; simp only [N]
      refine wpList_nil ?_
      refine wp_ret ?_
      try simp only [Exit.inBlock, Exit.then]
      refine bodyPost_ret (results1 rfl (rv_tmp rfl)) rfl ?_
      have HE := H.ext
      clear H hk
      exact ⟨by rw [condF_eq, hc1]; simp_all [bareF] <;> (intros; first | omega | (have := UInt8.lt_iff_toNat_lt.1 (by assumption : c.n < 8); simp at this; omega)), HE⟩
     · --true
      have hg6N : ((c.n).toNat : Int) < l := by simpa using hg6
      refine wr (rp_fieldAddr rfl Tryz.underlying27 rfl 1 rfl sz5 rfl 1 rfl) ?_; simp only [N]
      refine wr (rp_load1 H 2 rfl rfl rfl Tryz.underlying5 rfl (v := bv c.thread) rfl) ?_; simp only [N]
      refine wr (rp_u8_eql rfl c.thread (0 : UInt8) rfl rfl) ?_; simp only [N]
      refine wr (rp_pickT rfl rfl (u := .bool (c.thread == (0 : UInt8))) rfl) ?_; simp only [N]
      refine wmv (.bool (c.thread == (0 : UInt8))) ?_; simp only [N]
      cases hg7 : (c.thread == (0 : UInt8))
      · --false
       have hg7N : (c.thread).toNat ≠ 0 := u8_ne hg7
       refine wskf ?_; simp only [N]
       refine wskf ?_; simp only [N]
       refine wskf ?_; simp only [N]
       refine wskf ?_; simp only [N]
       refine wr (rp_pickF rfl rfl (v := .bool false) rfl) ?_; simp only [N]
       refine wasg (.bool false) ?_; simp only [N]
       refine wpList_nil ?_
       refine wp_ret ?_
       try simp only [Exit.inBlock, Exit.then]
       refine bodyPost_ret (results1 rfl (rv_tmp rfl)) rfl ?_
       have HE := H.ext
       clear H hk
       exact ⟨by rw [condF_eq, hc1]; simp_all [bareF] <;> (intros; first | omega | (have := UInt8.lt_iff_toNat_lt.1 (by assumption : c.n < 8); simp at this; omega)), HE⟩
      · --true
       have hg7N : (c.thread).toNat = 0 := u8_eq hg7
       refine wr (rp_fieldAddr rfl Tryz.underlying27 rfl 4 rfl sz25 rfl 4 rfl) ?_; simp only [N]
       refine wr (rp_load1 H 2 rfl rfl rfl Tryz.underlying25 rfl (v := c.kids.val) rfl) ?_; simp only [N]
       refine wr (rp_len_sl (s := c.kids) Tryz.underlying25 rfl) ?_; simp only [N]
       refine wr (rp_int_eql rfl (c.kids.l.length : Int) (0 : Int) rfl rfl) ?_; simp only [N]
       refine wr (rp_pickT rfl rfl (u := .bool ((c.kids.l.length : Int) == (0 : Int))) rfl) ?_; simp only [N]
       refine wasg (.bool ((c.kids.l.length : Int) == (0 : Int))) ?_; simp only [N]
       refine wpList_nil ?_
       refine wp_ret ?_
       try simp only [Exit.inBlock, Exit.then]
       refine bodyPost_ret (results1 rfl (rv_tmp rfl)) rfl ?_
       have HE := H.ext
       clear H hk
       exact ⟨by rw [condF_eq, hc1]; simp_all [bareF] <;> (intros; first | omega | (have := UInt8.lt_iff_toNat_lt.1 (by assumption : c.n < 8); simp at this; omega)), HE⟩
    · --F 4
     have hc4N : (c.kind).toNat ≠ 2 := u8_ne hc4
     refine wp_seq ?_; refine wsr ?_
     refine wr (rp_u8_eql rfl c.kind (3 : UInt8) rfl rfl) ?_; simp only [N]
     refine wasg (.bool (c.kind == (3 : UInt8))) ?_; simp only [N]
     refine wpList_nil ?_
     refine wp_cond_split rfl (fun hc5 => ?_) (fun hc5 => ?_)
     · --T 5
      have hc5N : (c.kind).toNat = 3 := u8_eq hc5
      refine wp_skip ?_
      refine wp_cond_split rfl (fun hc6 => ?_) (fun hc6 => ?_)
      · --T 6
       have hc6N : (c.kind).toNat = 3 := u8_eq hc6
       refine wsr ?_
       refine wmv (.bool (bareF c)) ?_; simp only [N]
       refine wmv (.bool (bareF c)) ?_; simp only [N]
       cases hg8 : (bareF c)
       · --false
        refine wskf ?_; simp only [N]
        refine wskf ?_; simp only [N]
        refine wskf ?_; simp only [N]
        refine wskf ?_; simp only [N]
        refine wr (rp_pickF rfl rfl (v := .bool false) rfl) ?_; simp only [N]
        refine wasg (.bool false) ?_; simp only [N]
        refine wpList_nil ?_
        refine wp_ret ?_
        try simp only [Exit.inBlock, Exit.then]
        refine bodyPost_ret (results1 rfl (rv_tmp rfl)) rfl ?_
        have HE := H.ext
        clear H hk
        exact ⟨by rw [condF_eq, hc1]; simp_all [bareF] <;> (intros; first | omega | (have := UInt8.lt_iff_toNat_lt.1 (by assumption : c.n < 8); simp at this; omega)), HE⟩
       · --true
        refine wr (rp_fieldAddr rfl Tryz.underlying27 rfl 4 rfl sz25 rfl 4 rfl) ?_; simp only [N]
        refine wr (rp_load1 H 2 rfl rfl rfl Tryz.underlying25 rfl (v := c.kids.val) rfl) ?_; simp only [N]
        refine wr (rp_len_sl (s := c.kids) Tryz.underlying25 rfl) ?_; simp only [N]
        refine wr (rp_int_gtr rfl (c.kids.l.length : Int) (1 : Int) rfl rfl) ?_; simp only [N]
        refine wr (rp_pickT rfl rfl (u := .bool (decide ((1 : Int) < (c.kids.l.length : Int)))) rfl) ?_; simp only [N]
        refine wasg (.bool (decide ((1 : Int) < (c.kids.l.length : Int)))) ?_; simp only [N]
        refine wpList_nil ?_
        refine wp_ret ?_
        try simp only [Exit.inBlock, Exit.then]
        refine bodyPost_ret (results1 rfl (rv_tmp rfl)) rfl ?_
        have HE := H.ext
        clear H hk
        exact ⟨by rw [condF_eq, hc1]; simp_all [bareF] <;> (intros; first | omega | (have := UInt8.lt_iff_toNat_lt.1 (by assumption : c.n < 8); simp at this; omega)), HE⟩
      · --F 6
       have hc6N : (c.kind).toNat ≠ 3 := u8_ne hc6
       refine wsr ?_
       refine wr (rp_u8_eql rfl c.kind (5 : UInt8) rfl rfl) ?_; simp only [N]
       refine wasg (.bool (c.kind == (5 : UInt8))) ?_; simp only [N]
       refine wpList_nil ?_
       refine wp_cond_split rfl (fun hc7 => ?_) (fun hc7 => ?_)
       · --T 7
        have hc7N : (c.kind).toNat = 5 := u8_eq hc7
        refine wsr ?_
        refine wmv (.bool (bareF c)) ?_; simp only [N]
        refine wmv (.bool (bareF c)) ?_; simp only [N]
        cases hg9 : (bareF c)
        · --false
         refine wskf ?_; simp only [N]
         refine wskf ?_; simp only [N]
         refine wskf ?_; simp only [N]
         refine wskf ?_; simp only [N]
         refine wr (rp_pickF rfl rfl (v := .bool false) rfl) ?_; simp only [N]
         refine wasg (.bool false) ?_; simp only [N]
         refine wpList_nil ?_
         refine wp_ret ?_
         try simp only [Exit.inBlock, Exit.then]
         refine bodyPost_ret (results1 rfl (rv_tmp rfl)) rfl ?_
         have HE := H.ext
         clear H hk
         exact ⟨by rw [condF_eq, hc1]; simp_all [bareF] <;> (intros; first | omega | (have := UInt8.lt_iff_toNat_lt.1 (by assumption : c.n < 8); simp at this; omega)), HE⟩
        · --true
         refine wr (rp_fieldAddr rfl Tryz.underlying27 rfl 4 rfl sz25 rfl 4 rfl) ?_; simp only [N]
         refine wr (rp_load1 H 2 rfl rfl rfl Tryz.underlying25 rfl (v := c.kids.val) rfl) ?_; simp only [N]
         refine wr (rp_len_sl (s := c.kids) Tryz.underlying25 rfl) ?_; simp only [N]
         refine wr (rp_int_eql rfl (c.kids.l.length : Int) (1 : Int) rfl rfl) ?_; simp only [N]
         refine wr (rp_pickT rfl rfl (u := .bool ((c.kids.l.length : Int) == (1 : Int))) rfl) ?_; simp only [N]
         refine wasg (.bool ((c.kids.l.length : Int) == (1 : Int))) ?_; simp only [N]
         refine wpList_nil ?_
         refine wp_ret ?_
         try simp only [Exit.inBlock, Exit.then]
         refine bodyPost_ret (results1 rfl (rv_tmp rfl)) rfl ?_
         have HE := H.ext
         clear H hk
         exact ⟨by rw [condF_eq, hc1]; simp_all [bareF] <;> (intros; first | omega | (have := UInt8.lt_iff_toNat_lt.1 (by assumption : c.n < 8); simp at this; omega)), HE⟩
       · --F 7
        have hc7N : (c.kind).toNat ≠ 5 := u8_ne hc7
        refine wp_skip ?_
        refine wsr ?_
        refine wasg (.bool false) ?_; simp only [N]
        refine wpList_nil ?_
        refine wp_ret ?_
        try simp only [Exit.inBlock, Exit.then]
        refine bodyPost_ret (results1 rfl (rv_tmp rfl)) rfl ?_
        have HE := H.ext
        clear H hk
        exact ⟨by rw [condF_eq, hc1]; simp_all [bareF] <;> (intros; first | omega | (have := UInt8.lt_iff_toNat_lt.1 (by assumption : c.n < 8); simp at this; omega)), HE⟩
     · --F 5
      have hc5N : (c.kind).toNat ≠ 3 := u8_ne hc5
      refine wp_region_lit ?_; refine wr (rp_u8_eql rfl c.kind (4 : UInt8) rfl rfl) ?_; simp only [N]
      refine wasg (.bool (c.kind == (4 : UInt8))) ?_; simp only [N]
      refine wpList_nil ?_
      refine wp_cond_split rfl (fun hc8 => ?_) (fun hc8 => ?_)
      · --T 8
       have hc8N : (c.kind).toNat = 4 := u8_eq hc8
       refine wsr ?_
       refine wmv (.bool (bareF c)) ?_; simp only [N]
       refine wmv (.bool (bareF c)) ?_; simp only [N]
       cases hg10 : (bareF c)
       · --false
        refine wskf ?_; simp only [N]
        refine wskf ?_; simp only [N]
        refine wskf ?_; simp only [N]
        refine wskf ?_; simp only [N]
        refine wr (rp_pickF rfl rfl (v := .bool false) rfl) ?_; simp only [N]
        refine wasg (.bool false) ?_; simp only [N]
        refine wpList_nil ?_
        refine wp_ret ?_
        try simp only [Exit.inBlock, Exit.then]
        refine bodyPost_ret (results1 rfl (rv_tmp rfl)) rfl ?_
        have HE := H.ext
        clear H hk
        exact ⟨by rw [condF_eq, hc1]; simp_all [bareF] <;> (intros; first | omega | (have := UInt8.lt_iff_toNat_lt.1 (by assumption : c.n < 8); simp at this; omega)), HE⟩
       · --true
        refine wr (rp_fieldAddr rfl Tryz.underlying27 rfl 4 rfl sz25 rfl 4 rfl) ?_; simp only [N]
        refine wr (rp_load1 H 2 rfl rfl rfl Tryz.underlying25 rfl (v := c.kids.val) rfl) ?_; simp only [N]
        refine wr (rp_len_sl (s := c.kids) Tryz.underlying25 rfl) ?_; simp only [N]
        refine wr (rp_int_gtr rfl (c.kids.l.length : Int) (1 : Int) rfl rfl) ?_; simp only [N]
        refine wr (rp_pickT rfl rfl (u := .bool (decide ((1 : Int) < (c.kids.l.length : Int)))) rfl) ?_; simp only [N]
        refine wasg (.bool (decide ((1 : Int) < (c.kids.l.length : Int)))) ?_; simp only [N]
        refine wpList_nil ?_
        refine wp_ret ?_
        try simp only [Exit.inBlock, Exit.then]
        refine bodyPost_ret (results1 rfl (rv_tmp rfl)) rfl ?_
        have HE := H.ext
        clear H hk
        exact ⟨by rw [condF_eq, hc1]; simp_all [bareF] <;> (intros; first | omega | (have := UInt8.lt_iff_toNat_lt.1 (by assumption : c.n < 8); simp at this; omega)), HE⟩
      · --F 8
       have hc8N : (c.kind).toNat ≠ 4 := u8_ne hc8
       refine wsr ?_
       refine wr (rp_u8_eql rfl c.kind (5 : UInt8) rfl rfl) ?_; simp only [N]
       refine wasg (.bool (c.kind == (5 : UInt8))) ?_; simp only [N]
       refine wpList_nil ?_
       refine wp_cond_split rfl (fun hc9 => ?_) (fun hc9 => ?_)
       · --T 9
        have hc9N : (c.kind).toNat = 5 := u8_eq hc9
        refine wsr ?_
        refine wmv (.bool (bareF c)) ?_; simp only [N]
        refine wmv (.bool (bareF c)) ?_; simp only [N]
        cases hg11 : (bareF c)
        · --false
         refine wskf ?_; simp only [N]
         refine wskf ?_; simp only [N]
         refine wskf ?_; simp only [N]
         refine wskf ?_; simp only [N]
         refine wr (rp_pickF rfl rfl (v := .bool false) rfl) ?_; simp only [N]
         refine wasg (.bool false) ?_; simp only [N]
         refine wpList_nil ?_
         refine wp_ret ?_
         try simp only [Exit.inBlock, Exit.then]
         refine bodyPost_ret (results1 rfl (rv_tmp rfl)) rfl ?_
         have HE := H.ext
         clear H hk
         exact ⟨by rw [condF_eq, hc1]; simp_all [bareF] <;> (intros; first | omega | (have := UInt8.lt_iff_toNat_lt.1 (by assumption : c.n < 8); simp at this; omega)), HE⟩
        · --true
         refine wr (rp_fieldAddr rfl Tryz.underlying27 rfl 4 rfl sz25 rfl 4 rfl) ?_; simp only [N]
         refine wr (rp_load1 H 2 rfl rfl rfl Tryz.underlying25 rfl (v := c.kids.val) rfl) ?_; simp only [N]
         refine wr (rp_len_sl (s := c.kids) Tryz.underlying25 rfl) ?_; simp only [N]
         refine wr (rp_int_eql rfl (c.kids.l.length : Int) (1 : Int) rfl rfl) ?_; simp only [N]
         refine wr (rp_pickT rfl rfl (u := .bool ((c.kids.l.length : Int) == (1 : Int))) rfl) ?_; simp only [N]
         refine wasg (.bool ((c.kids.l.length : Int) == (1 : Int))) ?_; simp only [N]
         refine wpList_nil ?_
         refine wp_ret ?_
         try simp only [Exit.inBlock, Exit.then]
         refine bodyPost_ret (results1 rfl (rv_tmp rfl)) rfl ?_
         have HE := H.ext
         clear H hk
         exact ⟨by rw [condF_eq, hc1]; simp_all [bareF] <;> (intros; first | omega | (have := UInt8.lt_iff_toNat_lt.1 (by assumption : c.n < 8); simp at this; omega)), HE⟩
       · --F 9
        have hc9N : (c.kind).toNat ≠ 5 := u8_ne hc9
        refine wp_skip ?_
        refine wsr ?_
        refine wasg (.bool false) ?_; simp only [N]
        refine wpList_nil ?_
        refine wp_ret ?_
        try simp only [Exit.inBlock, Exit.then]
        refine bodyPost_ret (results1 rfl (rv_tmp rfl)) rfl ?_
        have HE := H.ext
        clear H hk
        exact ⟨by rw [condF_eq, hc1]; simp_all [bareF] <;> (intros; first | omega | (have := UInt8.lt_iff_toNat_lt.1 (by assumption : c.n < 8); simp at this; omega)), HE⟩

theorem cond_spec (c : Cond) (t l : Int) (w : World) (h : CondIn w c) : Calls Tryz.prog 54 #[.agg c.cells.toArray, iv t, iv l] w fun e w'' => e = .returned (.bool (condF c t l)) ∧ Ext w w'' := by
  have key : ∀ c, CondIn w c → ∀ w1, Ext w w1 → Calls Tryz.prog 54 #[.agg c.cells.toArray, iv t, iv l] w1 fun e w'' => e = .returned (.bool (condF c t l)) ∧ Ext w1 w'' := by
    intro c h
    induction h with
    | mk c hs _ ih =>
      intro w1 hw
      exact cond_step c t l w1 (hs.keep hw.block) (fun k hk w2 hw2 => ih k hk w2 (hw.trans hw2))
  exact key c h w (Ext.refl w)

theorem deep_step (c : Cond) (w : World) (hs : SlIn 5 Cond.cells c.kids w) (hb : deepF c ≤ 140737488355328) (hk : ∀ k ∈ c.kids.l, ∀ w', Ext w w' → Calls Tryz.prog 53 #[.agg k.cells.toArray] w' fun e w'' => e = .returned (iv (deepF k : Nat)) ∧ Ext w' w'') :
    Calls Tryz.prog 53 #[.agg c.cells.toArray] w fun e w'' => e = .returned (iv (deepF c : Nat)) ∧ Ext w w'' := by
 have H := Own.start_ro w [SlIn 5 Cond.cells c.kids] (List.forall_mem_cons.2 ⟨fun w' hw => hs.keep hw, fun _ h => by cases h⟩)
 have hcap := hs.2.2
 rw [deepF_eq] at hb
 go_enter Tryz.func53, Tryz.ntmps53
 refine wsr ?_
 refine wl_box H rfl rfl (v := .agg (c.cells).toArray) rfl ?_
 clear H; intro b1 w1 hnb1 H; dsimp only [Value.cells] at H
 simp only [N]
 refine wasg (iv (0 : Int)) ?_; simp only [N]
 refine wpList_nil ?_
 refine wp_seq ?_; refine wsr ?_
 refine wr (rp_fieldAddr rfl Tryz.underlying27 rfl 4 rfl sz25 rfl 4 rfl) ?_; simp only [N]
 refine wr (rp_load1 H 0 rfl rfl rfl Tryz.underlying25 rfl (v := c.kids.val) rfl) ?_; simp only [N]
 refine wr (rp_len_sl (s := c.kids) Tryz.underlying25 rfl) ?_; simp only [N]
 refine wmv (iv (0 : Int)) ?_; simp only [N]
 refine wpList_nil ?_
 refine wp_block ?_
 refine wp_loopX (fun m' a' w' => ∃ (k : Nat) (u4 u9 u10 u11 u12 u13 u14 u15 u16 : Value), a' = ⟨#[.agg (c.cells).toArray, .pointer (some ⟨b1, 0, none⟩), iv (((deepsF (c.kids.l.take k) 0) : Nat) : Int), uU, u4, .pointer (some ⟨b1, 4, none⟩), c.kids.val, iv (c.kids.l.length : Int), iv (k : Int), u9, u10, u11, u12, u13, u14, u15, u16, uU, uU], []⟩ ∧ Own w [] [SlIn 5 Cond.cells c.kids] [.blk b1 (.cells (c.cells).toArray 27 (0, 0))] w' ∧ (k ≤ c.kids.l.length) ∧ m' = c.kids.l.length - k) _ ⟨0, _, _, _, _, _, _, _, _, _, rfl, H, (by simp), rfl⟩ ?_
 clear H
 rintro _ _ w2 ⟨k, u4, u9, u10, u11, u12, u13, u14, u15, u16, rfl, H, hi1_0, rfl⟩
 refine wsr ?_
 refine wr (rp_int_lss rfl (k : Int) (c.kids.l.length : Int) rfl rfl) ?_; simp only [N]
 refine wpList_nil ?_
 refine wp_seq ?_; refine wp_cond_split rfl (fun hc1 => ?_) (fun hc1 => ?_)
 · --T 1
  have hc1N : (k : Int) < (c.kids.l.length : Int) := by simpa using hc1
  refine wp_skip ?_
  refine wp_seq ?_; refine wp_block ?_
  refine wsr ?_
  refine wr (rp_indexAddr_sl (H.ro_at 0 rfl) rfl Tryz.underlying25 sz27 rfl k rfl (by omega)) ?_; simp only [N]
  refine wr (rp_loadN_sl (H.ro_at 0 rfl) k (by omega) rfl Tryz.underlying27 rfl rfl sz27) ?_; simp only [N]
  refine wl_alloc H rfl rfl zv27 ?_
  clear H; intro b2 w3 hnb2 H; dsimp only [Value.cells] at H
  simp only [N]
  refine wl_storeW H 0 rfl rfl rfl rfl (vs := ((c.kids.l.getD k default).cells).toArray) rfl (Cond.cells_one _) (by first | exact sz27 | (rw [sz27]; congr 1; first | omega | simp [LN, enc_length, putAt_length, localF_length] <;> omega)) (by first | rfl | first | omega | simp [LN, enc_length, putAt_length, localF_length] <;> omega) ?_
  clear H; intro w4 H; simp only [M] at H
  simp only [N]
  refine wpList_nil ?_
  refine wp_region_lit ?_; refine wmv (iv (((deepsF (c.kids.l.take k) 0) : Nat) : Int)) ?_; simp only [N]
  refine wr (rp_loadN H 0 rfl rfl rfl Tryz.underlying27 rfl sz27 (Nat.le_of_ble_eq_true rfl) (cs' := (c.kids.l.getD k default).cells) rfl) ?_; simp only [N]
  refine wl_callE H rfl (rc_go Tryz.func53 (by kernel_rfl) rfl) (hk _ (getD_mem (by omega)) _ H.ext) ?_
  clear H; intro w5 H
  simp only [N]
  refine wr (rp_max2 rfl (((deepsF (c.kids.l.take k) 0) : Nat) : Int) (((deepF (c.kids.l.getD k default)) : Nat) : Int) rfl rfl) ?_; simp only [N]
  refine wasg (iv (max (((deepsF (c.kids.l.take k) 0) : Nat) : Int) (((deepF (c.kids.l.getD k default)) : Nat) : Int))) ?_; simp only [N]
  refine wpList_nil ?_
  refine wp_region_lit ?_; refine wr (rp_int_add rfl (k : Int) (1 : Int) rfl rfl (by omega)) ?_; simp only [N]
  refine wmv (iv ((k : Int) + (1 : Int))) ?_; simp only [N]
  refine wpList_nil ?_
  rw [show max (((deepsF (c.kids.l.take k) 0) : Nat) : Int) (((deepF (c.kids.l.getD k default)) : Nat) : Int) = ((deepsF (c.kids.l.take (k + 1)) 0 : Nat) : Int) by rw [← deepsF_take 0 (by omega)]; omega]
  replace H := H.dropNew 0 rfl (foot_blk hnb2); simp only [List.eraseIdx_zero, List.eraseIdx_cons_succ, List.tail_cons] at H
  show ∃ n', n' < _ ∧ _
  refine ⟨_, ?_, k + 1, _, _, _, _, _, _, _, _, _, rfl, H, ?_, rfl⟩
  · omega
  · omega
 · --F 1
  have hc1N : (c.kids.l.length : Int) ≤ (k : Int) := by simpa using hc1
  refine wp_exit ?_
  refine wsr ?_
  refine wmv (iv (((deepsF (c.kids.l.take k) 0) : Nat) : Int)) ?_; simp only [N]
  refine wr (rp_int_add rfl (((deepsF (c.kids.l.take k) 0) : Nat) : Int) (1 : Int) rfl rfl (by have := deepsF_mono c.kids.l 0 k; omega)) ?_; simp only [N]
  refine wasg (iv ((((deepsF (c.kids.l.take k) 0) : Nat) : Int) + (1 : Int))) ?_; simp only [N]
  refine wpList_nil ?_
  refine wp_ret ?_
  try simp only [Exit.inBlock, Exit.then]
  refine bodyPost_ret (results1 rfl (rv_tmp rfl)) rfl ?_
  exact ⟨by rw [deepF_eq, show c.kids.l.take k = c.kids.l from List.take_of_length_le (by omega)]; rfl, H.ext⟩

theorem deep_kids : ∀ (l : List Cond) (d : Nat) {k : Cond}, k ∈ l → deepF k ≤ deepsF l d
  | x :: l, d, k, h => by
    rcases List.mem_cons.1 h with rfl | h
    · exact Nat.le_trans (Nat.le_max_right _ _) (deepsF_le l _)
    · exact deep_kids l _ h
theorem deep_spec (c : Cond) (w : World) (h : CondIn w c) (hb : deepF c ≤ 140737488355328) : Calls Tryz.prog 53 #[.agg c.cells.toArray] w fun e w'' => e = .returned (iv (deepF c : Nat)) ∧ Ext w w'' := by
  have key : ∀ c, CondIn w c → deepF c ≤ 140737488355328 → ∀ w1, Ext w w1 → Calls Tryz.prog 53 #[.agg c.cells.toArray] w1 fun e w'' => e = .returned (iv (deepF c : Nat)) ∧ Ext w1 w'' := by
    intro c h
    induction h with
    | mk c hs _ ih =>
      intro hb w1 hw
      exact deep_step c w1 (hs.keep hw.block) hb (fun k hk w2 hw2 => ih k hk (by have := deep_kids c.kids.l 0 hk; rw [deepF_eq] at hb; omega) w2 (hw.trans hw2))
  exact key c h hb w (Ext.refl w)

end Go.Proofs.YtimonjemjhecoaaGreatDoor
