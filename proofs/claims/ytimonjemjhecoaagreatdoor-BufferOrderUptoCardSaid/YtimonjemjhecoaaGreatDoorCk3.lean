/- Walks, printed by a program of this repository (wip/tool). -/
import Derived.Test.YtimonjemjhecoaaGreatDoorCk2
namespace Go.Proofs.YtimonjemjhecoaaGreatDoor
open Go.RowKit
open Go
attribute [local irreducible] wpList wpQuiet wpX Code.wp
set_option maxHeartbeats 1000000
set_option maxRecDepth 100000
set_option linter.unusedSimpArgs false
set_option linter.unusedVariables false

structure Clo where
  f : Nat
  caps : List Value
  r : Bool
instance : Inhabited Clo := ⟨⟨0, [], false⟩⟩
def Clo.val (c : Clo) : Value := .func (.func c.f) #[] c.caps.toArray
def Clo.cells (c : Clo) : List Value := [c.val]
theorem Clo.cells_n (x : Clo) : x.cells.length = 1 ∧ 0 < 1 := by simp [Clo.cells]
def CloOk (w : World) (c : Clo) : Prop := IsFn Tryz.prog c.f ∧ ∀ w', Ext w w' → Calls Tryz.prog c.f c.caps.toArray w' fun e w'' => e = .returned (.bool c.r) ∧ Ext w' w''

theorem all1_spec (c : Clo) (w : World) (h : CloOk w c) : Calls Tryz.prog 90 #[c.val] w fun e w' => e = .returned (.bool (!c.r)) ∧ Ext w w' := by
 have H := Own.start w
 go_enter Tryz.func90, Tryz.ntmps90
 refine wsr ?_
 refine wasg (.bool false) ?_; simp only [N]
 refine wnr ?_
 refine wmv (.func (.func c.f) [].toArray c.caps.toArray) ?_; simp only [N]
 refine wl_callE H rfl (rc_fnv (first := []) (captured := c.caps) rfl h.1) (h.2 _ H.ext) ?_
 clear H; intro w1 H
 simp only [N]
 refine wr (rp_not rfl c.r rfl) ?_; simp only [N]
 refine wasg (.bool (!c.r)) ?_; simp only [N]
 refine wpList_nil ?_
 refine wp_ret ?_
 try simp only [Exit.inBlock, Exit.then]
 refine bodyPost_ret (results1 rfl (rv_tmp rfl)) rfl ?_
 exact ⟨rfl, H.ext⟩

theorem indexFunc_clo (s : Sl Clo) (f : Nat) (first cap : List Value) (p : Clo → Bool) (w : World) (hs : SlIn 1 Clo.cells s w) (hf : IsFn Tryz.prog f)
    (hc : ∀ k, k < s.l.length → ∀ w', Ext w w' → Calls Tryz.prog f (first ++ [(s.l.getD k default).val] ++ cap).toArray w' fun e w'' => e = .returned (.bool (p (s.l.getD k default))) ∧ Ext w' w'') :
    Calls Tryz.prog 103 #[s.val, .func (.func f) first.toArray cap.toArray] w fun e w' => e = .returned (iv (idxOf p s.l 0)) ∧ Ext w w' := by
 have H := Own.start_ro w [SlIn 1 Clo.cells s] (by simpa [HangsBelow] using fun w' hw => hs.keep hw)
 have hcap := hs.2.2
 go_enter Tryz.func103, Tryz.ntmps103
 refine wsr ?_
 refine wasg (iv (0 : Int)) ?_; simp only [N]
 refine wpList_nil ?_
 refine wp_seq ?_; refine wsr ?_
 refine wmv (s.val) ?_; simp only [N]
 refine wr (rp_len_sl (s := s) Tryz.underlying147 rfl) ?_; simp only [N]
 refine wmv (iv (0 : Int)) ?_; simp only [N]
 refine wpList_nil ?_
 refine wp_block ?_
 refine wp_loopX (fun m' a' w' => ∃ (k : Nat) (u4 u5 u9 u10 u11 u12 u13 u14 u15 u16 u17 u18 : Value), a' = ⟨#[s.val, .func (.func f) first.toArray cap.toArray, uU, uU, u4, u5, s.val, iv (s.l.length : Int), iv (k : Int), u9, u10, u11, u12, u13, u14, u15, u16, u17, u18], []⟩ ∧ Own w [] [SlIn 1 Clo.cells s] [] w' ∧ (k ≤ s.l.length) ∧ (∀ j, j < k → p (s.l.getD j default) = false) ∧ m' = s.l.length - k) _ ⟨0, _, _, _, _, _, _, _, _, _, _, _, _, rfl, H, (by simp), (by intro j hj; omega), rfl⟩ ?_
 clear H
 rintro _ _ w1 ⟨k, u4, u5, u9, u10, u11, u12, u13, u14, u15, u16, u17, u18, rfl, H, hi1_0, hi1_1, rfl⟩
 refine wsr ?_
 refine wr (rp_int_lss rfl (k : Int) (s.l.length : Int) rfl rfl) ?_; simp only [N]
 refine wpList_nil ?_
 refine wp_seq ?_; refine wp_cond_split rfl (fun hc1 => ?_) (fun hc1 => ?_)
 · --T 1
  have hc1N : (k : Int) < (s.l.length : Int) := by simpa using hc1
  refine wp_skip ?_
  refine wp_seq ?_; refine wp_block ?_
  refine wsr ?_
  refine wmv (iv (k : Int)) ?_; simp only [N]
  refine wasg (iv (k : Int)) ?_; simp only [N]
  refine wnr ?_
  refine wmv (.func (.func f) first.toArray cap.toArray) ?_; simp only [N]
  refine wmv (s.val) ?_; simp only [N]
  refine wmv (iv (k : Int)) ?_; simp only [N]
  refine wr (rp_indexAddr_sl (H.ro_at 0 rfl) rfl Tryz.underlying147 sz48 rfl k rfl (by omega)) ?_; simp only [N]
  refine wr (rp_load1_sl (H.ro_at 0 rfl) k (by omega) rfl Tryz.underlying48 rfl 0 rfl (by omega) (v := (s.l.getD k default).val) rfl) ?_; simp only [N]
  refine wl_callE H rfl (rc_fnv (first := first) (captured := cap) rfl hf) (hc k (by omega) _ H.ext) ?_
  clear H; intro w2 H
  simp only [N]
  refine wpList_nil ?_
  refine wp_cond_split rfl (fun hc2 => ?_) (fun hc2 => ?_)
  · --T 2
   refine wsr ?_
   refine wmv (iv (k : Int)) ?_; simp only [N]
   refine wasg (iv (k : Int)) ?_; simp only [N]
   refine wpList_nil ?_
   refine wp_ret ?_
   try simp only [Exit.inBlock, Exit.then]
   refine bodyPost_ret (results1 rfl (rv_tmp rfl)) rfl ?_
   exact ⟨by rw [idxOf_some (k := k) (by omega) hi1_1 (by simpa using hc2)]; simp, H.ext⟩
  · --F 2
   refine wp_skip ?_
   refine wp_region_lit ?_; refine wr (rp_int_add rfl (k : Int) (1 : Int) rfl rfl (by omega)) ?_; simp only [N]
   refine wmv (iv ((k : Int) + (1 : Int))) ?_; simp only [N]
   refine wpList_nil ?_
   show ∃ n', n' < _ ∧ _
   refine ⟨_, ?_, k + 1, _, _, _, _, _, _, _, _, _, _, _, _, rfl, H, ?_, ?_, rfl⟩
   · omega
   · omega
   · exact upto hi1_1 (by simpa using hc2)
 · --F 1
  have hc1N : (s.l.length : Int) ≤ (k : Int) := by simpa using hc1
  refine wp_exit ?_
  refine wsr ?_
  refine wasg (iv (-1 : Int)) ?_; simp only [N]
  refine wpList_nil ?_
  refine wp_ret ?_
  try simp only [Exit.inBlock, Exit.then]
  refine bodyPost_ret (results1 rfl (rv_tmp rfl)) rfl ?_
  exact ⟨by rw [idxOf_none fun j hj => hi1_1 j (by omega)]; rfl, H.ext⟩

theorem containsFunc_clo (s : Sl Clo) (f : Nat) (first cap : List Value) (p : Clo → Bool) (w : World) (hs : SlIn 1 Clo.cells s w) (hf : IsFn Tryz.prog f)
    (hc : ∀ k, k < s.l.length → ∀ w', Ext w w' → Calls Tryz.prog f (first ++ [(s.l.getD k default).val] ++ cap).toArray w' fun e w'' => e = .returned (.bool (p (s.l.getD k default))) ∧ Ext w' w'') :
    Calls Tryz.prog 89 #[s.val, .func (.func f) first.toArray cap.toArray] w fun e w' => e = .returned (.bool (s.l.any p)) ∧ Ext w w' := by
 have H := Own.start_ro w [SlIn 1 Clo.cells s] (by simpa [HangsBelow] using fun w' hw => hs.keep hw)
 go_enter Tryz.func89, Tryz.ntmps89
 refine wsr ?_
 refine wasg (.bool false) ?_; simp only [N]
 refine wnr ?_
 refine wmv (s.val) ?_; simp only [N]
 refine wmv (.func (.func f) first.toArray cap.toArray) ?_; simp only [N]
 refine wl_callE H rfl (rc_go Tryz.func103 (by kernel_rfl) rfl) (indexFunc_clo s f first cap p _ (H.ro_at 0 rfl) hf (fun k hk w1 hw => hc k hk w1 (H.ext.trans hw))) ?_
 clear H; intro w1 H
 simp only [N]
 refine wr (rp_int_geq rfl (idxOf p s.l 0) (0 : Int) rfl rfl) ?_; simp only [N]
 refine wasg (.bool (decide ((0 : Int) ≤ (idxOf p s.l 0)))) ?_; simp only [N]
 refine wpList_nil ?_
 refine wp_ret ?_
 try simp only [Exit.inBlock, Exit.then]
 refine bodyPost_ret (results1 rfl (rv_tmp rfl)) rfl ?_
 exact ⟨by rw [idxOf_any]; rfl, H.ext⟩

theorem getD_mem {α : Type} [Inhabited α] {l : List α} {k : Nat} (h : k < l.length) : l.getD k default ∈ l := by
  rw [List.getD_eq_getElem?_getD, List.getElem?_eq_getElem h]; exact List.getElem_mem h

theorem all_spec (s : Sl Clo) (w : World) (hs : SlIn 1 Clo.cells s w) (hc : ∀ c ∈ s.l, CloOk w c) :
    Calls Tryz.prog 61 #[s.val] w fun e w' => e = .returned (.bool (!(s.l.any fun c => !c.r))) ∧ Ext w w' := by
 have H := Own.start_ro w [SlIn 1 Clo.cells s] (by simpa [HangsBelow] using fun w' hw => hs.keep hw)
 go_enter Tryz.func61, Tryz.ntmps61
 refine wsr ?_
 refine wasg (.bool false) ?_; simp only [N]
 refine wnr ?_
 refine wmv (s.val) ?_; simp only [N]
 refine wl_callE H rfl (rc_go Tryz.func89 (by kernel_rfl) rfl) (containsFunc_clo s 90 [] [] (fun c => !c.r) _ (H.ro_at 0 rfl) ⟨⟨_, _, Tryz.func90, by kernel_rfl, rfl⟩⟩ (fun k hk w1 hw => all1_spec _ _ ⟨(hc _ (getD_mem hk)).1, fun w2 hw2 => (hc _ (getD_mem hk)).2 w2 ((H.ext.trans hw).trans hw2)⟩)) ?_
 clear H; intro w1 H
 simp only [N]
 refine wr (rp_not rfl (s.l.any (fun c => !c.r)) rfl) ?_; simp only [N]
 refine wasg (.bool (!(s.l.any (fun c => !c.r)))) ?_; simp only [N]
 refine wpList_nil ?_
 refine wp_ret ?_
 try simp only [Exit.inBlock, Exit.then]
 refine bodyPost_ret (results1 rfl (rv_tmp rfl)) rfl ?_
 exact ⟨rfl, H.ext⟩

def insR (o : One) (locs : Int) : Bool :=
  !(List.any [(decide (o.ins = namedF o (needsF o.ins.op))), (decide (o.ins.dst < 8)), (band (needsF o.ins.op) 2 == 0 || decide ((o.ins.loc.toNat : Int) < locs)), (argF o.ins.a && argF o.ins.b), (((modesF o.ins.op).any fun y => o.ins.mode == y) && ((fnsF o.ins.op).any fun y => o.ins.fn == y)), (band (needsF o.ins.op) 64 == 0 || (decide (0 < o.ins.skip) && decide ((o.ins.skip.toNat : Int) ≤ o.behind)))] fun r => !r)
def insOk (o : One) (locs : Int) : Bool := needsIs o.ins.op && insR o locs

theorem onemay_spec (o : One) (locs : Int) (w : World) : Calls Tryz.prog 48 #[.agg o.cells.toArray, iv locs] w fun e w' => e = .returned (.bool (insOk o locs)) ∧ Ext w w' := by
 have H := Own.start w
 go_enter Tryz.func48, Tryz.ntmps48
 refine wsr ?_
 refine wl_box H rfl rfl (v := .agg (o.cells).toArray) rfl ?_
 clear H; intro b1 w1 hnb1 H; dsimp only [Value.cells] at H
 simp only [N]
 refine wl_box H rfl rfl (v := iv locs) rfl ?_
 clear H; intro b2 w2 hnb2 H; dsimp only [Value.cells] at H
 simp only [N]
 refine wasg (.bool false) ?_; simp only [N]
 refine wnr ?_
 refine wr (rp_fieldAddr rfl Tryz.underlying100 rfl 0 rfl sz58 rfl 0 rfl) ?_; simp only [N]
 refine wr (rp_fieldAddr rfl Tryz.underlying58 rfl 0 rfl sz5 rfl 0 rfl) ?_; simp only [N]
 refine wr (rp_load1 H 1 rfl rfl rfl Tryz.underlying5 rfl (v := bv o.ins.op) rfl) ?_; simp only [N]
 refine wl_callE H rfl (rc_go Tryz.func60 (by kernel_rfl) rfl) (needs_spec o.ins.op _) ?_
 clear H; intro w3 H
 simp only [N]
 refine wmv (.tuple #[iv (needsF o.ins.op), .bool (needsIs o.ins.op)]) ?_; simp only [N]
 refine wr (rp_extract rfl rfl (v := iv (needsF o.ins.op)) rfl) ?_; simp only [N]
 refine wr (rp_extract rfl rfl (v := .bool (needsIs o.ins.op)) rfl) ?_; simp only [N]
 refine wl_alloc H rfl rfl zv3 ?_
 clear H; intro b3 w4 hnb3 H; dsimp only [Value.cells] at H
 simp only [N]
 refine wl_store1 H 0 rfl rfl rfl (cs := #[iv (0 : Int)]) rfl (v := iv (needsF o.ins.op)) rfl rfl sz3 (Nat.le_of_ble_eq_true rfl) ?_
 clear H; intro w5 H; simp only [Ms] at H
 simp only [N]
 refine wasg (.bool (needsIs o.ins.op)) ?_; simp only [N]
 refine wnr ?_
 refine wmv (.bool (needsIs o.ins.op)) ?_; simp only [N]
 refine wmv (.bool (needsIs o.ins.op)) ?_; simp only [N]
 cases hg1 : (needsIs o.ins.op)
 · --false
  refine wskf ?_; simp only [N]
  refine wskf ?_; simp only [N]
  refine wskf ?_; simp only [N]
  refine wskf ?_; simp only [N]
  refine wskf ?_; simp only [N]
  refine wskf ?_; simp only [N]
  refine wskf ?_; simp only [N]
  refine wskf ?_; simp only [N]
  refine wr (rp_pickF rfl rfl (v := .bool false) rfl) ?_; simp only [N]
  refine wasg (.bool false) ?_; simp only [N]
  refine wpList_nil ?_
  refine wp_ret ?_
  try simp only [Exit.inBlock, Exit.then]
  refine bodyPost_ret (results1 rfl (rv_tmp rfl)) rfl ?_
  exact ⟨by simp_all [insOk], H.ext⟩
 · --true
  refine wr (rp_makeFuncL rfl (fs := []) (cs := [.pointer (some ⟨b1, 0, none⟩), .pointer (some ⟨b3, 0, none⟩)]) rfl rfl) ?_; simp only [N]
  refine wr (rp_makeFuncL rfl (fs := []) (cs := [.pointer (some ⟨b1, 0, none⟩)]) rfl rfl) ?_; simp only [N]
  refine wr (rp_makeFuncL rfl (fs := []) (cs := [.pointer (some ⟨b3, 0, none⟩), .pointer (some ⟨b1, 0, none⟩), .pointer (some ⟨b2, 0, none⟩)]) rfl rfl) ?_; simp only [N]
  refine wr (rp_makeFuncL rfl (fs := []) (cs := [.pointer (some ⟨b1, 0, none⟩)]) rfl rfl) ?_; simp only [N]
  refine wr (rp_makeFuncL rfl (fs := []) (cs := [.pointer (some ⟨b1, 0, none⟩)]) rfl rfl) ?_; simp only [N]
  refine wr (rp_makeFuncL rfl (fs := []) (cs := [.pointer (some ⟨b3, 0, none⟩), .pointer (some ⟨b1, 0, none⟩)]) rfl rfl) ?_; simp only [N]
  refine wl_xallocF H rfl (xa_buildSlice rfl Tryz.underlying147 sz48 zv48 (by decide) (by decide) (vs := [(0, .func (.func 62) #[] #[.pointer (some ⟨b1, 0, none⟩), .pointer (some ⟨b3, 0, none⟩)]), (1, .func (.func 64) #[] #[.pointer (some ⟨b1, 0, none⟩)]), (2, .func (.func 65) #[] #[.pointer (some ⟨b3, 0, none⟩), .pointer (some ⟨b1, 0, none⟩), .pointer (some ⟨b2, 0, none⟩)]), (3, .func (.func 66) #[] #[.pointer (some ⟨b1, 0, none⟩)]), (4, .func (.func 68) #[] #[.pointer (some ⟨b1, 0, none⟩)]), (5, .func (.func 72) #[] #[.pointer (some ⟨b3, 0, none⟩), .pointer (some ⟨b1, 0, none⟩)])]) rfl (cs := #[.func (.func 62) #[] #[.pointer (some ⟨b1, 0, none⟩), .pointer (some ⟨b3, 0, none⟩)], .func (.func 64) #[] #[.pointer (some ⟨b1, 0, none⟩)], .func (.func 65) #[] #[.pointer (some ⟨b3, 0, none⟩), .pointer (some ⟨b1, 0, none⟩), .pointer (some ⟨b2, 0, none⟩)], .func (.func 66) #[] #[.pointer (some ⟨b1, 0, none⟩)], .func (.func 68) #[] #[.pointer (some ⟨b1, 0, none⟩)], .func (.func 72) #[] #[.pointer (some ⟨b3, 0, none⟩), .pointer (some ⟨b1, 0, none⟩)]]) (by kernel_rfl)) ?_
  clear H; intro b4 w6 hnb4 H
  simp only [N]
  refine wl_callE H rfl (rc_go Tryz.func61 (by kernel_rfl) rfl) (all_spec (⟨some ⟨b4, 0, none⟩, 6, [⟨62, [.pointer (some ⟨b1, 0, none⟩), .pointer (some ⟨b3, 0, none⟩)], (decide (o.ins = namedF o (needsF o.ins.op)))⟩, ⟨64, [.pointer (some ⟨b1, 0, none⟩)], (decide (o.ins.dst < 8))⟩, ⟨65, [.pointer (some ⟨b3, 0, none⟩), .pointer (some ⟨b1, 0, none⟩), .pointer (some ⟨b2, 0, none⟩)], (band (needsF o.ins.op) 2 == 0 || decide ((o.ins.loc.toNat : Int) < locs))⟩, ⟨66, [.pointer (some ⟨b1, 0, none⟩)], (argF o.ins.a && argF o.ins.b)⟩, ⟨68, [.pointer (some ⟨b1, 0, none⟩)], (((modesF o.ins.op).any fun y => o.ins.mode == y) && ((fnsF o.ins.op).any fun y => o.ins.fn == y))⟩, ⟨72, [.pointer (some ⟨b3, 0, none⟩), .pointer (some ⟨b1, 0, none⟩)], (band (needsF o.ins.op) 64 == 0 || (decide (0 < o.ins.skip) && decide ((o.ins.skip.toNat : Int) ≤ o.behind)))⟩]⟩ : Sl Clo) _ (slin_blk (H.ro_at 0 rfl) ⟨[], rfl⟩ Clo.cells_n (by simp)) (List.forall_mem_cons.2 ⟨⟨⟨⟨_, _, Tryz.func62, by kernel_rfl, rfl⟩⟩, fun w2 hw => may1_spec _ _ o _ _ (needsF o.ins.op) w2 (hw.heap (H.blk (i := 2) rfl)) (hw.heap (H.blk (i := 0) rfl))⟩, List.forall_mem_cons.2 ⟨⟨⟨⟨_, _, Tryz.func64, by kernel_rfl, rfl⟩⟩, fun w2 hw => may2_spec _ _ o w2 (hw.heap (H.blk (i := 2) rfl))⟩, List.forall_mem_cons.2 ⟨⟨⟨⟨_, _, Tryz.func65, by kernel_rfl, rfl⟩⟩, fun w2 hw => may3_spec _ _ (needsF o.ins.op) _ _ o _ _ locs w2 (hw.heap (H.blk (i := 0) rfl)) (hw.heap (H.blk (i := 2) rfl)) (hw.heap (H.blk (i := 1) rfl))⟩, List.forall_mem_cons.2 ⟨⟨⟨⟨_, _, Tryz.func66, by kernel_rfl, rfl⟩⟩, fun w2 hw => may4_spec _ _ o w2 (hw.heap (H.blk (i := 2) rfl))⟩, List.forall_mem_cons.2 ⟨⟨⟨⟨_, _, Tryz.func68, by kernel_rfl, rfl⟩⟩, fun w2 hw => may5_spec _ _ o w2 (hw.heap (H.blk (i := 2) rfl))⟩, List.forall_mem_cons.2 ⟨⟨⟨⟨_, _, Tryz.func72, by kernel_rfl, rfl⟩⟩, fun w2 hw => may6_spec _ _ (needsF o.ins.op) _ _ o w2 (hw.heap (H.blk (i := 0) rfl)) (hw.heap (H.blk (i := 2) rfl))⟩, fun _ h => by cases h⟩⟩⟩⟩⟩⟩)) ?_
  clear H; intro w7 H
  simp only [N]
  refine wr (rp_pickT rfl rfl (u := .bool (insR o locs)) rfl) ?_; simp only [N]
  refine wasg (.bool (insR o locs)) ?_; simp only [N]
  refine wpList_nil ?_
  refine wp_ret ?_
  try simp only [Exit.inBlock, Exit.then]
  refine bodyPost_ret (results1 rfl (rv_tmp rfl)) rfl ?_
  exact ⟨by simp_all [insOk], H.ext⟩

def threadF (l : List Ins) (locs : Int) : Bool := decide (l.length ≤ 12) && (List.range l.length).all fun j => insOk ⟨l.getD j default, (l.length : Int) - 1 - (j : Int)⟩ locs
theorem threadF_no {l : List Ins} {locs : Int} {k : Nat} (hk : k < l.length) (h : insOk ⟨l.getD k default, (l.length : Int) - 1 - (k : Int)⟩ locs = false) : threadF l locs = false := by
  unfold threadF
  rw [Bool.and_eq_false_iff]
  right
  rw [List.all_eq_false]
  exact ⟨k, List.mem_range.2 hk, by rw [h]; simp⟩
theorem threadF_yes {l : List Ins} {locs : Int} (h0 : l.length ≤ 12) (h : ∀ j, j < l.length → insOk ⟨l.getD j default, (l.length : Int) - 1 - (j : Int)⟩ locs = true) : threadF l locs = true := by
  simp only [threadF, h0, decide_true, Bool.true_and, List.all_eq_true, List.mem_range]
  exact h
theorem threadF_long {l : List Ins} {locs : Int} (h0 : 12 < l.length) : threadF l locs = false := by
  simp [threadF]; omega

theorem thread_spec (s : Sl Ins) (locs : Int) (w : World) (hs : SlIn 10 Ins.cells s w) : Calls Tryz.prog 31 #[s.val, iv locs] w fun e w' => e = .returned (.bool (threadF s.l locs)) ∧ Ext w w' := by
 have H := Own.start_ro w [SlIn 10 Ins.cells s] (by simpa [HangsBelow] using fun w' hw => hs.keep hw)
 have hcap := hs.2.2
 go_enter Tryz.func31, Tryz.ntmps31
 refine wsr ?_
 refine wasg (.bool false) ?_; simp only [N]
 refine wpList_nil ?_
 refine wp_seq ?_; refine wsr ?_
 refine wmv (s.val) ?_; simp only [N]
 refine wr (rp_len_sl (s := s) Tryz.underlying59 rfl) ?_; simp only [N]
 refine wr (rp_int_gtr rfl (s.l.length : Int) (12 : Int) rfl rfl) ?_; simp only [N]
 refine wpList_nil ?_
 refine wp_cond_split rfl (fun hc1 => ?_) (fun hc1 => ?_)
 · --T 1
  have hc1N : (12 : Int) < (s.l.length : Int) := by simpa using hc1
  refine wsr ?_
  refine wasg (.bool false) ?_; simp only [N]
  refine wpList_nil ?_
  refine wp_ret ?_
  try simp only [Exit.inBlock, Exit.then]
  refine bodyPost_ret (results1 rfl (rv_tmp rfl)) rfl ?_
  exact ⟨by rw [threadF_long (by omega)]; rfl, H.ext⟩
 · --F 1
  have hc1N : (s.l.length : Int) ≤ (12 : Int) := by simpa using hc1
  refine wp_skip ?_
  refine wp_seq ?_; refine wsr ?_
  refine wmv (s.val) ?_; simp only [N]
  refine wr (rp_len_sl (s := s) Tryz.underlying59 rfl) ?_; simp only [N]
  refine wmv (iv (0 : Int)) ?_; simp only [N]
  refine wpList_nil ?_
  refine wp_block ?_
  refine wp_loopX (fun m' a' w' => ∃ (k : Nat) (u4 u5 u6 u13 u14 u15 u16 u17 u18 u19 u20 u21 u22 u23 u24 u25 u26 u27 : Value), a' = ⟨#[s.val, iv locs, uU, uU, u4, u5, u6, s.val, iv (s.l.length : Int), .bool (decide ((12 : Int) < (s.l.length : Int))), s.val, iv (s.l.length : Int), iv (k : Int), u13, u14, u15, u16, u17, u18, u19, u20, u21, u22, u23, u24, u25, u26, u27], []⟩ ∧ Own w [] [SlIn 10 Ins.cells s] [] w' ∧ (k ≤ s.l.length) ∧ (∀ j, j < k → insOk ⟨s.l.getD j default, (s.l.length : Int) - 1 - (j : Int)⟩ locs = true) ∧ m' = s.l.length - k) _ ⟨0, _, _, _, _, _, _, _, _, _, _, _, _, _, _, _, _, _, _, rfl, H, (by simp), (by intro j hj; omega), rfl⟩ ?_
  clear H
  rintro _ _ w1 ⟨k, u4, u5, u6, u13, u14, u15, u16, u17, u18, u19, u20, u21, u22, u23, u24, u25, u26, u27, rfl, H, hi1_0, hi1_1, rfl⟩
  refine wsr ?_
  refine wr (rp_int_lss rfl (k : Int) (s.l.length : Int) rfl rfl) ?_; simp only [N]
  refine wpList_nil ?_
  refine wp_seq ?_; refine wp_cond_split rfl (fun hc2 => ?_) (fun hc2 => ?_)
  · --T 2
   have hc2N : (k : Int) < (s.l.length : Int) := by simpa using hc2
   refine wp_skip ?_
   refine wp_seq ?_; refine wp_block ?_
   refine wsr ?_
   refine wmv (iv (k : Int)) ?_; simp only [N]
   refine wr (rp_indexAddr_sl (H.ro_at 0 rfl) rfl Tryz.underlying59 sz58 rfl k rfl (by omega)) ?_; simp only [N]
   refine wr (rp_loadN_sl (H.ro_at 0 rfl) k (by omega) rfl Tryz.underlying58 rfl rfl sz58) ?_; simp only [N]
   refine wl_alloc H rfl rfl zv58 ?_
   clear H; intro b1 w2 hnb1 H; dsimp only [Value.cells] at H
   simp only [N]
   refine wasg (iv (k : Int)) ?_; simp only [N]
   refine wl_storeW H 0 rfl rfl rfl rfl (vs := ((s.l.getD k default).cells).toArray) rfl (Ins.cells_one _) (by first | exact sz58 | (rw [sz58]; congr 1; first | omega | simp [LN, enc_length, putAt_length, localF_length] <;> omega)) (by first | rfl | first | omega | simp [LN, enc_length, putAt_length, localF_length] <;> omega) ?_
   clear H; intro w3 H; simp only [M] at H
   simp only [N]
   refine wnr ?_
   refine wr (rp_loadN H 0 rfl rfl rfl Tryz.underlying58 rfl sz58 (Nat.le_of_ble_eq_true rfl) (cs' := (s.l.getD k default).cells) rfl) ?_; simp only [N]
   refine wmv (s.val) ?_; simp only [N]
   refine wr (rp_len_sl (s := s) Tryz.underlying59 rfl) ?_; simp only [N]
   refine wr (rp_int_sub rfl (s.l.length : Int) (1 : Int) rfl rfl (by omega)) ?_; simp only [N]
   refine wmv (iv (k : Int)) ?_; simp only [N]
   refine wr (rp_int_sub rfl ((s.l.length : Int) - (1 : Int)) (k : Int) rfl rfl (by omega)) ?_; simp only [N]
   refine wr (rp_build rfl (vs := [(0, .agg ((s.l.getD k default).cells).toArray), (1, iv (((s.l.length : Int) - (1 : Int)) - (k : Int)))]) rfl (cs := ((⟨s.l.getD k default, ((s.l.length : Int) - (1 : Int)) - (k : Int)⟩ : One).cells).toArray) (by kernel_rfl)) ?_; simp only [N]
   refine wmv (iv locs) ?_; simp only [N]
   refine wl_callE H rfl (rc_go Tryz.func48 (by kernel_rfl) rfl) (onemay_spec (⟨s.l.getD k default, ((s.l.length : Int) - (1 : Int)) - (k : Int)⟩ : One) locs _) ?_
   clear H; intro w4 H
   simp only [N]
   refine wr (rp_not rfl (insOk (⟨s.l.getD k default, ((s.l.length : Int) - (1 : Int)) - (k : Int)⟩ : One) locs) rfl) ?_; simp only [N]
   refine wpList_nil ?_
   refine wp_cond_split rfl (fun hc3 => ?_) (fun hc3 => ?_)
   · --T 3
    have hc3n : (insOk (⟨s.l.getD k default, ((s.l.length : Int) - (1 : Int)) - (k : Int)⟩ : One) locs) = false := by simpa using hc3
    refine wsr ?_
    refine wasg (.bool false) ?_; simp only [N]
    refine wpList_nil ?_
    refine wp_ret ?_
    try simp only [Exit.inBlock, Exit.then]
    refine bodyPost_ret (results1 rfl (rv_tmp rfl)) rfl ?_
    exact ⟨by rw [threadF_no (k := k) (by omega) (by simpa using hc3)]; rfl, H.ext⟩
   · --F 3
    have hc3n : (insOk (⟨s.l.getD k default, ((s.l.length : Int) - (1 : Int)) - (k : Int)⟩ : One) locs) = true := by simpa using hc3
    refine wp_skip ?_
    refine wp_region_lit ?_; refine wr (rp_int_add rfl (k : Int) (1 : Int) rfl rfl (by omega)) ?_; simp only [N]
    refine wmv (iv ((k : Int) + (1 : Int))) ?_; simp only [N]
    refine wpList_nil ?_
    replace H := H.dropNew 0 rfl (foot_blk hnb1); simp only [List.eraseIdx_zero, List.eraseIdx_cons_succ, List.tail_cons] at H
    show ∃ n', n' < _ ∧ _
    refine ⟨_, ?_, k + 1, _, _, _, _, _, _, _, _, _, _, _, _, _, _, _, _, _, _, rfl, H, ?_, ?_, rfl⟩
    · omega
    · omega
    · exact upto hi1_1 (by simpa using hc3)
  · --F 2
   have hc2N : (s.l.length : Int) ≤ (k : Int) := by simpa using hc2
   refine wp_exit ?_
   refine wsr ?_
   refine wasg (.bool true) ?_; simp only [N]
   refine wpList_nil ?_
   refine wp_ret ?_
   try simp only [Exit.inBlock, Exit.then]
   refine bodyPost_ret (results1 rfl (rv_tmp rfl)) rfl ?_
   exact ⟨by rw [threadF_yes (by omega) fun j hj => hi1_1 j (by omega)]; rfl, H.ext⟩

end Go.Proofs.YtimonjemjhecoaaGreatDoor
