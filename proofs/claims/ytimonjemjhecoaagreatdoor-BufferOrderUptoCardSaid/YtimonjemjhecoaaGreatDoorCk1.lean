/- Walks, printed by a program of this repository (wip/tool). -/
import Derived.Test.YtimonjemjhecoaaGreatDoorAt1
import Derived.Test.YtimonjemjhecoaaGreatDoorSxRange
import Derived.Test.YtimonjemjhecoaaGreatDoorSxEq
namespace Go.Proofs.YtimonjemjhecoaaGreatDoor
open Go.RowKit
open Go
attribute [local irreducible] wpList wpQuiet wpX Code.wp
set_option maxHeartbeats 1000000
set_option maxRecDepth 100000
set_option linter.unusedSimpArgs false
set_option linter.unusedVariables false

structure One where
  ins : Ins
  behind : Int
def One.cells (o : One) : List Value := [bv o.ins.op, bv o.ins.dst, bv o.ins.loc, .bool o.ins.a.reg, bv o.ins.a.n, .bool o.ins.b.reg, bv o.ins.b.n, bv o.ins.fn, bv o.ins.mode, bv o.ins.skip, iv o.behind]
theorem One.cells_one (i : One) : ∀ v ∈ i.cells.toArray.toList, v.oneCell' = true := by
  simp [One.cells, Value.oneCell']
theorem eByte_n (x : UInt8) : (eByte x).length = 1 ∧ 0 < 1 := by simp [eByte]
theorem eStr_n (x : ByteArray) : (eStr x).length = 1 ∧ 0 < 1 := by simp [eStr]
theorem Ins.cells_n (x : Ins) : x.cells.length = 10 ∧ 0 < 10 := by simp [Ins.cells]
theorem Cond.cells_n (x : Cond) : x.cells.length = 5 ∧ 0 < 5 := by simp [Cond.cells]
def idxOf {α : Type} (p : α → Bool) : List α → Nat → Int
  | [], _ => -1
  | x :: l, n => if p x then (n : Int) else idxOf p l (n + 1)
theorem idxOf_none {α : Type} [Inhabited α] {p : α → Bool} : ∀ {l : List α} {n : Nat}, (∀ j, j < l.length → p (l.getD j default) = false) → idxOf p l n = -1
  | [], _, _ => rfl
  | x :: l, n, h => by
    have h0 := h 0 (by simp)
    simp only [List.getD_cons_zero] at h0
    simp only [idxOf, h0, Bool.false_eq_true, if_false]
    exact idxOf_none fun j hj => by have := h (j + 1) (by simpa using hj); simpa using this
theorem idxOf_some {α : Type} [Inhabited α] {p : α → Bool} : ∀ {l : List α} {n k : Nat}, k < l.length → (∀ j, j < k → p (l.getD j default) = false) → p (l.getD k default) = true → idxOf p l n = ((n + k : Nat) : Int)
  | [], _, _, h, _, _ => by simp at h
  | x :: l, n, 0, _, _, h => by
    simp only [List.getD_cons_zero] at h
    simp [idxOf, h]
  | x :: l, n, k + 1, hk, hj, h => by
    have h0 := hj 0 (by omega)
    simp only [List.getD_cons_zero] at h0
    simp only [idxOf, h0, Bool.false_eq_true, if_false]
    rw [idxOf_some (k := k) (by simpa using hk) (fun j hjk => by have := hj (j + 1) (by omega); simpa using this) (by simpa using h)]
    congr 1; omega
theorem idxOf_any {α : Type} {p : α → Bool} : ∀ {l : List α} {n : Nat}, decide ((0 : Int) ≤ idxOf p l n) = l.any p
  | [], _ => by simp [idxOf]
  | x :: l, n => by
    by_cases h : p x
    · simp [idxOf, h]
    · simp only [idxOf, h, List.any_cons, Bool.false_or]
      exact idxOf_any
theorem upto {p : Nat → Prop} {k : Nat} (h : ∀ j, j < k → p j) (hk : p k) : ∀ j, j < k + 1 → p j := fun j hj => by
  rcases Nat.lt_or_ge j k with h1 | h1
  · exact h j h1
  · obtain rfl : j = k := by omega
    exact hk

theorem index_u8 (s : Sl UInt8) (x : UInt8) (w : World) (hs : SlIn 1 eByte s w) :
Calls Tryz.prog 98 #[s.val, bv x] w fun e w' => e = .returned (iv (idxOf (fun y => x == y) s.l 0)) ∧ Ext w w' := by
 have H := Own.start_ro w [SlIn 1 eByte s] (by simpa [HangsBelow] using fun w' hw => hs.keep hw)
 have hcap := hs.2.2
 go_enter Tryz.func98, Tryz.ntmps98
 refine wsr ?_
 refine wasg (iv (0 : Int)) ?_; simp only [N]
 refine wpList_nil ?_
 refine wp_seq ?_; refine wsr ?_
 refine wmv (s.val) ?_; simp only [N]
 refine wr (rp_len_sl (s := s) Tryz.underlying23 rfl) ?_; simp only [N]
 refine wmv (iv (0 : Int)) ?_; simp only [N]
 refine wpList_nil ?_
 refine wp_block ?_
 refine wp_loopX (fun m' a' w' => ∃ (k : Nat) (u4 u5 u9 u10 u11 u12 u13 u14 u15 u16 u17 u18 : Value), a' = ⟨#[s.val, bv x, uU, uU, u4, u5, s.val, iv (s.l.length : Int), iv (k : Int), u9, u10, u11, u12, u13, u14, u15, u16, u17, u18], []⟩ ∧ Own w [] [SlIn 1 eByte s] [] w' ∧ (k ≤ s.l.length) ∧ (∀ j, j < k → (fun y => x == y) (s.l.getD j default) = false) ∧ m' = s.l.length - k) _ ⟨0, _, _, _, _, _, _, _, _, _, _, _, _, rfl, H, (by simp), (by intro j hj; omega), rfl⟩ ?_
 clear H
 rintro _ _ w1 ⟨k, u4, u5, u9, u10, u11, u12, u13, u14, u15, u16, u17, u18, rfl, H, hi1_0, hi1_1, rfl⟩
 refine wsr ?_
 refine wr (rp_int_lss rfl (k : Int) (s.l.length : Int) rfl rfl) ?_; simp only [N]
 refine wpList_nil ?_
 refine wp_seq ?_; refine wp_cond_split rfl (fun hc1 => ?_) (fun hc1 => ?_)
 · --T 1
  have hc1N : (k : Int) < (s.l.length : Int) := by simpa using hc1
  refine wp_skip ?_
  refine wp_seq ?_; refine wp_block ?_
  refine wsr ?_
  refine wmv (iv (k : Int)) ?_; simp only [N]
  refine wasg (iv (k : Int)) ?_; simp only [N]
  refine wnr ?_
  refine wmv (bv x) ?_; simp only [N]
  refine wmv (s.val) ?_; simp only [N]
  refine wmv (iv (k : Int)) ?_; simp only [N]
  refine wr (rp_indexAddr_sl (H.ro_at 0 rfl) rfl Tryz.underlying23 sz5 rfl k rfl (by omega)) ?_; simp only [N]
  refine wr (rp_load1_sl (H.ro_at 0 rfl) k (by omega) rfl Tryz.underlying5 rfl 0 rfl (by omega) (v := bv (s.l.getD k default)) rfl) ?_; simp only [N]
  refine wr (rp_u8_eql rfl x (s.l.getD k default) rfl rfl) ?_; simp only [N]
  refine wpList_nil ?_
  refine wp_cond_split rfl (fun hc2 => ?_) (fun hc2 => ?_)
  · --T 2
   have hc2N : x.toNat = (s.l.getD k default).toNat := u8_eq hc2
   refine wsr ?_
   refine wmv (iv (k : Int)) ?_; simp only [N]
   refine wasg (iv (k : Int)) ?_; simp only [N]
   refine wpList_nil ?_
   refine wp_ret ?_
   try simp only [Exit.inBlock, Exit.then]
   refine bodyPost_ret (results1 rfl (rv_tmp rfl)) rfl ?_
   exact ⟨by rw [idxOf_some (k := k) (by omega) hi1_1 (by simpa using hc2)]; simp, H.ext⟩
  · --F 2
   have hc2N : x.toNat ≠ (s.l.getD k default).toNat := u8_ne hc2
   refine wp_skip ?_
   refine wp_region_lit ?_; refine wr (rp_int_add rfl (k : Int) (1 : Int) rfl rfl (by omega)) ?_; simp only [N]
   refine wmv (iv ((k : Int) + (1 : Int))) ?_; simp only [N]
   refine wpList_nil ?_
   show ∃ n', n' < _ ∧ _
   refine ⟨_, ?_, k + 1, _, _, _, _, _, _, _, _, _, _, _, _, rfl, H, ?_, ?_, rfl⟩
   · omega
   · omega
   · exact upto hi1_1 (by simpa using hc2)
 · --F 1
  have hc1N : (s.l.length : Int) ≤ (k : Int) := by simpa using hc1
  refine wp_exit ?_
  refine wsr ?_
  refine wasg (iv (-1 : Int)) ?_; simp only [N]
  refine wpList_nil ?_
  refine wp_ret ?_
  try simp only [Exit.inBlock, Exit.then]
  refine bodyPost_ret (results1 rfl (rv_tmp rfl)) rfl ?_
  exact ⟨by rw [idxOf_none fun j hj => hi1_1 j (by omega)]; rfl, H.ext⟩

theorem contains_u8 (s : Sl UInt8) (x : UInt8) (w : World) (hs : SlIn 1 eByte s w) :
    Calls Tryz.prog 69 #[s.val, bv x] w fun e w' => e = .returned (.bool (s.l.any fun y => x == y)) ∧ Ext w w' := by
 have H := Own.start_ro w [SlIn 1 eByte s] (by simpa [HangsBelow] using fun w' hw => hs.keep hw)
 go_enter Tryz.func69, Tryz.ntmps69
 refine wsr ?_
 refine wasg (.bool false) ?_; simp only [N]
 refine wnr ?_
 refine wmv (s.val) ?_; simp only [N]
 refine wmv (bv x) ?_; simp only [N]
 refine wl_callE H rfl (rc_go Tryz.func98 (by kernel_rfl) rfl) (index_u8 s x _ (H.ro_at 0 rfl)) ?_
 clear H; intro w1 H
 simp only [N]
 refine wr (rp_int_geq rfl (idxOf (fun y => x == y) s.l 0) (0 : Int) rfl rfl) ?_; simp only [N]
 refine wasg (.bool (decide ((0 : Int) ≤ (idxOf (fun y => x == y) s.l 0)))) ?_; simp only [N]
 refine wpList_nil ?_
 refine wp_ret ?_
 try simp only [Exit.inBlock, Exit.then]
 refine bodyPost_ret (results1 rfl (rv_tmp rfl)) rfl ?_
 exact ⟨by rw [idxOf_any]; rfl, H.ext⟩

def argF (a : Arg) : Bool := !a.reg || decide (a.n < 8)
def needsF (op : UInt8) : Int := [0, 35, 38, 29, 7, 7, 15, 32, 92].getD op.toNat 0
def modesF (op : UInt8) : List UInt8 := if op == 1 then [0, 1] else if op == 2 then [0, 2] else if op == 7 then [3, 4, 5] else [0]
def fnsF (op : UInt8) : List UInt8 := if op == 3 then [1, 2, 3] else if op == 8 then [4, 5, 6] else [0]

theorem arg_spec (a : Arg) (w : World) : Calls Tryz.prog 67 #[.agg a.cells.toArray] w fun e w' => e = .returned (.bool (argF a)) ∧ Ext w w' := by
 have H := Own.start w
 go_enter Tryz.func67, Tryz.ntmps67
 refine wsr ?_
 refine wl_box H rfl rfl (v := .agg (a.cells).toArray) rfl ?_
 clear H; intro b1 w1 hnb1 H; dsimp only [Value.cells] at H
 simp only [N]
 refine wasg (.bool false) ?_; simp only [N]
 refine wnr ?_
 refine wr (rp_fieldAddr rfl Tryz.underlying56 rfl 0 rfl sz4 rfl 0 rfl) ?_; simp only [N]
 refine wr (rp_load1 H 0 rfl rfl rfl Tryz.underlying4 rfl (v := .bool a.reg) rfl) ?_; simp only [N]
 refine wr (rp_not rfl a.reg rfl) ?_; simp only [N]
 refine wmv (.bool (!a.reg)) ?_; simp only [N]
 cases hg1 : (!a.reg)
 · --false
  have hg1n : a.reg = true := by simpa using hg1
  refine wr (rp_fieldAddr rfl Tryz.underlying56 rfl 1 rfl sz5 rfl 1 rfl) ?_; simp only [N]
  refine wr (rp_load1 H 0 rfl rfl rfl Tryz.underlying5 rfl (v := bv a.n) rfl) ?_; simp only [N]
  refine wr (rp_u8_lss rfl a.n (8 : UInt8) rfl rfl) ?_; simp only [N]
  refine wr (rp_pickF rfl rfl (v := .bool (decide (a.n < (8 : UInt8)))) rfl) ?_; simp only [N]
  refine wasg (.bool (decide (a.n < (8 : UInt8)))) ?_; simp only [N]
  refine wpList_nil ?_
  refine wp_ret ?_
  try simp only [Exit.inBlock, Exit.then]
  refine bodyPost_ret (results1 rfl (rv_tmp rfl)) rfl ?_
  exact ⟨by simp_all [argF], H.ext⟩
 · --true
  have hg1n : a.reg = false := by simpa using hg1
  refine wskt ?_; simp only [N]
  refine wskt ?_; simp only [N]
  refine wskt ?_; simp only [N]
  refine wr (rp_pickT rfl rfl (u := .bool true) rfl) ?_; simp only [N]
  refine wasg (.bool true) ?_; simp only [N]
  refine wpList_nil ?_
  refine wp_ret ?_
  try simp only [Exit.inBlock, Exit.then]
  refine bodyPost_ret (results1 rfl (rv_tmp rfl)) rfl ?_
  exact ⟨by simp_all [argF], H.ext⟩

def needsIs (op : UInt8) : Bool := !(op == 0) && decide (op.toNat < 9)
theorem needs_cell {op : UInt8} (h : op.toNat < 9) : (#[iv 0, iv 35, iv 38, iv 29, iv 7, iv 7, iv 15, iv 32, iv 92] : Array Value)[op.toNat]? = some (iv (needsF op)) := by
  unfold needsF
  rcases (by omega : op.toNat = 0 ∨ op.toNat = 1 ∨ op.toNat = 2 ∨ op.toNat = 3 ∨ op.toNat = 4 ∨ op.toNat = 5 ∨ op.toNat = 6 ∨ op.toNat = 7 ∨ op.toNat = 8) with h | h | h | h | h | h | h | h | h <;> rw [h] <;> rfl
theorem needs_no {op : UInt8} (h : needsIs op = false) : needsF op = 0 := by
  simp only [needsIs, Bool.and_eq_false_iff, Bool.not_eq_false', beq_iff_eq, decide_eq_false_iff_not] at h
  rcases h with rfl | h
  · rfl
  · unfold needsF
    rw [List.getD_eq_getElem?_getD, List.getElem?_eq_none (by simp; omega)]
    rfl
theorem fresh_blk {w w' : World} {b : Nat} {ob : Obj} {φ : World → Prop} (hb : w'.heap[b]? = some ob) (hn : w.heap.size ≤ b) (h : ∀ w'', w''.heap[b]? = some ob → φ w'') : Fresh w w' φ := fun w'' hw =>
  h w'' ((hw b hn (Array.getElem?_eq_some_iff.1 hb).1).trans hb)

theorem needs_spec (op : UInt8) (w : World) : Calls Tryz.prog 60 #[bv op] w fun e w' => e = .returned (.tuple #[iv (needsF op), .bool (needsIs op)]) ∧ Ext w w' := by
 have H := Own.start w
 go_enter Tryz.func60, Tryz.ntmps60
 refine wsr ?_
 refine wasg (iv (0 : Int)) ?_; simp only [N]
 refine wasg (.bool false) ?_; simp only [N]
 refine wnr ?_
 refine wr (rp_build rfl (vs := [(1, iv (35 : Int)), (2, iv (38 : Int)), (3, iv (29 : Int)), (4, iv (7 : Int)), (5, iv (7 : Int)), (6, iv (15 : Int)), (7, iv (32 : Int)), (8, iv (92 : Int))]) rfl (cs := #[iv (0 : Int), iv (35 : Int), iv (38 : Int), iv (29 : Int), iv (7 : Int), iv (7 : Int), iv (15 : Int), iv (32 : Int), iv (92 : Int)]) (by kernel_rfl)) ?_; simp only [N]
 refine wl_alloc H rfl rfl zv146 ?_
 clear H; intro b1 w1 hnb1 H; dsimp only [Value.cells] at H
 simp only [N]
 refine wl_storeW H 0 rfl rfl rfl rfl (vs := #[iv (0 : Int), iv (35 : Int), iv (38 : Int), iv (29 : Int), iv (7 : Int), iv (7 : Int), iv (15 : Int), iv (32 : Int), iv (92 : Int)]) rfl (by simp [Value.oneCell']) (by first | exact sz146 | (rw [sz146]; congr 1; first | omega | simp [LN, enc_length, putAt_length, localF_length] <;> omega)) (by first | rfl | first | omega | simp [LN, enc_length, putAt_length, localF_length] <;> omega) ?_
 clear H; intro w2 H; simp only [M] at H
 simp only [N]
 refine wpList_nil ?_
 refine wp_seq ?_; refine wsr ?_
 refine wmv (bv op) ?_; simp only [N]
 refine wr (rp_u8_eql rfl op (0 : UInt8) rfl rfl) ?_; simp only [N]
 refine wmv (.bool (op == (0 : UInt8))) ?_; simp only [N]
 cases hg1 : (op == (0 : UInt8))
 · --false
  have hg1N : op.toNat ≠ 0 := u8_ne hg1
  refine wmv (bv op) ?_; simp only [N]
  refine wr (rp_u8_to_int rfl Tryz.underlying5 Tryz.underlying3 op rfl) ?_; simp only [N]
  refine wr (rp_int_geq rfl (op.toNat : Int) (9 : Int) rfl rfl) ?_; simp only [N]
  refine wr (rp_pickF rfl rfl (v := .bool (decide ((9 : Int) ≤ (op.toNat : Int)))) rfl) ?_; simp only [N]
  refine wpList_nil ?_
  refine wp_cond_split rfl (fun hc1 => ?_) (fun hc1 => ?_)
  · --T 1
   have hc1N : (9 : Int) ≤ (op.toNat : Int) := by simpa using hc1
   refine wsr ?_
   refine wasg (iv (0 : Int)) ?_; simp only [N]
   refine wasg (.bool false) ?_; simp only [N]
   refine wpList_nil ?_
   refine wp_ret ?_
   try simp only [Exit.inBlock, Exit.then]
   refine bodyPost_ret (results2 rfl (rv_tmp rfl) (rv_tmp rfl)) rfl ?_
   have hno : needsIs op = false := by simp [needsIs]; omega
   exact ⟨by rw [hno, needs_no hno]; rfl, H.ext⟩
  · --F 1
   have hc1N : (op.toNat : Int) < (9 : Int) := by simpa using hc1
   have hop : op.toNat < 9 := by omega
   refine wp_skip ?_
   refine wsr ?_
   refine wmv (bv op) ?_; simp only [N]
   refine wr (rp_indexAddr_arr rfl Tryz.underlying146 sz3 rfl op.toNat rfl (by omega) (op.toNat) (by omega)) ?_; simp only [N]
   refine wr (rp_load1 H 0 rfl rfl rfl Tryz.underlying3 rfl (v := iv (needsF op)) (needs_cell hop)) ?_; simp only [N]
   refine wasg (iv (needsF op)) ?_; simp only [N]
   refine wasg (.bool true) ?_; simp only [N]
   refine wpList_nil ?_
   refine wp_ret ?_
   try simp only [Exit.inBlock, Exit.then]
   refine bodyPost_ret (results2 rfl (rv_tmp rfl) (rv_tmp rfl)) rfl ?_
   have hno : needsIs op = true := by simp [needsIs]; exact ⟨by simpa using hg1, by omega⟩
   exact ⟨by rw [hno]; rfl, H.ext⟩
 · --true
  have hg1N : op.toNat = 0 := u8_eq hg1
  refine wskt ?_; simp only [N]
  refine wskt ?_; simp only [N]
  refine wskt ?_; simp only [N]
  refine wr (rp_pickT rfl rfl (u := .bool true) rfl) ?_; simp only [N]
  refine wpList_nil ?_
  refine wp_cond_true rfl ?_
  refine wsr ?_
  refine wasg (iv (0 : Int)) ?_; simp only [N]
  refine wasg (.bool false) ?_; simp only [N]
  refine wpList_nil ?_
  refine wp_ret ?_
  try simp only [Exit.inBlock, Exit.then]
  refine bodyPost_ret (results2 rfl (rv_tmp rfl) (rv_tmp rfl)) rfl ?_
  have hno : needsIs op = false := by simp_all [needsIs]
  exact ⟨by rw [hno, needs_no hno]; rfl, H.ext⟩

theorem modes_spec (o : One) (w : World) : Calls Tryz.prog 70 #[.agg o.cells.toArray] w fun e w' => ∃ b, e = .returned (Sl.val ⟨some ⟨b, 0, none⟩, (modesF o.ins.op).length, modesF o.ins.op⟩) ∧ Ext w w' ∧ Fresh w w' (SlIn 1 eByte ⟨some ⟨b, 0, none⟩, (modesF o.ins.op).length, modesF o.ins.op⟩) := by
 have H := Own.start w
 go_enter Tryz.func70, Tryz.ntmps70
 refine wsr ?_
 refine wl_box H rfl rfl (v := .agg (o.cells).toArray) rfl ?_
 clear H; intro b1 w1 hnb1 H; dsimp only [Value.cells] at H
 simp only [N]
 refine wasg ((.slice none 0 0)) ?_; simp only [N]
 refine wpList_nil ?_
 refine wp_seq ?_; refine wsr ?_
 refine wr (rp_fieldAddr rfl Tryz.underlying100 rfl 0 rfl sz58 rfl 0 rfl) ?_; simp only [N]
 refine wr (rp_fieldAddr rfl Tryz.underlying58 rfl 0 rfl sz5 rfl 0 rfl) ?_; simp only [N]
 refine wr (rp_load1 H 0 rfl rfl rfl Tryz.underlying5 rfl (v := bv o.ins.op) rfl) ?_; simp only [N]
 refine wpList_nil ?_
 refine wp_block ?_
 refine wsr ?_
 refine wr (rp_u8_eql rfl o.ins.op (1 : UInt8) rfl rfl) ?_; simp only [N]
 refine wasg (.bool (o.ins.op == (1 : UInt8))) ?_; simp only [N]
 refine wpList_nil ?_
 refine wp_cond_split rfl (fun hc1 => ?_) (fun hc1 => ?_)
 · --T 1
  have hc1N : (o.ins.op).toNat = 1 := u8_eq hc1
  refine wsr ?_
  refine wl_xallocF H rfl (xa_buildSlice rfl Tryz.underlying23 sz5 zv5 (by decide) (by decide) (vs := [(0, bv (0 : UInt8)), (1, bv (1 : UInt8))]) rfl (cs := #[bv (0 : UInt8), bv (1 : UInt8)]) (by kernel_rfl)) ?_
  clear H; intro b2 w2 hnb2 H
  simp only [N]
  refine wasg (.slice (some ⟨b2, 0, none⟩) 2 2) ?_; simp only [N]
  refine wpList_nil ?_
  refine wp_ret ?_
  try simp only [Exit.inBlock, Exit.then]
  refine bodyPost_ret (results1 rfl (rv_tmp rfl)) rfl ?_
  refine ⟨b2, by simp_all [modesF, Sl.val], H.ext, fresh_blk (H.ro_at 0 rfl) hnb2 fun w hw => ?_⟩
  have hl : modesF o.ins.op = [((0 : UInt8) : UInt8), ((1 : UInt8) : UInt8)] := by simp_all [modesF]
  rw [hl]; exact slin_blk hw (by simp [eByte]) eByte_n (by simp)
 · --F 1
  have hc1N : (o.ins.op).toNat ≠ 1 := u8_ne hc1
  refine wsr ?_
  refine wr (rp_u8_eql rfl o.ins.op (2 : UInt8) rfl rfl) ?_; simp only [N]
  refine wasg (.bool (o.ins.op == (2 : UInt8))) ?_; simp only [N]
  refine wpList_nil ?_
  refine wp_cond_split rfl (fun hc2 => ?_) (fun hc2 => ?_)
  · --T 2
   have hc2N : (o.ins.op).toNat = 2 := u8_eq hc2
   refine wsr ?_
   refine wl_xallocF H rfl (xa_buildSlice rfl Tryz.underlying23 sz5 zv5 (by decide) (by decide) (vs := [(0, bv (0 : UInt8)), (1, bv (2 : UInt8))]) rfl (cs := #[bv (0 : UInt8), bv (2 : UInt8)]) (by kernel_rfl)) ?_
   clear H; intro b3 w3 hnb3 H
   simp only [N]
   refine wasg (.slice (some ⟨b3, 0, none⟩) 2 2) ?_; simp only [N]
   refine wpList_nil ?_
   refine wp_ret ?_
   try simp only [Exit.inBlock, Exit.then]
   refine bodyPost_ret (results1 rfl (rv_tmp rfl)) rfl ?_
   refine ⟨b3, by simp_all [modesF, Sl.val], H.ext, fresh_blk (H.ro_at 0 rfl) hnb3 fun w hw => ?_⟩
   have hl : modesF o.ins.op = [((0 : UInt8) : UInt8), ((2 : UInt8) : UInt8)] := by simp_all [modesF]
   rw [hl]; exact slin_blk hw (by simp [eByte]) eByte_n (by simp)
  · --F 2
   have hc2N : (o.ins.op).toNat ≠ 2 := u8_ne hc2
   refine wsr ?_
   refine wr (rp_u8_eql rfl o.ins.op (7 : UInt8) rfl rfl) ?_; simp only [N]
   refine wasg (.bool (o.ins.op == (7 : UInt8))) ?_; simp only [N]
   refine wpList_nil ?_
   refine wp_cond_split rfl (fun hc3 => ?_) (fun hc3 => ?_)
   · --T 3
    have hc3N : (o.ins.op).toNat = 7 := u8_eq hc3
    refine wsr ?_
    refine wl_xallocF H rfl (xa_buildSlice rfl Tryz.underlying23 sz5 zv5 (by decide) (by decide) (vs := [(0, bv (3 : UInt8)), (1, bv (4 : UInt8)), (2, bv (5 : UInt8))]) rfl (cs := #[bv (3 : UInt8), bv (4 : UInt8), bv (5 : UInt8)]) (by kernel_rfl)) ?_
    clear H; intro b4 w4 hnb4 H
    simp only [N]
    refine wasg (.slice (some ⟨b4, 0, none⟩) 3 3) ?_; simp only [N]
    refine wpList_nil ?_
    refine wp_ret ?_
    try simp only [Exit.inBlock, Exit.then]
    refine bodyPost_ret (results1 rfl (rv_tmp rfl)) rfl ?_
    refine ⟨b4, by simp_all [modesF, Sl.val], H.ext, fresh_blk (H.ro_at 0 rfl) hnb4 fun w hw => ?_⟩
    have hl : modesF o.ins.op = [((3 : UInt8) : UInt8), ((4 : UInt8) : UInt8), ((5 : UInt8) : UInt8)] := by simp_all [modesF]
    rw [hl]; exact slin_blk hw (by simp [eByte]) eByte_n (by simp)
   · --F 3
    have hc3N : (o.ins.op).toNat ≠ 7 := u8_ne hc3
    refine wp_skip ?_
    refine wsr ?_
    refine wl_xallocF H rfl (xa_buildSlice rfl Tryz.underlying23 sz5 zv5 (by decide) (by decide) (vs := [(0, bv (0 : UInt8))]) rfl (cs := #[bv (0 : UInt8)]) (by kernel_rfl)) ?_
    clear H; intro b5 w5 hnb5 H
    simp only [N]
    refine wasg (.slice (some ⟨b5, 0, none⟩) 1 1) ?_; simp only [N]
    refine wpList_nil ?_
    refine wp_ret ?_
    try simp only [Exit.inBlock, Exit.then]
    refine bodyPost_ret (results1 rfl (rv_tmp rfl)) rfl ?_
    refine ⟨b5, by simp_all [modesF, Sl.val], H.ext, fresh_blk (H.ro_at 0 rfl) hnb5 fun w hw => ?_⟩
    have hl : modesF o.ins.op = [((0 : UInt8) : UInt8)] := by simp_all [modesF]
    rw [hl]; exact slin_blk hw (by simp [eByte]) eByte_n (by simp)

theorem fns_spec (o : One) (w : World) : Calls Tryz.prog 71 #[.agg o.cells.toArray] w fun e w' => ∃ b, e = .returned (Sl.val ⟨some ⟨b, 0, none⟩, (fnsF o.ins.op).length, fnsF o.ins.op⟩) ∧ Ext w w' ∧ Fresh w w' (SlIn 1 eByte ⟨some ⟨b, 0, none⟩, (fnsF o.ins.op).length, fnsF o.ins.op⟩) := by
 have H := Own.start w
 go_enter Tryz.func71, Tryz.ntmps71
 refine wsr ?_
 refine wl_box H rfl rfl (v := .agg (o.cells).toArray) rfl ?_
 clear H; intro b1 w1 hnb1 H; dsimp only [Value.cells] at H
 simp only [N]
 refine wasg ((.slice none 0 0)) ?_; simp only [N]
 refine wpList_nil ?_
 refine wp_seq ?_; refine wsr ?_
 refine wr (rp_fieldAddr rfl Tryz.underlying100 rfl 0 rfl sz58 rfl 0 rfl) ?_; simp only [N]
 refine wr (rp_fieldAddr rfl Tryz.underlying58 rfl 0 rfl sz5 rfl 0 rfl) ?_; simp only [N]
 refine wr (rp_load1 H 0 rfl rfl rfl Tryz.underlying5 rfl (v := bv o.ins.op) rfl) ?_; simp only [N]
 refine wpList_nil ?_
 refine wp_block ?_
 refine wsr ?_
 refine wr (rp_u8_eql rfl o.ins.op (3 : UInt8) rfl rfl) ?_; simp only [N]
 refine wasg (.bool (o.ins.op == (3 : UInt8))) ?_; simp only [N]
 refine wpList_nil ?_
 refine wp_cond_split rfl (fun hc1 => ?_) (fun hc1 => ?_)
 · --T 1
  have hc1N : (o.ins.op).toNat = 3 := u8_eq hc1
  refine wsr ?_
  refine wl_xallocF H rfl (xa_buildSlice rfl Tryz.underlying23 sz5 zv5 (by decide) (by decide) (vs := [(0, bv (1 : UInt8)), (1, bv (2 : UInt8)), (2, bv (3 : UInt8))]) rfl (cs := #[bv (1 : UInt8), bv (2 : UInt8), bv (3 : UInt8)]) (by kernel_rfl)) ?_
  clear H; intro b2 w2 hnb2 H
  simp only [N]
  refine wasg (.slice (some ⟨b2, 0, none⟩) 3 3) ?_; simp only [N]
  refine wpList_nil ?_
  refine wp_ret ?_
  try simp only [Exit.inBlock, Exit.then]
  refine bodyPost_ret (results1 rfl (rv_tmp rfl)) rfl ?_
  refine ⟨b2, by simp_all [fnsF, Sl.val], H.ext, fresh_blk (H.ro_at 0 rfl) hnb2 fun w hw => ?_⟩
  have hl : fnsF o.ins.op = [((1 : UInt8) : UInt8), ((2 : UInt8) : UInt8), ((3 : UInt8) : UInt8)] := by simp_all [fnsF]
  rw [hl]; exact slin_blk hw (by simp [eByte]) eByte_n (by simp)
 · --F 1
  have hc1N : (o.ins.op).toNat ≠ 3 := u8_ne hc1
  refine wsr ?_
  refine wr (rp_u8_eql rfl o.ins.op (8 : UInt8) rfl rfl) ?_; simp only [N]
  refine wasg (.bool (o.ins.op == (8 : UInt8))) ?_; simp only [N]
  refine wpList_nil ?_
  refine wp_cond_split rfl (fun hc2 => ?_) (fun hc2 => ?_)
  · --T 2
   have hc2N : (o.ins.op).toNat = 8 := u8_eq hc2
   refine wsr ?_
   refine wl_xallocF H rfl (xa_buildSlice rfl Tryz.underlying23 sz5 zv5 (by decide) (by decide) (vs := [(0, bv (4 : UInt8)), (1, bv (5 : UInt8)), (2, bv (6 : UInt8))]) rfl (cs := #[bv (4 : UInt8), bv (5 : UInt8), bv (6 : UInt8)]) (by kernel_rfl)) ?_
   clear H; intro b3 w3 hnb3 H
   simp only [N]
   refine wasg (.slice (some ⟨b3, 0, none⟩) 3 3) ?_; simp only [N]
   refine wpList_nil ?_
   refine wp_ret ?_
   try simp only [Exit.inBlock, Exit.then]
   refine bodyPost_ret (results1 rfl (rv_tmp rfl)) rfl ?_
   refine ⟨b3, by simp_all [fnsF, Sl.val], H.ext, fresh_blk (H.ro_at 0 rfl) hnb3 fun w hw => ?_⟩
   have hl : fnsF o.ins.op = [((4 : UInt8) : UInt8), ((5 : UInt8) : UInt8), ((6 : UInt8) : UInt8)] := by simp_all [fnsF]
   rw [hl]; exact slin_blk hw (by simp [eByte]) eByte_n (by simp)
  · --F 2
   have hc2N : (o.ins.op).toNat ≠ 8 := u8_ne hc2
   refine wp_skip ?_
   refine wsr ?_
   refine wl_xallocF H rfl (xa_buildSlice rfl Tryz.underlying23 sz5 zv5 (by decide) (by decide) (vs := [(0, bv (0 : UInt8))]) rfl (cs := #[bv (0 : UInt8)]) (by kernel_rfl)) ?_
   clear H; intro b4 w4 hnb4 H
   simp only [N]
   refine wasg (.slice (some ⟨b4, 0, none⟩) 1 1) ?_; simp only [N]
   refine wpList_nil ?_
   refine wp_ret ?_
   try simp only [Exit.inBlock, Exit.then]
   refine bodyPost_ret (results1 rfl (rv_tmp rfl)) rfl ?_
   refine ⟨b4, by simp_all [fnsF, Sl.val], H.ext, fresh_blk (H.ro_at 0 rfl) hnb4 fun w hw => ?_⟩
   have hl : fnsF o.ins.op = [((0 : UInt8) : UInt8)] := by simp_all [fnsF]
   rw [hl]; exact slin_blk hw (by simp [eByte]) eByte_n (by simp)

end Go.Proofs.YtimonjemjhecoaaGreatDoor
