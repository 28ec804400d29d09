/- Walks, printed by a program of this repository (wip/tool). -/
import Derived.Test.YtimonjemjhecoaaGreatDoorLx1
namespace Go.Proofs.YtimonjemjhecoaaGreatDoor
open Go.RowKit
open Go
attribute [local irreducible] wpList wpQuiet wpX Code.wp
set_option maxHeartbeats 1000000
set_option maxRecDepth 100000
set_option linter.unusedSimpArgs false
set_option linter.unusedVariables false

theorem index_str (s : Sl ByteArray) (x : ByteArray) (w : World) (hs : SlIn 1 eStr s w) :
Calls Tryz.prog 79 #[s.val, .string x] w fun e w' => e = .returned (iv (idxOf (fun y => decide (x = y)) s.l 0)) ∧ Ext w w' := by
 have H := Own.start_ro w [SlIn 1 eStr s] (by simpa [HangsBelow] using fun w' hw => hs.keep hw)
 have hcap := hs.2.2
 go_enter Tryz.func79, Tryz.ntmps79
 refine wsr ?_
 refine wasg (iv (0 : Int)) ?_; simp only [N]
 refine wpList_nil ?_
 refine wp_seq ?_; refine wsr ?_
 refine wmv (s.val) ?_; simp only [N]
 refine wr (rp_len_sl (s := s) Tryz.underlying22 rfl) ?_; simp only [N]
 refine wmv (iv (0 : Int)) ?_; simp only [N]
 refine wpList_nil ?_
 refine wp_block ?_
 refine wp_loopX (fun m' a' w' => ∃ (k : Nat) (u4 u5 u9 u10 u11 u12 u13 u14 u15 u16 u17 u18 : Value), a' = ⟨#[s.val, .string x, uU, uU, u4, u5, s.val, iv (s.l.length : Int), iv (k : Int), u9, u10, u11, u12, u13, u14, u15, u16, u17, u18], []⟩ ∧ Own w [] [SlIn 1 eStr s] [] w' ∧ (k ≤ s.l.length) ∧ (∀ j, j < k → (fun y => decide (x = y)) (s.l.getD j default) = false) ∧ m' = s.l.length - k) _ ⟨0, _, _, _, _, _, _, _, _, _, _, _, _, rfl, H, (by simp), (by intro j hj; omega), rfl⟩ ?_
 clear H
 rintro _ _ w1 ⟨k, u4, u5, u9, u10, u11, u12, u13, u14, u15, u16, u17, u18, rfl, H, hi1_0, hi1_1, rfl⟩
 refine wsr ?_
 refine wr (rp_int_lss rfl (k : Int) (s.l.length : Int) rfl rfl) ?_; simp only [N]
 refine wpList_nil ?_
 refine wp_seq ?_; refine wp_cond_split rfl (fun hc1 => ?_) (fun hc1 => ?_)
 · --T 1
  have hc1N : (k : Int) < (s.l.length : Int) := by simpa using hc1
  refine wp_skip ?_
  refine wp_seq ?_; refine wp_block ?_
  refine wsr ?_
  refine wmv (iv (k : Int)) ?_; simp only [N]
  refine wasg (iv (k : Int)) ?_; simp only [N]
  refine wnr ?_
  refine wmv (.string x) ?_; simp only [N]
  refine wmv (s.val) ?_; simp only [N]
  refine wmv (iv (k : Int)) ?_; simp only [N]
  refine wr (rp_indexAddr_sl (H.ro_at 0 rfl) rfl Tryz.underlying22 sz9 rfl k rfl (by omega)) ?_; simp only [N]
  refine wr (rp_load1_sl (H.ro_at 0 rfl) k (by omega) rfl Tryz.underlying9 rfl 0 rfl (by omega) (v := .string (s.l.getD k default)) rfl) ?_; simp only [N]
  refine wr (rp_str_eql rfl x (s.l.getD k default) rfl rfl) ?_; simp only [N]
  refine wpList_nil ?_
  refine wp_cond_split rfl (fun hc2 => ?_) (fun hc2 => ?_)
  · --T 2
   refine wsr ?_
   refine wmv (iv (k : Int)) ?_; simp only [N]
   refine wasg (iv (k : Int)) ?_; simp only [N]
   refine wpList_nil ?_
   refine wp_ret ?_
   try simp only [Exit.inBlock, Exit.then]
   refine bodyPost_ret (results1 rfl (rv_tmp rfl)) rfl ?_
   exact ⟨by rw [idxOf_some (k := k) (by omega) hi1_1 (by simpa using hc2)]; simp, H.ext⟩
  · --F 2
   refine wp_skip ?_
   refine wp_region_lit ?_; refine wr (rp_int_add rfl (k : Int) (1 : Int) rfl rfl (by omega)) ?_; simp only [N]
   refine wmv (iv ((k : Int) + (1 : Int))) ?_; simp only [N]
   refine wpList_nil ?_
   show ∃ n', n' < _ ∧ _
   refine ⟨_, ?_, k + 1, _, _, _, _, _, _, _, _, _, _, _, _, rfl, H, ?_, ?_, rfl⟩
   · omega
   · omega
   · exact upto hi1_1 (by simpa using hc2)
 · --F 1
  have hc1N : (s.l.length : Int) ≤ (k : Int) := by simpa using hc1
  refine wp_exit ?_
  refine wsr ?_
  refine wasg (iv (-1 : Int)) ?_; simp only [N]
  refine wpList_nil ?_
  refine wp_ret ?_
  try simp only [Exit.inBlock, Exit.then]
  refine bodyPost_ret (results1 rfl (rv_tmp rfl)) rfl ?_
  exact ⟨by rw [idxOf_none fun j hj => hi1_1 j (by omega)]; rfl, H.ext⟩

theorem contains_str (s : Sl ByteArray) (x : ByteArray) (w : World) (hs : SlIn 1 eStr s w) :
    Calls Tryz.prog 51 #[s.val, .string x] w fun e w' => e = .returned (.bool (s.l.any fun y => decide (x = y))) ∧ Ext w w' := by
 have H := Own.start_ro w [SlIn 1 eStr s] (by simpa [HangsBelow] using fun w' hw => hs.keep hw)
 go_enter Tryz.func51, Tryz.ntmps51
 refine wsr ?_
 refine wasg (.bool false) ?_; simp only [N]
 refine wnr ?_
 refine wmv (s.val) ?_; simp only [N]
 refine wmv (.string x) ?_; simp only [N]
 refine wl_callE H rfl (rc_go Tryz.func79 (by kernel_rfl) rfl) (index_str s x _ (H.ro_at 0 rfl)) ?_
 clear H; intro w1 H
 simp only [N]
 refine wr (rp_int_geq rfl (idxOf (fun y => decide (x = y)) s.l 0) (0 : Int) rfl rfl) ?_; simp only [N]
 refine wasg (.bool (decide ((0 : Int) ≤ (idxOf (fun y => decide (x = y)) s.l 0)))) ?_; simp only [N]
 refine wpList_nil ?_
 refine wp_ret ?_
 try simp only [Exit.inBlock, Exit.then]
 refine bodyPost_ret (results1 rfl (rv_tmp rfl)) rfl ?_
 exact ⟨by rw [idxOf_any]; rfl, H.ext⟩

def keptL : List ByteArray := [⟨#[116, 101, 115, 116]⟩, ⟨#[105, 110, 105, 116]⟩, ⟨#[116, 104, 114, 101, 97, 100]⟩, ⟨#[115, 111, 109, 101]⟩, ⟨#[110, 111, 110, 101]⟩, ⟨#[97, 108, 108]⟩, ⟨#[97, 99, 113]⟩, ⟨#[114, 101, 108]⟩, ⟨#[115, 119, 97, 112]⟩, ⟨#[102, 101, 116, 99, 104]⟩, ⟨#[99, 97, 115]⟩, ⟨#[102, 101, 110, 99, 101]⟩, ⟨#[108, 111, 97, 100, 115]⟩, ⟨#[115, 116, 111, 114, 101, 115]⟩, ⟨#[115, 107, 105, 112]⟩, ⟨#[105, 102]⟩, ⟨#[116, 114, 117, 101]⟩]
def keptF (s : ByteArray) : Bool := keptL.any fun y => decide (s = y)
def nameF (s : ByteArray) : Bool :=
  if (decide (s = ⟨#[]⟩) || decide ((16 : Int) < (s.size : Int)) || clsF (sat s 0) != 3 || keptF s) = true then false
  else if (!decide (s.extract 0 (spanF wordP s 0) = s)) = true then false
  else sat s 0 != 114 || ((s.size : Int) == 1) || (!decide (s.extract 1 (spanF digitsP s 1) = s.extract 1 s.size))
theorem size_pos {s : ByteArray} (h : s ≠ ⟨#[]⟩) : 0 < s.size := by
  obtain ⟨⟨l⟩⟩ := s
  cases l with
  | nil => exact absurd rfl h
  | cons x l => exact Nat.succ_pos l.length

theorem kept_spec (s : ByteArray) (w : World) : Calls Tryz.prog 75 #[.string s] w fun e w' => e = .returned (.bool (keptF s)) ∧ Ext w w' := by
 have H := Own.start w
 go_enter Tryz.func75, Tryz.ntmps75
 refine wsr ?_
 refine wasg (.bool false) ?_; simp only [N]
 refine wnr ?_
 refine wl_xallocF H rfl (xa_buildSlice rfl Tryz.underlying22 sz9 zv9 (by decide) (by decide) (vs := [(0, .string (⟨#[116, 101, 115, 116]⟩ : ByteArray)), (1, .string (⟨#[105, 110, 105, 116]⟩ : ByteArray)), (2, .string (⟨#[116, 104, 114, 101, 97, 100]⟩ : ByteArray)), (3, .string (⟨#[115, 111, 109, 101]⟩ : ByteArray)), (4, .string (⟨#[110, 111, 110, 101]⟩ : ByteArray)), (5, .string (⟨#[97, 108, 108]⟩ : ByteArray)), (6, .string (⟨#[97, 99, 113]⟩ : ByteArray)), (7, .string (⟨#[114, 101, 108]⟩ : ByteArray)), (8, .string (⟨#[115, 119, 97, 112]⟩ : ByteArray)), (9, .string (⟨#[102, 101, 116, 99, 104]⟩ : ByteArray)), (10, .string (⟨#[99, 97, 115]⟩ : ByteArray)), (11, .string (⟨#[102, 101, 110, 99, 101]⟩ : ByteArray)), (12, .string (⟨#[108, 111, 97, 100, 115]⟩ : ByteArray)), (13, .string (⟨#[115, 116, 111, 114, 101, 115]⟩ : ByteArray)), (14, .string (⟨#[115, 107, 105, 112]⟩ : ByteArray)), (15, .string (⟨#[105, 102]⟩ : ByteArray)), (16, .string (⟨#[116, 114, 117, 101]⟩ : ByteArray))]) rfl (cs := #[.string (⟨#[116, 101, 115, 116]⟩ : ByteArray), .string (⟨#[105, 110, 105, 116]⟩ : ByteArray), .string (⟨#[116, 104, 114, 101, 97, 100]⟩ : ByteArray), .string (⟨#[115, 111, 109, 101]⟩ : ByteArray), .string (⟨#[110, 111, 110, 101]⟩ : ByteArray), .string (⟨#[97, 108, 108]⟩ : ByteArray), .string (⟨#[97, 99, 113]⟩ : ByteArray), .string (⟨#[114, 101, 108]⟩ : ByteArray), .string (⟨#[115, 119, 97, 112]⟩ : ByteArray), .string (⟨#[102, 101, 116, 99, 104]⟩ : ByteArray), .string (⟨#[99, 97, 115]⟩ : ByteArray), .string (⟨#[102, 101, 110, 99, 101]⟩ : ByteArray), .string (⟨#[108, 111, 97, 100, 115]⟩ : ByteArray), .string (⟨#[115, 116, 111, 114, 101, 115]⟩ : ByteArray), .string (⟨#[115, 107, 105, 112]⟩ : ByteArray), .string (⟨#[105, 102]⟩ : ByteArray), .string (⟨#[116, 114, 117, 101]⟩ : ByteArray)]) (by kernel_rfl)) ?_
 clear H; intro b1 w1 hnb1 H
 simp only [N]
 refine wmv (.string s) ?_; simp only [N]
 refine wl_callE H rfl (rc_go Tryz.func51 (by kernel_rfl) rfl) (contains_str (⟨some ⟨b1, 0, none⟩, 17, keptL⟩ : Sl ByteArray) s _ (slin_blk (H.ro_at 0 rfl) ⟨[], rfl⟩ eStr_n (by decide))) ?_
 clear H; intro w2 H
 simp only [N]
 refine wasg (.bool (keptL.any fun y => decide (s = y))) ?_; simp only [N]
 refine wpList_nil ?_
 refine wp_ret ?_
 try simp only [Exit.inBlock, Exit.then]
 refine bodyPost_ret (results1 rfl (rv_tmp rfl)) rfl ?_
 exact ⟨rfl, H.ext⟩

theorem name_spec (s : ByteArray) (w : World) (hs : s.size ≤ 140737488355328) : Calls Tryz.prog 50 #[.string s] w fun e w' => e = .returned (.bool (nameF s)) ∧ Ext w w' := by
 have H := Own.start w
 go_enter Tryz.func50, Tryz.ntmps50
 refine wsr ?_
 refine wasg (.bool false) ?_; simp only [N]
 refine wpList_nil ?_
 refine wp_seq ?_; refine wp_seq ?_; refine wp_cutO H (fun a' => ∃ (u4 : Value) (u5 : Value) (u6 : Value) (u7 : Value) (u8 : Value) (u9 : Value) (u10 : Value) (u11 : Value) (u12 : Value) (u13 : Value) (u14 : Value) (u15 : Value) (u16 : Value) (u17 : Value) (u18 : Value) (u19 : Value) (r20 : Bool), r20 = (decide (s = ⟨#[]⟩) || decide ((16 : Int) < (s.size : Int)) || clsF (sat s 0) != 3 || keptF s) ∧  a' = ⟨#[.string s, uU, .bool false, uU, u4, u5, u6, u7, u8, u9, u10, u11, u12, u13, u14, u15, u16, u17, u18, u19, .bool r20, uU, uU, uU, uU, uU, uU, uU, uU, uU, uU, uU, uU, uU, uU, uU, uU, uU, uU, uU, uU], []⟩) ?_ ?_
 ·
  refine wp_region_lit ?_; refine wmv (.string s) ?_; simp only [N]
  refine wr (rp_str_eql rfl s (⟨#[]⟩ : ByteArray) rfl rfl) ?_; simp only [N]
  refine wmv (.bool (decide (s = (⟨#[]⟩ : ByteArray)))) ?_; simp only [N]
  cases hg1 : (decide (s = (⟨#[]⟩ : ByteArray)))
  · --false
   refine wmv (.string s) ?_; simp only [N]
   refine wr (rp_len_string Tryz.underlying9 rfl) ?_; simp only [N]
   refine wr (rp_int_gtr rfl (s.size : Int) (16 : Int) rfl rfl) ?_; simp only [N]
   refine wr (rp_pickF rfl rfl (v := .bool (decide ((16 : Int) < (s.size : Int)))) rfl) ?_; simp only [N]
   refine wmv (.bool (decide ((16 : Int) < (s.size : Int)))) ?_; simp only [N]
   cases hg2 : (decide ((16 : Int) < (s.size : Int)))
   · --false
    have hg2N : (s.size : Int) ≤ (16 : Int) := by simpa using hg2
    refine wmv (.string s) ?_; simp only [N]
    refine wr (rp_index_string rfl Tryz.underlying9 rfl 0 rfl (by exact size_pos (by simp_all))) ?_; simp only [N]
    refine wl_callE H rfl (rc_go Tryz.func74 (by kernel_rfl) rfl) (of_spec (sat s 0) _) ?_
    clear H; intro w1 H
    simp only [N]
    refine wr (rp_int_neq rfl (clsF (sat s 0)) (3 : Int) rfl rfl) ?_; simp only [N]
    refine wr (rp_pickF rfl rfl (v := .bool ((clsF (sat s 0)) != (3 : Int))) rfl) ?_; simp only [N]
    refine wmv (.bool ((clsF (sat s 0)) != (3 : Int))) ?_; simp only [N]
    cases hg3 : ((clsF (sat s 0)) != (3 : Int))
    · --false
     have hg3N : (clsF (sat s 0)) = (3 : Int) := by simpa using hg3
     refine wmv (.string s) ?_; simp only [N]
     refine wl_callE H rfl (rc_go Tryz.func75 (by kernel_rfl) rfl) (kept_spec s _) ?_
     clear H; intro w2 H
     simp only [N]
     refine wr (rp_pickF rfl rfl (v := .bool (keptF s)) rfl) ?_; simp only [N]
     refine wpList_nil ?_
     refine ⟨rfl, ⟨_, _, _, _, _, _, _, _, _, _, _, _, _, _, _, _, (keptF s), (by simp_all), rfl⟩, H⟩
    · --true
     have hg3N : (clsF (sat s 0)) ≠ (3 : Int) := by simpa using hg3
     refine wskt ?_; simp only [N]
     refine wskt ?_; simp only [N]
     refine wr (rp_pickT rfl rfl (u := .bool true) rfl) ?_; simp only [N]
     refine wpList_nil ?_
     refine ⟨rfl, ⟨_, _, _, _, _, _, _, _, _, _, _, _, _, _, _, _, true, (by simp_all), rfl⟩, H⟩
   · --true
    have hg2N : (16 : Int) < (s.size : Int) := by simpa using hg2
    refine wskt ?_; simp only [N]
    refine wskt ?_; simp only [N]
    refine wskt ?_; simp only [N]
    refine wskt ?_; simp only [N]
    refine wr (rp_pickT rfl rfl (u := .bool true) rfl) ?_; simp only [N]
    refine wmv (.bool true) ?_; simp only [N]
    refine wskt ?_; simp only [N]
    refine wskt ?_; simp only [N]
    refine wr (rp_pickT rfl rfl (u := .bool true) rfl) ?_; simp only [N]
    refine wpList_nil ?_
    refine ⟨rfl, ⟨_, _, _, _, _, _, _, _, _, _, _, _, _, _, _, _, true, (by simp_all), rfl⟩, H⟩
  · --true
   refine wskt ?_; simp only [N]
   refine wskt ?_; simp only [N]
   refine wskt ?_; simp only [N]
   refine wr (rp_pickT rfl rfl (u := .bool true) rfl) ?_; simp only [N]
   refine wmv (.bool true) ?_; simp only [N]
   refine wskt ?_; simp only [N]
   refine wskt ?_; simp only [N]
   refine wskt ?_; simp only [N]
   refine wskt ?_; simp only [N]
   refine wr (rp_pickT rfl rfl (u := .bool true) rfl) ?_; simp only [N]
   refine wmv (.bool true) ?_; simp only [N]
   refine wskt ?_; simp only [N]
   refine wskt ?_; simp only [N]
   refine wr (rp_pickT rfl rfl (u := .bool true) rfl) ?_; simp only [N]
   refine wpList_nil ?_
   refine ⟨rfl, ⟨_, _, _, _, _, _, _, _, _, _, _, _, _, _, _, _, true, (by simp_all), rfl⟩, H⟩
 clear H
 rintro _ w3 ⟨u4, u5, u6, u7, u8, u9, u10, u11, u12, u13, u14, u15, u16, u17, u18, u19, _, rfl, rfl⟩ H
 refine wp_cond_split rfl (fun hc1 => ?_) (fun hc1 => ?_)
 · --T 1
  refine wsr ?_
  refine wasg (.bool false) ?_; simp only [N]
  refine wpList_nil ?_
  refine wp_ret ?_
  try simp only [Exit.inBlock, Exit.then]
  refine bodyPost_ret (results1 rfl (rv_tmp rfl)) rfl ?_
  have HE := H.ext
  clear H
  exact ⟨by unfold nameF; simp only [hc1, Bool.false_eq_true, if_true, if_false, Bool.false_or, Bool.true_or, Bool.or_true, Bool.or_false]; try rfl, HE⟩
 · --F 1
  have hpos : 0 < s.size := size_pos (by simp_all)
  refine wp_skip ?_
  refine wsr ?_
  refine wmv (.string s) ?_; simp only [N]
  refine wr (rp_build rfl (vs := [(0, .string s), (1, iv (0 : Int))]) rfl (cs := #[.string s, iv (0 : Int)]) (by kernel_rfl)) ?_; simp only [N]
  refine wl_alloc H rfl rfl zv127 ?_
  clear H; intro b1 w4 hnb1 H; dsimp only [Value.cells] at H
  simp only [N]
  refine wl_storeW H 0 rfl rfl rfl rfl (vs := #[.string s, iv (0 : Int)]) rfl (by simp [Value.oneCell']) (by first | exact sz127 | (rw [sz127]; congr 1; first | omega | simp [LN, enc_length, putAt_length, localF_length] <;> omega)) (by first | rfl | first | omega | simp [LN, enc_length, putAt_length, localF_length] <;> omega) ?_
  clear H; intro w5 H; simp only [M] at H
  simp only [N]
  refine wpList_nil ?_
  refine wp_seq ?_; refine wsr ?_
  refine wl_callP H 0 rfl (rc_go Tryz.func76 (by kernel_rfl) rfl) rfl (while_spec _ _ s 0 ([]) 77 wordP _ (by omega) (by omega) (H.blk (i := 0) rfl) ⟨⟨_, _, Tryz.func77, by kernel_rfl, rfl⟩⟩ (fun c w => word_spec c w)) ?_
  clear H; intro w6 H; simp only [M] at H
  simp only [N]
  refine wmv (.string s) ?_; simp only [N]
  refine wr (rp_str_neq rfl (s.extract 0 (spanF wordP s 0)) s rfl rfl) ?_; simp only [N]
  refine wpList_nil ?_
  refine wp_cond_split rfl (fun hc2 => ?_) (fun hc2 => ?_)
  · --T 2
   refine wsr ?_
   refine wasg (.bool false) ?_; simp only [N]
   refine wpList_nil ?_
   refine wp_ret ?_
   try simp only [Exit.inBlock, Exit.then]
   refine bodyPost_ret (results1 rfl (rv_tmp rfl)) rfl ?_
   have HE := H.ext
   clear H
   exact ⟨by unfold nameF; simp only [hc1, hc2, Bool.false_eq_true, if_true, if_false, Bool.false_or, Bool.true_or, Bool.or_true, Bool.or_false]; try rfl, HE⟩
  · --F 2
   refine wp_skip ?_
   refine wsr ?_
   refine wr (rp_fieldAddr rfl Tryz.underlying127 rfl 1 rfl sz3 rfl 1 rfl) ?_; simp only [N]
   refine wl_store1 H 0 rfl rfl rfl (cs := #[.string s, iv (((spanF wordP s 0) : Nat) : Int)]) rfl (v := iv (1 : Int)) rfl rfl sz3 (Nat.le_of_ble_eq_true rfl) ?_
   clear H; intro w7 H; simp only [Ms] at H
   simp only [N]
   refine wpList_nil ?_
   refine wp_seq ?_; refine wp_region_lend 15 [.blk b1 (.cells #[.string s, iv (1 : Int)] 127 (0, 0))] H (by intro r hr c hc; simp only [List.mem_singleton] at hr; subst hr; exact foot_blk hnb1 c hc) (by kernel_rfl) ?_
   refine wxl_tk 0 rfl (xy_run rfl (fun w H => rp_move rfl (v := .string s) rfl)) ?_
   simp only [N, M, Value.cells]
   refine wxl_tk 1 rfl (xy_run rfl (fun w H => rp_index_string rfl Tryz.underlying9 rfl 0 rfl (by omega))) ?_
   simp only [N, M, Value.cells]
   refine wxl_tk 2 rfl (xy_run rfl (fun w H => rp_u8_neq rfl (sat s 0) (114 : UInt8) rfl rfl)) ?_
   simp only [N, M, Value.cells]
   refine wxl_tk 3 rfl (xy_run rfl (fun w H => rp_move rfl (v := .bool ((sat s 0) != (114 : UInt8))) rfl)) ?_
   simp only [N, M, Value.cells]
   cases hg4 : ((sat s 0) != (114 : UInt8))
   · --false
    have hg4N : (sat s 0).toNat = 114 := u8_eq2 hg4
    refine wxl_tk 4 rfl (xy_run rfl (fun w H => rp_move rfl (v := .string s) rfl)) ?_
    simp only [N, M, Value.cells]
    refine wxl_tk 5 rfl (xy_run rfl (fun w H => rp_len_string Tryz.underlying9 rfl)) ?_
    simp only [N, M, Value.cells]
    refine wxl_tk 6 rfl (xy_run rfl (fun w H => rp_int_eql rfl (s.size : Int) (1 : Int) rfl rfl)) ?_
    simp only [N, M, Value.cells]
    refine wxl_tk 7 rfl (xy_run rfl (fun w H => rp_pickF rfl rfl (v := .bool ((s.size : Int) == (1 : Int))) rfl)) ?_
    simp only [N, M, Value.cells]
    refine wxl_tk 8 rfl (xy_run rfl (fun w H => rp_move rfl (v := .bool ((s.size : Int) == (1 : Int))) rfl)) ?_
    simp only [N, M, Value.cells]
    cases hg5 : ((s.size : Int) == (1 : Int))
    · --false
     have hg5N : (s.size : Int) ≠ (1 : Int) := by simpa using hg5
     refine wxl_tk 10 rfl (xy_run rfl (fun w H => rp_move rfl (v := .string s) rfl)) ?_
     simp only [N, M, Value.cells]
     refine wxl_tk 11 rfl (xy_run rfl (fun w H => rp_slice_str_l rfl Tryz.underlying9 rfl 1 rfl (by omega))) ?_
     simp only [N, M, Value.cells]
     refine wxl_writes 9 0 rfl rfl (by kernel_rfl) rfl (rc_go Tryz.func76 (by kernel_rfl) rfl) rfl (fun w H hb => while_spec _ _ s 1 ([]) 78 digitsP _ (by omega) (by omega) hb ⟨⟨_, _, Tryz.func78, by kernel_rfl, rfl⟩⟩ (fun c w => digits_spec c w)) ?_
     simp only [N, M, Value.cells]
     refine wxl_tk 12 rfl (xy_run rfl (fun w H => rp_str_neq rfl (s.extract 1 (spanF digitsP s 1)) (s.extract 1 (s.size)) rfl rfl)) ?_
     simp only [N, M, Value.cells]
     refine wxl_tk 13 rfl (xy_run rfl (fun w H => rp_pickF rfl rfl (v := .bool (!(decide ((s.extract 1 (spanF digitsP s 1)) = (s.extract 1 (s.size)))))) rfl)) ?_
     simp only [N, M, Value.cells]
     refine wxl_tk 14 rfl (xy_run rfl (fun w H => rp_assign rfl (v := .bool (!(decide ((s.extract 1 (spanF digitsP s 1)) = (s.extract 1 (s.size)))))) rfl)) ?_
     simp only [N, M, Value.cells]
     refine wpX_done (by kernel_rfl) ?_ _
     clear H; intro w8 H; simp only [List.cons_append, List.nil_append] at H
     refine wp_ret ?_
     try simp only [Exit.inBlock, Exit.then]
     refine bodyPost_ret (results1 rfl (rv_tmp rfl)) rfl ?_
     have HE := H.ext
     clear H
     exact ⟨by unfold nameF; simp only [hc1, hc2, hg4, hg5, Bool.false_eq_true, if_true, if_false, Bool.false_or, Bool.true_or, Bool.or_true, Bool.or_false]; try rfl, HE⟩
    · --true
     have hg5N : (s.size : Int) = (1 : Int) := by simpa using hg5
     refine wxl_tk 9 rfl (xy_skip (unwanted rfl (b := true) rfl (by decide))) ?_
     simp only [N, M, Value.cells]
     refine wxl_tk 10 rfl (xy_skip (unwanted rfl (b := true) rfl (by decide))) ?_
     simp only [N, M, Value.cells]
     refine wxl_tk 11 rfl (xy_skip (unwanted rfl (b := true) rfl (by decide))) ?_
     simp only [N, M, Value.cells]
     refine wxl_tk 12 rfl (xy_skip (unwanted rfl (b := true) rfl (by decide))) ?_
     simp only [N, M, Value.cells]
     refine wxl_tk 13 rfl (xy_run rfl (fun w H => rp_pickT rfl rfl (u := .bool true) rfl)) ?_
     simp only [N, M, Value.cells]
     refine wxl_tk 14 rfl (xy_run rfl (fun w H => rp_assign rfl (v := .bool true) rfl)) ?_
     simp only [N, M, Value.cells]
     refine wpX_done (by kernel_rfl) ?_ _
     clear H; intro w9 H; simp only [List.cons_append, List.nil_append] at H
     refine wp_ret ?_
     try simp only [Exit.inBlock, Exit.then]
     refine bodyPost_ret (results1 rfl (rv_tmp rfl)) rfl ?_
     have HE := H.ext
     clear H
     exact ⟨by unfold nameF; simp only [hc1, hc2, hg4, hg5, Bool.false_eq_true, if_true, if_false, Bool.false_or, Bool.true_or, Bool.or_true, Bool.or_false]; try rfl, HE⟩
   · --true
    have hg4N : (sat s 0).toNat ≠ 114 := u8_ne2 hg4
    refine wxl_tk 4 rfl (xy_skip (unwanted rfl (b := true) rfl (by decide))) ?_
    simp only [N, M, Value.cells]
    refine wxl_tk 5 rfl (xy_skip (unwanted rfl (b := true) rfl (by decide))) ?_
    simp only [N, M, Value.cells]
    refine wxl_tk 6 rfl (xy_skip (unwanted rfl (b := true) rfl (by decide))) ?_
    simp only [N, M, Value.cells]
    refine wxl_tk 7 rfl (xy_run rfl (fun w H => rp_pickT rfl rfl (u := .bool true) rfl)) ?_
    simp only [N, M, Value.cells]
    refine wxl_tk 8 rfl (xy_run rfl (fun w H => rp_move rfl (v := .bool true) rfl)) ?_
    simp only [N, M, Value.cells]
    refine wxl_tk 9 rfl (xy_skip (unwanted rfl (b := true) rfl (by decide))) ?_
    simp only [N, M, Value.cells]
    refine wxl_tk 10 rfl (xy_skip (unwanted rfl (b := true) rfl (by decide))) ?_
    simp only [N, M, Value.cells]
    refine wxl_tk 11 rfl (xy_skip (unwanted rfl (b := true) rfl (by decide))) ?_
    simp only [N, M, Value.cells]
    refine wxl_tk 12 rfl (xy_skip (unwanted rfl (b := true) rfl (by decide))) ?_
    simp only [N, M, Value.cells]
    refine wxl_tk 13 rfl (xy_run rfl (fun w H => rp_pickT rfl rfl (u := .bool true) rfl)) ?_
    simp only [N, M, Value.cells]
    refine wxl_tk 14 rfl (xy_run rfl (fun w H => rp_assign rfl (v := .bool true) rfl)) ?_
    simp only [N, M, Value.cells]
    refine wpX_done (by kernel_rfl) ?_ _
    clear H; intro w10 H; simp only [List.cons_append, List.nil_append] at H
    refine wp_ret ?_
    try simp only [Exit.inBlock, Exit.then]
    refine bodyPost_ret (results1 rfl (rv_tmp rfl)) rfl ?_
    have HE := H.ext
    clear H
    exact ⟨by unfold nameF; simp only [hc1, hc2, hg4, Bool.false_eq_true, if_true, if_false, Bool.false_or, Bool.true_or, Bool.or_true, Bool.or_false]; try rfl, HE⟩

end Go.Proofs.YtimonjemjhecoaaGreatDoor
