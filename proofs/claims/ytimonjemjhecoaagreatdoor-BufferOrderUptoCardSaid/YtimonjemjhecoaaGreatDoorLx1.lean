/- Walks, printed by a program of this repository (wip/tool). -/
import Derived.Test.YtimonjemjhecoaaGreatDoorCk4
import Derived.Test.YtimonjemjhecoaaGreatDoorShelf
namespace Go.Proofs.YtimonjemjhecoaaGreatDoor
open Go.RowKit
open Go
attribute [local irreducible] wpList wpQuiet wpX Code.wp
set_option maxHeartbeats 1000000
set_option maxRecDepth 100000
set_option linter.unusedSimpArgs false
set_option linter.unusedVariables false

theorem indexByte_pos (c : UInt8) : ∀ l : List UInt8, decide ((0 : Int) ≤ Lib.indexByte l c) = l.contains c
  | [] => by simp [Lib.indexByte]
  | b :: l => by
    have ih := indexByte_pos c l
    have hg := Lib.indexByte_ge l c
    simp only [Lib.indexByte, List.contains_cons]
    rw [← ih]
    by_cases h : b = c
    · subst h; simp
    · have h1 : (b == c) = false := by simpa using h
      have h2 : (c == b) = false := by simpa using fun e => h e.symm
      simp only [h1, h2, Bool.false_eq_true, if_false, Bool.false_or]
      by_cases h3 : Lib.indexByte l c = -1
      · simp [h3]
      · have h4 : (Lib.indexByte l c == -1) = false := by simpa using h3
        simp only [h4, Bool.false_eq_true, if_false]
        rw [Bool.eq_iff_iff]
        simp
        omega
def marks : List UInt8 := [61, 43, 45, 94, 38, 124, 33, 40, 41, 58, 60]
def clsF (b : UInt8) : Int :=
  if b == 32 || b == 9 then 1 else if b == 10 then 2 else if b == 35 then 6 else if b == 95 then 5 else if decide (48 ≤ b) && decide (b ≤ 57) then 4
  else if (decide (97 ≤ b) && decide (b ≤ 122)) || (decide (65 ≤ b) && decide (b ≤ 90)) then 3 else if marks.contains b then 7 else 0
theorem ofNat_toUInt8 (b : UInt8) : (b.toNat : Int).toNat.toUInt8 = b := by simp
theorem indexByte_spec (s : ByteArray) (b : UInt8) (w : World) : Calls Tryz.prog 101 #[.string s, bv b] w fun e w' => e = .returned (iv (Lib.indexByte s.data.toList b)) ∧ Ext w w' :=
  (Tryz.strings_IndexByte s (b.toNat : Int) w).mono fun e w' h => ⟨by rw [h.1, ofNat_toUInt8], by rw [h.2]; exact Ext.refl w⟩
theorem hasPrefix_spec (s p : ByteArray) (w : World) : Calls Tryz.prog 111 #[.string s, .string p] w fun e w' => e = .returned (.bool (Lib.hasPrefix s.data.toList p.data.toList)) ∧ Ext w w' :=
  (Tryz.strings_HasPrefix s p w).mono fun e w' h => ⟨h.1, by rw [h.2]; exact Ext.refl w⟩

theorem of_spec (b : UInt8) (w : World) : Calls Tryz.prog 74 #[bv b] w fun e w' => e = .returned (iv (clsF b)) ∧ Ext w w' := by
 have H := Own.start w
 go_enter Tryz.func74, Tryz.ntmps74
 refine wsr ?_
 refine wasg (iv (0 : Int)) ?_; simp only [N]
 refine wpList_nil ?_
 refine wp_seq ?_; refine wp_block ?_
 refine wp_seq ?_; refine wp_cutO H (fun a' => ∃ (u4 : Value) (u5 : Value) (u6 : Value) (u7 : Value) (u8 : Value) (u9 : Value) (r3 : Bool), r3 = (b == 32 || b == 9) ∧  a' = ⟨#[bv b, uU, iv (0 : Int), .bool r3, u4, u5, u6, u7, u8, u9, uU, uU, uU, uU, uU, uU, uU, uU, uU, uU, uU, uU, uU, uU, uU, uU, uU, uU, uU, uU, uU, uU, uU, uU, uU, uU, uU, uU, uU, uU, uU, uU, uU, uU, uU], []⟩) ?_ ?_
 ·
  refine wp_region_lit ?_; refine wmv (bv b) ?_; simp only [N]
  refine wr (rp_u8_eql rfl b (32 : UInt8) rfl rfl) ?_; simp only [N]
  refine wmv (.bool (b == (32 : UInt8))) ?_; simp only [N]
  cases hg1 : (b == (32 : UInt8))
  · --false
   have hg1N : b.toNat ≠ 32 := u8_ne hg1
   refine wmv (bv b) ?_; simp only [N]
   refine wr (rp_u8_eql rfl b (9 : UInt8) rfl rfl) ?_; simp only [N]
   refine wr (rp_pickF rfl rfl (v := .bool (b == (9 : UInt8))) rfl) ?_; simp only [N]
   refine wasg (.bool (b == (9 : UInt8))) ?_; simp only [N]
   refine wpList_nil ?_
   refine ⟨rfl, ⟨_, _, _, _, _, _, (b == (9 : UInt8)), (by simp_all), rfl⟩, H⟩
  · --true
   have hg1N : b.toNat = 32 := u8_eq hg1
   refine wskt ?_; simp only [N]
   refine wskt ?_; simp only [N]
   refine wr (rp_pickT rfl rfl (u := .bool true) rfl) ?_; simp only [N]
   refine wasg (.bool true) ?_; simp only [N]
   refine wpList_nil ?_
   refine ⟨rfl, ⟨_, _, _, _, _, _, true, (by simp_all), rfl⟩, H⟩
 clear H
 rintro _ w1 ⟨u4, u5, u6, u7, u8, u9, _, rfl, rfl⟩ H
 refine wp_cond_split rfl (fun hc1 => ?_) (fun hc1 => ?_)
 · --T 1
  refine wsr ?_
  refine wasg (iv (1 : Int)) ?_; simp only [N]
  refine wpList_nil ?_
  refine wp_ret ?_
  try simp only [Exit.inBlock, Exit.then]
  refine bodyPost_ret (results1 rfl (rv_tmp rfl)) rfl ?_
  have HE := H.ext
  clear H
  exact ⟨by unfold clsF; simp only [*, Bool.false_eq_true, if_true, if_false]; try rfl, HE⟩
 · --F 1
  refine wsr ?_
  refine wmv (bv b) ?_; simp only [N]
  refine wr (rp_u8_eql rfl b (10 : UInt8) rfl rfl) ?_; simp only [N]
  refine wasg (.bool (b == (10 : UInt8))) ?_; simp only [N]
  refine wpList_nil ?_
  refine wp_cond_split rfl (fun hc2 => ?_) (fun hc2 => ?_)
  · --T 2
   have hc2N : b.toNat = 10 := u8_eq hc2
   refine wsr ?_
   refine wasg (iv (2 : Int)) ?_; simp only [N]
   refine wpList_nil ?_
   refine wp_ret ?_
   try simp only [Exit.inBlock, Exit.then]
   refine bodyPost_ret (results1 rfl (rv_tmp rfl)) rfl ?_
   have HE := H.ext
   clear H
   exact ⟨by unfold clsF; simp only [*, Bool.false_eq_true, if_true, if_false]; try rfl, HE⟩
  · --F 2
   have hc2N : b.toNat ≠ 10 := u8_ne hc2
   refine wsr ?_
   refine wmv (bv b) ?_; simp only [N]
   refine wr (rp_u8_eql rfl b (35 : UInt8) rfl rfl) ?_; simp only [N]
   refine wasg (.bool (b == (35 : UInt8))) ?_; simp only [N]
   refine wpList_nil ?_
   refine wp_cond_split rfl (fun hc3 => ?_) (fun hc3 => ?_)
   · --T 3
    have hc3N : b.toNat = 35 := u8_eq hc3
    refine wsr ?_
    refine wasg (iv (6 : Int)) ?_; simp only [N]
    refine wpList_nil ?_
    refine wp_ret ?_
    try simp only [Exit.inBlock, Exit.then]
    refine bodyPost_ret (results1 rfl (rv_tmp rfl)) rfl ?_
    have HE := H.ext
    clear H
    exact ⟨by unfold clsF; simp only [*, Bool.false_eq_true, if_true, if_false]; try rfl, HE⟩
   · --F 3
    have hc3N : b.toNat ≠ 35 := u8_ne hc3
    refine wsr ?_
    refine wmv (bv b) ?_; simp only [N]
    refine wr (rp_u8_eql rfl b (95 : UInt8) rfl rfl) ?_; simp only [N]
    refine wasg (.bool (b == (95 : UInt8))) ?_; simp only [N]
    refine wpList_nil ?_
    refine wp_cond_split rfl (fun hc4 => ?_) (fun hc4 => ?_)
    · --T 4
     have hc4N : b.toNat = 95 := u8_eq hc4
     refine wsr ?_
     refine wasg (iv (5 : Int)) ?_; simp only [N]
     refine wpList_nil ?_
     refine wp_ret ?_
     try simp only [Exit.inBlock, Exit.then]
     refine bodyPost_ret (results1 rfl (rv_tmp rfl)) rfl ?_
     have HE := H.ext
     clear H
     exact ⟨by unfold clsF; simp only [*, Bool.false_eq_true, if_true, if_false]; try rfl, HE⟩
    · --F 4
     have hc4N : b.toNat ≠ 95 := u8_ne hc4
     refine wp_seq ?_; refine wp_cutO H (fun a' => ∃ (u20 : Value) (u21 : Value) (u22 : Value) (u23 : Value) (u24 : Value) (u25 : Value) (r19 : Bool), r19 = (decide (48 ≤ b) && decide (b ≤ 57)) ∧  a' = ⟨#[bv b, uU, iv (0 : Int), .bool (b == 32 || b == 9), u4, u5, u6, u7, u8, u9, .bool (b == (10 : UInt8)), bv b, .bool (b == (10 : UInt8)), .bool (b == (35 : UInt8)), bv b, .bool (b == (35 : UInt8)), .bool (b == (95 : UInt8)), bv b, .bool (b == (95 : UInt8)), .bool r19, u20, u21, u22, u23, u24, u25, uU, uU, uU, uU, uU, uU, uU, uU, uU, uU, uU, uU, uU, uU, uU, uU, uU, uU, uU], []⟩) ?_ ?_
     ·
      refine wp_region_lit ?_; refine wmv (bv b) ?_; simp only [N]
      refine wr (rp_u8_geq rfl b (48 : UInt8) rfl rfl) ?_; simp only [N]
      refine wmv (.bool (decide ((48 : UInt8) ≤ b))) ?_; simp only [N]
      cases hg2 : (decide ((48 : UInt8) ≤ b))
      · --false
       have hg2N : b.toNat < 48 := u8_gt hg2
       refine wskf ?_; simp only [N]
       refine wskf ?_; simp only [N]
       refine wr (rp_pickF rfl rfl (v := .bool false) rfl) ?_; simp only [N]
       refine wasg (.bool false) ?_; simp only [N]
       refine wpList_nil ?_
       refine ⟨rfl, ⟨_, _, _, _, _, _, false, (by simp_all), rfl⟩, H⟩
      · --true
       have hg2N : 48 ≤ b.toNat := u8_le hg2
       refine wmv (bv b) ?_; simp only [N]
       refine wr (rp_u8_leq rfl b (57 : UInt8) rfl rfl) ?_; simp only [N]
       refine wr (rp_pickT rfl rfl (u := .bool (decide (b ≤ (57 : UInt8)))) rfl) ?_; simp only [N]
       refine wasg (.bool (decide (b ≤ (57 : UInt8)))) ?_; simp only [N]
       refine wpList_nil ?_
       refine ⟨rfl, ⟨_, _, _, _, _, _, (decide (b ≤ (57 : UInt8))), (by simp_all), rfl⟩, H⟩
     clear H
     rintro _ w2 ⟨u20, u21, u22, u23, u24, u25, _, rfl, rfl⟩ H
     refine wp_cond_split rfl (fun hc5 => ?_) (fun hc5 => ?_)
     · --T 5
      refine wsr ?_
      refine wasg (iv (4 : Int)) ?_; simp only [N]
      refine wpList_nil ?_
      refine wp_ret ?_
      try simp only [Exit.inBlock, Exit.then]
      refine bodyPost_ret (results1 rfl (rv_tmp rfl)) rfl ?_
      have HE := H.ext
      clear H
      exact ⟨by unfold clsF; simp only [*, Bool.false_eq_true, if_true, if_false]; try rfl, HE⟩
     · --F 5
      refine wp_seq ?_; refine wp_cutO H (fun a' => ∃ (u27 : Value) (u28 : Value) (u29 : Value) (u30 : Value) (u31 : Value) (u32 : Value) (u33 : Value) (u34 : Value) (u35 : Value) (u36 : Value) (u37 : Value) (u38 : Value) (u39 : Value) (u40 : Value) (r26 : Bool), r26 = ((decide (97 ≤ b) && decide (b ≤ 122)) || (decide (65 ≤ b) && decide (b ≤ 90))) ∧  a' = ⟨#[bv b, uU, iv (0 : Int), .bool (b == 32 || b == 9), u4, u5, u6, u7, u8, u9, .bool (b == (10 : UInt8)), bv b, .bool (b == (10 : UInt8)), .bool (b == (35 : UInt8)), bv b, .bool (b == (35 : UInt8)), .bool (b == (95 : UInt8)), bv b, .bool (b == (95 : UInt8)), .bool (decide (48 ≤ b) && decide (b ≤ 57)), u20, u21, u22, u23, u24, u25, .bool r26, u27, u28, u29, u30, u31, u32, u33, u34, u35, u36, u37, u38, u39, u40, uU, uU, uU, uU], []⟩) ?_ ?_
      ·
       refine wp_region_lit ?_; refine wmv (bv b) ?_; simp only [N]
       refine wr (rp_u8_geq rfl b (97 : UInt8) rfl rfl) ?_; simp only [N]
       refine wmv (.bool (decide ((97 : UInt8) ≤ b))) ?_; simp only [N]
       cases hg3 : (decide ((97 : UInt8) ≤ b))
       · --false
        have hg3N : b.toNat < 97 := u8_gt hg3
        refine wskf ?_; simp only [N]
        refine wskf ?_; simp only [N]
        refine wr (rp_pickF rfl rfl (v := .bool false) rfl) ?_; simp only [N]
        refine wmv (.bool false) ?_; simp only [N]
        refine wmv (bv b) ?_; simp only [N]
        refine wr (rp_u8_geq rfl b (65 : UInt8) rfl rfl) ?_; simp only [N]
        refine wmv (.bool (decide ((65 : UInt8) ≤ b))) ?_; simp only [N]
        cases hg4 : (decide ((65 : UInt8) ≤ b))
        · --false
         have hg4N : b.toNat < 65 := u8_gt hg4
         refine wskf ?_; simp only [N]
         refine wskf ?_; simp only [N]
         refine wr (rp_pickF rfl rfl (v := .bool false) rfl) ?_; simp only [N]
         refine wr (rp_pickF rfl rfl (v := .bool false) rfl) ?_; simp only [N]
         refine wasg (.bool false) ?_; simp only [N]
         refine wpList_nil ?_
         refine ⟨rfl, ⟨_, _, _, _, _, _, _, _, _, _, _, _, _, _, false, (by simp_all), rfl⟩, H⟩
        · --true
         have hg4N : 65 ≤ b.toNat := u8_le hg4
         refine wmv (bv b) ?_; simp only [N]
         refine wr (rp_u8_leq rfl b (90 : UInt8) rfl rfl) ?_; simp only [N]
         refine wr (rp_pickT rfl rfl (u := .bool (decide (b ≤ (90 : UInt8)))) rfl) ?_; simp only [N]
         refine wr (rp_pickF rfl rfl (v := .bool (decide (b ≤ (90 : UInt8)))) rfl) ?_; simp only [N]
         refine wasg (.bool (decide (b ≤ (90 : UInt8)))) ?_; simp only [N]
         refine wpList_nil ?_
         refine ⟨rfl, ⟨_, _, _, _, _, _, _, _, _, _, _, _, _, _, (decide (b ≤ (90 : UInt8))), (by simp_all), rfl⟩, H⟩
       · --true
        have hg3N : 97 ≤ b.toNat := u8_le hg3
        refine wmv (bv b) ?_; simp only [N]
        refine wr (rp_u8_leq rfl b (122 : UInt8) rfl rfl) ?_; simp only [N]
        refine wr (rp_pickT rfl rfl (u := .bool (decide (b ≤ (122 : UInt8)))) rfl) ?_; simp only [N]
        refine wmv (.bool (decide (b ≤ (122 : UInt8)))) ?_; simp only [N]
        cases hg5 : (decide (b ≤ (122 : UInt8)))
        · --false
         have hg5N : 122 < b.toNat := u8_gt hg5
         refine wmv (bv b) ?_; simp only [N]
         refine wr (rp_u8_geq rfl b (65 : UInt8) rfl rfl) ?_; simp only [N]
         refine wmv (.bool (decide ((65 : UInt8) ≤ b))) ?_; simp only [N]
         cases hg6 : (decide ((65 : UInt8) ≤ b))
         · --false
          have hg6N : b.toNat < 65 := u8_gt hg6
          refine wskf ?_; simp only [N]
          refine wskf ?_; simp only [N]
          refine wr (rp_pickF rfl rfl (v := .bool false) rfl) ?_; simp only [N]
          refine wr (rp_pickF rfl rfl (v := .bool false) rfl) ?_; simp only [N]
          refine wasg (.bool false) ?_; simp only [N]
          refine wpList_nil ?_
          refine ⟨rfl, ⟨_, _, _, _, _, _, _, _, _, _, _, _, _, _, false, (by simp_all), rfl⟩, H⟩
         · --true
          have hg6N : 65 ≤ b.toNat := u8_le hg6
          refine wmv (bv b) ?_; simp only [N]
          refine wr (rp_u8_leq rfl b (90 : UInt8) rfl rfl) ?_; simp only [N]
          refine wr (rp_pickT rfl rfl (u := .bool (decide (b ≤ (90 : UInt8)))) rfl) ?_; simp only [N]
          refine wr (rp_pickF rfl rfl (v := .bool (decide (b ≤ (90 : UInt8)))) rfl) ?_; simp only [N]
          refine wasg (.bool (decide (b ≤ (90 : UInt8)))) ?_; simp only [N]
          refine wpList_nil ?_
          refine ⟨rfl, ⟨_, _, _, _, _, _, _, _, _, _, _, _, _, _, (decide (b ≤ (90 : UInt8))), (by simp_all), rfl⟩, H⟩
        · --true
         have hg5N : b.toNat ≤ 122 := u8_le hg5
         refine wskt ?_; simp only [N]
         refine wskt ?_; simp only [N]
         refine wskt ?_; simp only [N]
         refine wl_skip (unwanted0 rfl rfl) ?_; simp only [N]
         refine wl_skip (unwanted0 rfl rfl) ?_; simp only [N]
         refine wskt ?_; simp only [N]
         refine wr (rp_pickT rfl rfl (u := .bool true) rfl) ?_; simp only [N]
         refine wasg (.bool true) ?_; simp only [N]
         refine wpList_nil ?_
         refine ⟨rfl, ⟨_, _, _, _, _, _, _, _, _, _, _, _, _, _, true, (by simp_all), rfl⟩, H⟩
      clear H
      rintro _ w3 ⟨u27, u28, u29, u30, u31, u32, u33, u34, u35, u36, u37, u38, u39, u40, _, rfl, rfl⟩ H
      refine wp_cond_split rfl (fun hc6 => ?_) (fun hc6 => ?_)
      · --T 6
       refine wsr ?_
       refine wasg (iv (3 : Int)) ?_; simp only [N]
       refine wpList_nil ?_
       refine wp_ret ?_
       try simp only [Exit.inBlock, Exit.then]
       refine bodyPost_ret (results1 rfl (rv_tmp rfl)) rfl ?_
       have HE := H.ext
       clear H
       exact ⟨by unfold clsF; simp only [*, Bool.false_eq_true, if_true, if_false]; try rfl, HE⟩
      · --F 6
       refine wp_seq ?_; refine wp_cutO H (fun a' => ∃ (u42 : Value) (u43 : Value) (u44 : Value) (r41 : Bool), r41 = (marks.contains b) ∧  a' = ⟨#[bv b, uU, iv (0 : Int), .bool (b == 32 || b == 9), u4, u5, u6, u7, u8, u9, .bool (b == (10 : UInt8)), bv b, .bool (b == (10 : UInt8)), .bool (b == (35 : UInt8)), bv b, .bool (b == (35 : UInt8)), .bool (b == (95 : UInt8)), bv b, .bool (b == (95 : UInt8)), .bool (decide (48 ≤ b) && decide (b ≤ 57)), u20, u21, u22, u23, u24, u25, .bool ((decide (97 ≤ b) && decide (b ≤ 122)) || (decide (65 ≤ b) && decide (b ≤ 90))), u27, u28, u29, u30, u31, u32, u33, u34, u35, u36, u37, u38, u39, u40, .bool r41, u42, u43, u44], []⟩) ?_ ?_
       ·
        refine wp_region_lit ?_; refine wmv (bv b) ?_; simp only [N]
        refine wl_callE H rfl (rc_go Tryz.func101 (by kernel_rfl) rfl) (indexByte_spec (⟨#[61, 43, 45, 94, 38, 124, 33, 40, 41, 58, 60]⟩ : ByteArray) b _) ?_
        clear H; intro w4 H
        simp only [N]
        refine wr (rp_int_geq rfl (Lib.indexByte (⟨#[61, 43, 45, 94, 38, 124, 33, 40, 41, 58, 60]⟩ : ByteArray).data.toList b) (0 : Int) rfl rfl) ?_; simp only [N]
        refine wasg (.bool (decide ((0 : Int) ≤ (Lib.indexByte (⟨#[61, 43, 45, 94, 38, 124, 33, 40, 41, 58, 60]⟩ : ByteArray).data.toList b)))) ?_; simp only [N]
        refine wpList_nil ?_
        refine ⟨rfl, ⟨_, _, _, (decide ((0 : Int) ≤ (Lib.indexByte (⟨#[61, 43, 45, 94, 38, 124, 33, 40, 41, 58, 60]⟩ : ByteArray).data.toList b))), (by exact indexByte_pos b marks), rfl⟩, H⟩
       clear H
       rintro _ w5 ⟨u42, u43, u44, _, rfl, rfl⟩ H
       refine wp_cond_split rfl (fun hc7 => ?_) (fun hc7 => ?_)
       · --T 7
        refine wsr ?_
        refine wasg (iv (7 : Int)) ?_; simp only [N]
        refine wpList_nil ?_
        refine wp_ret ?_
        try simp only [Exit.inBlock, Exit.then]
        refine bodyPost_ret (results1 rfl (rv_tmp rfl)) rfl ?_
        have HE := H.ext
        clear H
        exact ⟨by unfold clsF; simp only [*, Bool.false_eq_true, if_true, if_false]; try rfl, HE⟩
       · --F 7
        refine wp_skip ?_
        refine wsr ?_
        refine wasg (iv (0 : Int)) ?_; simp only [N]
        refine wpList_nil ?_
        refine wp_ret ?_
        try simp only [Exit.inBlock, Exit.then]
        refine bodyPost_ret (results1 rfl (rv_tmp rfl)) rfl ?_
        have HE := H.ext
        clear H
        exact ⟨by unfold clsF; simp only [*, Bool.false_eq_true, if_true, if_false]; try rfl, HE⟩

def blanksP (c : Int) : Bool := c == 1

theorem blanks_spec (c : Int) (w : World) : Calls Tryz.prog 104 #[iv c] w fun e w' => e = .returned (.bool (blanksP c)) ∧ Ext w w' := by
 have H := Own.start w
 go_enter Tryz.func104, Tryz.ntmps104
 refine wsr ?_
 refine wasg (.bool false) ?_; simp only [N]
 refine wnr ?_
 refine wmv (iv c) ?_; simp only [N]
 refine wr (rp_int_eql rfl c (1 : Int) rfl rfl) ?_; simp only [N]
 refine wasg (.bool (c == (1 : Int))) ?_; simp only [N]
 refine wpList_nil ?_
 refine wp_ret ?_
 try simp only [Exit.inBlock, Exit.then]
 refine bodyPost_ret (results1 rfl (rv_tmp rfl)) rfl ?_
 exact ⟨by simp_all [blanksP], H.ext⟩

def wordP (c : Int) : Bool := c == 3 || c == 4 || c == 5

theorem word_spec (c : Int) (w : World) : Calls Tryz.prog 77 #[iv c] w fun e w' => e = .returned (.bool (wordP c)) ∧ Ext w w' := by
 have H := Own.start w
 go_enter Tryz.func77, Tryz.ntmps77
 refine wsr ?_
 refine wasg (.bool false) ?_; simp only [N]
 refine wnr ?_
 refine wmv (iv c) ?_; simp only [N]
 refine wr (rp_int_eql rfl c (3 : Int) rfl rfl) ?_; simp only [N]
 refine wmv (.bool (c == (3 : Int))) ?_; simp only [N]
 cases hg1 : (c == (3 : Int))
 · --false
  have hg1N : c ≠ (3 : Int) := by simpa using hg1
  refine wmv (iv c) ?_; simp only [N]
  refine wr (rp_int_eql rfl c (4 : Int) rfl rfl) ?_; simp only [N]
  refine wr (rp_pickF rfl rfl (v := .bool (c == (4 : Int))) rfl) ?_; simp only [N]
  refine wmv (.bool (c == (4 : Int))) ?_; simp only [N]
  cases hg2 : (c == (4 : Int))
  · --false
   have hg2N : c ≠ (4 : Int) := by simpa using hg2
   refine wmv (iv c) ?_; simp only [N]
   refine wr (rp_int_eql rfl c (5 : Int) rfl rfl) ?_; simp only [N]
   refine wr (rp_pickF rfl rfl (v := .bool (c == (5 : Int))) rfl) ?_; simp only [N]
   refine wasg (.bool (c == (5 : Int))) ?_; simp only [N]
   refine wpList_nil ?_
   refine wp_ret ?_
   try simp only [Exit.inBlock, Exit.then]
   refine bodyPost_ret (results1 rfl (rv_tmp rfl)) rfl ?_
   exact ⟨by simp_all [wordP], H.ext⟩
  · --true
   have hg2N : c = (4 : Int) := by simpa using hg2
   refine wskt ?_; simp only [N]
   refine wskt ?_; simp only [N]
   refine wr (rp_pickT rfl rfl (u := .bool true) rfl) ?_; simp only [N]
   refine wasg (.bool true) ?_; simp only [N]
   refine wpList_nil ?_
   refine wp_ret ?_
   try simp only [Exit.inBlock, Exit.then]
   refine bodyPost_ret (results1 rfl (rv_tmp rfl)) rfl ?_
   exact ⟨by simp_all [wordP], H.ext⟩
 · --true
  have hg1N : c = (3 : Int) := by simpa using hg1
  refine wskt ?_; simp only [N]
  refine wskt ?_; simp only [N]
  refine wr (rp_pickT rfl rfl (u := .bool true) rfl) ?_; simp only [N]
  refine wmv (.bool true) ?_; simp only [N]
  refine wskt ?_; simp only [N]
  refine wskt ?_; simp only [N]
  refine wr (rp_pickT rfl rfl (u := .bool true) rfl) ?_; simp only [N]
  refine wasg (.bool true) ?_; simp only [N]
  refine wpList_nil ?_
  refine wp_ret ?_
  try simp only [Exit.inBlock, Exit.then]
  refine bodyPost_ret (results1 rfl (rv_tmp rfl)) rfl ?_
  exact ⟨by simp_all [wordP], H.ext⟩

def digitsP (c : Int) : Bool := c == 4

theorem digits_spec (c : Int) (w : World) : Calls Tryz.prog 78 #[iv c] w fun e w' => e = .returned (.bool (digitsP c)) ∧ Ext w w' := by
 have H := Own.start w
 go_enter Tryz.func78, Tryz.ntmps78
 refine wsr ?_
 refine wasg (.bool false) ?_; simp only [N]
 refine wnr ?_
 refine wmv (iv c) ?_; simp only [N]
 refine wr (rp_int_eql rfl c (4 : Int) rfl rfl) ?_; simp only [N]
 refine wasg (.bool (c == (4 : Int))) ?_; simp only [N]
 refine wpList_nil ?_
 refine wp_ret ?_
 try simp only [Exit.inBlock, Exit.then]
 refine bodyPost_ret (results1 rfl (rv_tmp rfl)) rfl ?_
 exact ⟨by simp_all [digitsP], H.ext⟩

def remarkP (c : Int) : Bool := c != 2

theorem remark_spec (c : Int) (w : World) : Calls Tryz.prog 105 #[iv c] w fun e w' => e = .returned (.bool (remarkP c)) ∧ Ext w w' := by
 have H := Own.start w
 go_enter Tryz.func105, Tryz.ntmps105
 refine wsr ?_
 refine wasg (.bool false) ?_; simp only [N]
 refine wnr ?_
 refine wmv (iv c) ?_; simp only [N]
 refine wr (rp_int_neq rfl c (2 : Int) rfl rfl) ?_; simp only [N]
 refine wasg (.bool (c != (2 : Int))) ?_; simp only [N]
 refine wpList_nil ?_
 refine wp_ret ?_
 try simp only [Exit.inBlock, Exit.then]
 refine bodyPost_ret (results1 rfl (rv_tmp rfl)) rfl ?_
 exact ⟨by simp_all [remarkP], H.ext⟩

def spanF (p : Int → Bool) (s : ByteArray) (at' : Nat) : Nat := at' + ((s.data.toList.drop at').takeWhile (fun b => p (clsF b))).length
theorem takeWhile_len (q : UInt8 → Bool) : ∀ (l : List UInt8) (n : Nat), n ≤ l.length → (∀ j, j < n → q (l.getD j 0) = true) → (n = l.length ∨ q (l.getD n 0) = false) → (l.takeWhile q).length = n
  | [], n, h, _, _ => by simp at h; simp [h]
  | x :: l, 0, _, _, h => by
    rcases h with h | h
    · simp at h
    · simp only [List.getD_cons_zero] at h
      simp [h]
  | x :: l, n + 1, hn, hj, h => by
    have h0 := hj 0 (by omega)
    simp only [List.getD_cons_zero] at h0
    simp only [List.takeWhile_cons, h0, if_true, List.length_cons]
    rw [takeWhile_len q l n (by simpa using hn) (fun j hjn => by have := hj (j + 1) (by omega); simpa using this) (by simpa using h)]
theorem sat_eq (s : ByteArray) (k : Nat) : sat s k = s.data.toList.getD k 0 := by
  obtain ⟨⟨l⟩⟩ := s
  simp [sat, Array.getD, List.getD]
  split <;> simp_all
theorem spanF_at {p : Int → Bool} {s : ByteArray} {a k : Nat} (h1 : a ≤ k) (h2 : k ≤ s.size) (h3 : ∀ j, a ≤ j → j < k → p (clsF (sat s j)) = true) (h4 : k = s.size ∨ p (clsF (sat s k)) = false) : spanF p s a = k := by
  have hl : s.data.toList.length = s.size := by obtain ⟨⟨l⟩⟩ := s; rfl
  unfold spanF
  rw [takeWhile_len (fun b => p (clsF b)) _ (k - a) (by simp; omega)]
  · omega
  · intro j hj
    have := h3 (a + j) (by omega) (by omega)
    rw [sat_eq] at this
    simpa [List.getD, List.getElem?_drop] using this
  · rcases h4 with h4 | h4
    · left; simp; omega
    · right
      rw [sat_eq] at h4
      have e : a + (k - a) = k := by omega
      simpa [List.getD, List.getElem?_drop, e] using h4
theorem spanF_le {p : Int → Bool} {s : ByteArray} {a : Nat} (h : a ≤ s.size) : a ≤ spanF p s a ∧ spanF p s a ≤ s.size := by
  have hl : s.data.toList.length = s.size := by obtain ⟨⟨l⟩⟩ := s; rfl
  have := (List.takeWhile_sublist (fun b => p (clsF b)) (l := s.data.toList.drop a)).length_le
  simp only [List.length_drop] at this
  unfold spanF
  omega

theorem while_spec (b T : Nat) (s : ByteArray) (a : Nat) (rest : List Value) (f : Nat) (p : Int → Bool) (w : World) (ha : a ≤ s.size) (hs : s.size ≤ 140737488355328) (hb : w.heap[b]? = some (.cells (.string s :: iv (a : Int) :: rest).toArray T (0, 0)))
    (hf : IsFn Tryz.prog f) (hc : ∀ c w', Calls Tryz.prog f #[iv c] w' fun e w'' => e = .returned (.bool (p c)) ∧ Ext w' w'') :
    Calls Tryz.prog 76 #[.pointer (some ⟨b, 0, none⟩), .func (.func f) #[] #[]] w fun e w' => e = .returned (.string (s.extract a (spanF p s a))) ∧ Chg [b] w w' ∧ w'.heap[b]? = some (.cells (.string s :: iv (spanF p s a : Nat) :: rest).toArray T (0, 0)) := by
 have H := Own.borrow hb
 go_enter Tryz.func76, Tryz.ntmps76
 refine wsr ?_
 refine wasg (.string (⟨#[]⟩ : ByteArray)) ?_; simp only [N]
 refine wnr ?_
 refine wmv (.pointer (some ⟨b, 0, none⟩)) ?_; simp only [N]
 refine wr (rp_nilCheck rfl rfl) ?_; simp only [N]
 refine wr (rp_fieldAddr rfl Tryz.underlying127 rfl 1 rfl sz3 rfl 1 rfl) ?_; simp only [N]
 refine wr (rp_load1 H 0 rfl rfl rfl Tryz.underlying3 rfl (v := iv (a : Int)) rfl) ?_; simp only [N]
 refine wasg (iv (a : Int)) ?_; simp only [N]
 refine wpList_nil ?_
 refine wp_seq ?_; refine wp_block ?_
 refine wp_loopX (fun m' a' w' => ∃ (k : Nat) (u10 u11 u12 u13 u14 u15 u16 u17 u18 u19 u20 u21 u22 u23 u24 u25 u26 u27 u28 u29 u30 u31 u32 u33 u34 u35 u36 u37 u38 u39 u40 : Value), a' = ⟨#[.pointer (some ⟨b, 0, none⟩), .func (.func f) [].toArray [].toArray, uU, uU, .string (⟨#[]⟩ : ByteArray), iv (a : Int), .pointer (some ⟨b, 0, none⟩), .pointer (some ⟨b, 0, none⟩), .pointer (some ⟨b, 1, none⟩), iv (a : Int), u10, u11, u12, u13, u14, u15, u16, u17, u18, u19, u20, u21, u22, u23, u24, u25, u26, u27, u28, u29, u30, u31, u32, u33, u34, u35, u36, u37, u38, u39, u40, uU, uU, uU, uU, uU, uU, uU, uU, uU, uU], []⟩ ∧ Own w [b] [] [.blk b (.cells (.string s :: iv (k : Int) :: rest).toArray T (0, 0))] w' ∧ (a ≤ k) ∧ (k ≤ s.size) ∧ (∀ j, a ≤ j → j < k → p (clsF (sat s j)) = true) ∧ m' = s.size - k) _ ⟨a, _, _, _, _, _, _, _, _, _, _, _, _, _, _, _, _, _, _, _, _, _, _, _, _, _, _, _, _, _, _, _, rfl, H, (by omega), (by omega), (by intro j h1 h2; omega), rfl⟩ ?_
 clear H
 rintro _ _ w1 ⟨k, u10, u11, u12, u13, u14, u15, u16, u17, u18, u19, u20, u21, u22, u23, u24, u25, u26, u27, u28, u29, u30, u31, u32, u33, u34, u35, u36, u37, u38, u39, u40, rfl, H, hi1_0, hi1_1, hi1_2, rfl⟩
 refine wp_seq ?_; refine wp_seq ?_; refine wp_region_own H (by kernel_rfl) (by kernel_rfl) ?_
 refine wq_run rfl (fun w H => rp_move rfl (v := .pointer (some ⟨b, 0, none⟩)) rfl) ?_; simp only [N]
 refine wq_run rfl (fun w H => rp_nilCheck rfl rfl) ?_; simp only [N]
 refine wq_run rfl (fun w H => rp_fieldAddr rfl Tryz.underlying127 rfl 1 rfl sz3 rfl 1 rfl) ?_; simp only [N]
 refine wq_run rfl (fun w H => rp_load1 H 0 rfl rfl rfl Tryz.underlying3 rfl (v := iv (k : Int)) rfl) ?_; simp only [N]
 refine wq_run rfl (fun w H => rp_move rfl (v := .pointer (some ⟨b, 0, none⟩)) rfl) ?_; simp only [N]
 refine wq_run rfl (fun w H => rp_nilCheck rfl rfl) ?_; simp only [N]
 refine wq_run rfl (fun w H => rp_fieldAddr rfl Tryz.underlying127 rfl 0 rfl sz9 rfl 0 rfl) ?_; simp only [N]
 refine wq_run rfl (fun w H => rp_load1 H 0 rfl rfl rfl Tryz.underlying9 rfl (v := .string s) rfl) ?_; simp only [N]
 refine wq_run rfl (fun w H => rp_len_string Tryz.underlying9 rfl) ?_; simp only [N]
 refine wq_run rfl (fun w H => rp_int_lss rfl (k : Int) (s.size : Int) rfl rfl) ?_; simp only [N]
 refine wq_run rfl (fun w H => rp_move rfl (v := .bool (decide ((k : Int) < (s.size : Int)))) rfl) ?_; simp only [N]
 cases hg1 : (decide ((k : Int) < (s.size : Int)))
 · --false
  have hg1N : (s.size : Int) ≤ (k : Int) := by simpa using hg1
  refine wq_skip (unwanted rfl (b := false) rfl (by decide)) ?_; simp only [N]
  refine wq_skip (unwanted rfl (b := false) rfl (by decide)) ?_; simp only [N]
  refine wq_skip (unwanted rfl (b := false) rfl (by decide)) ?_; simp only [N]
  refine wq_skip (unwanted rfl (b := false) rfl (by decide)) ?_; simp only [N]
  refine wq_skip (unwanted rfl (b := false) rfl (by decide)) ?_; simp only [N]
  refine wq_skip (unwanted rfl (b := false) rfl (by decide)) ?_; simp only [N]
  refine wq_skip (unwanted rfl (b := false) rfl (by decide)) ?_; simp only [N]
  refine wq_skip (unwanted rfl (b := false) rfl (by decide)) ?_; simp only [N]
  refine wq_skip (unwanted rfl (b := false) rfl (by decide)) ?_; simp only [N]
  refine wq_skip (unwanted rfl (b := false) rfl (by decide)) ?_; simp only [N]
  refine wq_skip (unwanted rfl (b := false) rfl (by decide)) ?_; simp only [N]
  refine wq_skip (unwanted rfl (b := false) rfl (by decide)) ?_; simp only [N]
  refine wq_run rfl (fun w H => rp_pickF rfl rfl (v := .bool false) rfl) ?_; simp only [N]
  refine wq_nil ?_
  clear H; intro w2 H
  refine wp_cond_false rfl ?_
  refine wp_exit ?_
  refine wp_seq ?_; refine wp_region_own H (by kernel_rfl) (by kernel_rfl) ?_
  refine wq_run rfl (fun w H => rp_move rfl (v := .pointer (some ⟨b, 0, none⟩)) rfl) ?_; simp only [N]
  refine wq_run rfl (fun w H => rp_nilCheck rfl rfl) ?_; simp only [N]
  refine wq_run rfl (fun w H => rp_fieldAddr rfl Tryz.underlying127 rfl 0 rfl sz9 rfl 0 rfl) ?_; simp only [N]
  refine wq_run rfl (fun w H => rp_load1 H 0 rfl rfl rfl Tryz.underlying9 rfl (v := .string s) rfl) ?_; simp only [N]
  refine wq_run rfl (fun w H => rp_move rfl (v := iv (a : Int)) rfl) ?_; simp only [N]
  refine wq_run rfl (fun w H => rp_move rfl (v := .pointer (some ⟨b, 0, none⟩)) rfl) ?_; simp only [N]
  refine wq_run rfl (fun w H => rp_nilCheck rfl rfl) ?_; simp only [N]
  refine wq_run rfl (fun w H => rp_fieldAddr rfl Tryz.underlying127 rfl 1 rfl sz3 rfl 1 rfl) ?_; simp only [N]
  refine wq_run rfl (fun w H => rp_load1 H 0 rfl rfl rfl Tryz.underlying3 rfl (v := iv (k : Int)) rfl) ?_; simp only [N]
  refine wq_run rfl (fun w H => rp_slice_str_lh rfl Tryz.underlying9 rfl a rfl k rfl (by omega)) ?_; simp only [N]
  refine wq_run rfl (fun w H => rp_assign rfl (v := .string (s.extract a k)) rfl) ?_; simp only [N]
  refine wq_nil ?_
  clear H; intro w3 H
  refine wp_ret ?_
  try simp only [Exit.inBlock, Exit.then]
  refine bodyPost_ret (results1 rfl (rv_tmp rfl)) rfl ?_
  have e1 : spanF p s a = k := spanF_at hi1_0 hi1_1 hi1_2 (by first | exact .inl (by omega) | exact .inr (by assumption))
  exact ⟨by rw [e1]; rfl, H.chg, by rw [e1]; exact H.blk (i := 0) rfl⟩
 · --true
  have hg1N : (k : Int) < (s.size : Int) := by simpa using hg1
  refine wq_run rfl (fun w H => rp_move rfl (v := .func (.func f) [].toArray [].toArray) rfl) ?_; simp only [N]
  refine wq_run rfl (fun w H => rp_move rfl (v := .pointer (some ⟨b, 0, none⟩)) rfl) ?_; simp only [N]
  refine wq_run rfl (fun w H => rp_nilCheck rfl rfl) ?_; simp only [N]
  refine wq_run rfl (fun w H => rp_fieldAddr rfl Tryz.underlying127 rfl 0 rfl sz9 rfl 0 rfl) ?_; simp only [N]
  refine wq_run rfl (fun w H => rp_load1 H 0 rfl rfl rfl Tryz.underlying9 rfl (v := .string s) rfl) ?_; simp only [N]
  refine wq_run rfl (fun w H => rp_move rfl (v := .pointer (some ⟨b, 0, none⟩)) rfl) ?_; simp only [N]
  refine wq_run rfl (fun w H => rp_nilCheck rfl rfl) ?_; simp only [N]
  refine wq_run rfl (fun w H => rp_fieldAddr rfl Tryz.underlying127 rfl 1 rfl sz3 rfl 1 rfl) ?_; simp only [N]
  refine wq_run rfl (fun w H => rp_load1 H 0 rfl rfl rfl Tryz.underlying3 rfl (v := iv (k : Int)) rfl) ?_; simp only [N]
  refine wq_run rfl (fun w H => rp_index_string rfl Tryz.underlying9 rfl k rfl (by omega)) ?_; simp only [N]
  refine wq_call rfl (rc_go Tryz.func74 (by kernel_rfl) rfl) (fun w H => of_spec (sat s k) _) ?_; simp only [N]
  refine wq_call rfl (rc_fnv (first := []) (captured := []) rfl hf) (fun w H => hc (clsF (sat s k)) _) ?_; simp only [N]
  refine wq_run rfl (fun w H => rp_pickT rfl rfl (u := .bool (p (clsF (sat s k)))) rfl) ?_; simp only [N]
  refine wq_nil ?_
  clear H; intro w4 H
  refine wp_cond_split rfl (fun hc2 => ?_) (fun hc2 => ?_)
  · --T 2
   refine wp_skip ?_
   refine wp_block ?_
   refine wp_region_lit ?_; refine wmv (.pointer (some ⟨b, 0, none⟩)) ?_; simp only [N]
   refine wr (rp_nilCheck rfl rfl) ?_; simp only [N]
   refine wr (rp_fieldAddr rfl Tryz.underlying127 rfl 1 rfl sz3 rfl 1 rfl) ?_; simp only [N]
   refine wr (rp_load1 H 0 rfl rfl rfl Tryz.underlying3 rfl (v := iv (k : Int)) rfl) ?_; simp only [N]
   refine wr (rp_int_add rfl (k : Int) (1 : Int) rfl rfl (by omega)) ?_; simp only [N]
   refine wr (rp_nilCheck rfl rfl) ?_; simp only [N]
   refine wr (rp_fieldAddr rfl Tryz.underlying127 rfl 1 rfl sz3 rfl 1 rfl) ?_; simp only [N]
   refine wl_store1 H 0 rfl rfl rfl (cs := (.string s :: iv (k : Int) :: rest).toArray) rfl (v := iv ((k : Int) + (1 : Int))) rfl rfl sz3 (Nat.le_of_ble_eq_true rfl) ?_
   clear H; intro w5 H; simp only [Ms] at H
   simp only [N]
   refine wpList_nil ?_
   show ∃ n', n' < _ ∧ _
   refine ⟨_, ?_, k + 1, _, _, _, _, _, _, _, _, _, _, _, _, _, _, _, _, _, _, _, _, _, _, _, _, _, _, _, _, _, _, _, rfl, H, ?_, ?_, ?_, rfl⟩
   · omega
   · omega
   · omega
   · exact fun j h1 h2 => upto (p := fun j => a ≤ j → p (clsF (sat s j)) = true) (fun j hj ha => hi1_2 j ha hj) (fun _ => by first | assumption | simp_all) j h2 h1
  · --F 2
   refine wp_exit ?_
   refine wp_seq ?_; refine wp_region_own H (by kernel_rfl) (by kernel_rfl) ?_
   refine wq_run rfl (fun w H => rp_move rfl (v := .pointer (some ⟨b, 0, none⟩)) rfl) ?_; simp only [N]
   refine wq_run rfl (fun w H => rp_nilCheck rfl rfl) ?_; simp only [N]
   refine wq_run rfl (fun w H => rp_fieldAddr rfl Tryz.underlying127 rfl 0 rfl sz9 rfl 0 rfl) ?_; simp only [N]
   refine wq_run rfl (fun w H => rp_load1 H 0 rfl rfl rfl Tryz.underlying9 rfl (v := .string s) rfl) ?_; simp only [N]
   refine wq_run rfl (fun w H => rp_move rfl (v := iv (a : Int)) rfl) ?_; simp only [N]
   refine wq_run rfl (fun w H => rp_move rfl (v := .pointer (some ⟨b, 0, none⟩)) rfl) ?_; simp only [N]
   refine wq_run rfl (fun w H => rp_nilCheck rfl rfl) ?_; simp only [N]
   refine wq_run rfl (fun w H => rp_fieldAddr rfl Tryz.underlying127 rfl 1 rfl sz3 rfl 1 rfl) ?_; simp only [N]
   refine wq_run rfl (fun w H => rp_load1 H 0 rfl rfl rfl Tryz.underlying3 rfl (v := iv (k : Int)) rfl) ?_; simp only [N]
   refine wq_run rfl (fun w H => rp_slice_str_lh rfl Tryz.underlying9 rfl a rfl k rfl (by omega)) ?_; simp only [N]
   refine wq_run rfl (fun w H => rp_assign rfl (v := .string (s.extract a k)) rfl) ?_; simp only [N]
   refine wq_nil ?_
   clear H; intro w6 H
   refine wp_ret ?_
   try simp only [Exit.inBlock, Exit.then]
   refine bodyPost_ret (results1 rfl (rv_tmp rfl)) rfl ?_
   have e1 : spanF p s a = k := spanF_at hi1_0 hi1_1 hi1_2 (by first | exact .inl (by omega) | exact .inr (by assumption))
   exact ⟨by rw [e1]; rfl, H.chg, by rw [e1]; exact H.blk (i := 0) rfl⟩

end Go.Proofs.YtimonjemjhecoaaGreatDoor
