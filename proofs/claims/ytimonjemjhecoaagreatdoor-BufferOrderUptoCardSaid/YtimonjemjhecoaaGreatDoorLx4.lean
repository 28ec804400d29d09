/- Walks, printed by a program of this repository (wip/tool). -/
import Derived.Test.YtimonjemjhecoaaGreatDoorLx3
import Derived.Test.YtimonjemjhecoaaGreatDoorSxIn
namespace Go.Proofs.YtimonjemjhecoaaGreatDoor
open Go.RowKit
open Go
attribute [local irreducible] wpList wpQuiet wpX Code.wp
set_option maxHeartbeats 1000000
set_option maxRecDepth 100000
set_option linter.unusedSimpArgs false
set_option linter.unusedVariables false

def lexGo (s : ByteArray) : Nat → Nat → Bool → List Tok → List Tok × Int × Int
  | 0, _, _, toks => (toks, 0, 0)
  | n + 1, a, op, toks =>
    if a < s.size then
      if nextE s a 0 = 0 then lexGo s n (nextAt s a) (nextOpen op (nextTok s a op).kind) (if 0 < (nextTok s a op).kind then toks ++ [nextTok s a op] else toks)
      else ([], (nextTok s a op).place, nextE s a 0)
    else (if op then toks ++ [⟨4, ⟨#[]⟩, s.size⟩] else toks, 0, 0)
theorem lexGo_err {s : ByteArray} : ∀ {n a : Nat} {op : Bool} {toks : List Tok}, (lexGo s n a op toks).2.2 ≠ 0 → (lexGo s n a op toks).1 = []
  | 0, a, op, toks, h => by simp [lexGo] at h
  | n + 1, a, op, toks, h => by
    unfold lexGo at h ⊢
    split
    · rename_i ha
      simp only [ha, if_true] at h
      split
      · rename_i hz
        simp only [hz, if_true] at h
        exact lexGo_err h
      · rfl
    · rename_i ha
      simp [ha] at h
theorem spanF_gt {p : Int → Bool} {s : ByteArray} {a : Nat} (h : a < s.size) (hp : p (clsF (sat s a)) = true) : a < spanF p s a := by
  have hl : s.data.toList.length = s.size := by obtain ⟨⟨l⟩⟩ := s; rfl
  unfold spanF
  have h1 : s.data.toList.drop a = s.data.toList.getD a 0 :: s.data.toList.drop (a + 1) := by
    rw [List.drop_eq_getElem_cons (by omega)]
    congr 1
    simp [List.getD, List.getElem?_eq_getElem (show a < s.data.toList.length by omega)]
  rw [h1, ← sat_eq]
  simp [List.takeWhile_cons, hp]
theorem nextAt_gt {s : ByteArray} {a : Nat} (h : a < s.size) (he : nextE s a 0 = 0) : a < nextAt s a := by
  unfold nextAt
  have h2 := signF_pos s a
  unfold nextE at he
  split
  · exact spanF_gt h (by simp_all [blanksP])
  · split
    · exact spanF_gt h (by simp_all [remarkP])
    · split
      · omega
      · split
        · exact spanF_gt h (by simp_all [wordP])
        · split
          · exact spanF_gt h (by simp_all [digitsP])
          · split
            · omega
            · simp_all

theorem lexGo_step {s : ByteArray} {n a : Nat} {op : Bool} {toks : List Tok} (ha : a < s.size) (hz : nextE s a 0 = 0) (hn : s.size - a < n) :
    lexGo s n a op toks = lexGo s (n - 1) (nextAt s a) (nextOpen op (nextTok s a op).kind) (if 0 < (nextTok s a op).kind then toks ++ [nextTok s a op] else toks) := by
  obtain ⟨k, rfl⟩ : ∃ k, n = k + 1 := ⟨n - 1, by omega⟩
  simp only [lexGo, ha, hz, if_true, Nat.add_sub_cancel]
theorem lexGo_stop {s : ByteArray} {n a : Nat} {op : Bool} {toks : List Tok} (ha : a < s.size) (hz : nextE s a 0 ≠ 0) (hn : s.size - a < n) :
    lexGo s n a op toks = ([], (nextTok s a op).place, nextE s a 0) := by
  obtain ⟨k, rfl⟩ : ∃ k, n = k + 1 := ⟨n - 1, by omega⟩
  simp only [lexGo, ha, hz, if_true, if_false]
theorem lexGo_end {s : ByteArray} {n a : Nat} {op : Bool} {toks : List Tok} (ha : ¬ a < s.size) (hn : s.size - a < n) :
    lexGo s n a op toks = (if op then toks ++ [⟨4, ⟨#[]⟩, s.size⟩] else toks, 0, 0) := by
  obtain ⟨k, rfl⟩ : ∃ k, n = k + 1 := ⟨n - 1, by omega⟩
  simp only [lexGo, ha, if_false]

def Rounds (m : Nat) (w0 : World) (R : List (World → Prop)) (bc bs Tc Ts l : Nat) (s : ByteArray) (Lf : Value → List Tok → List Res) (Lx : Int → Int → List Res) : Prop :=
  ∀ (v : Value) (a : Nat) (op : Bool) (toks : List Tok) (t : Tok) (e : Int) (W : World), toks.length ≤ s.size → Own w0 [] (Glob :: R) (.blk bc (.cells #[.pointer (some ⟨bs, 0, none⟩)] Tc (0, 0)) :: .blk bs (.cells #[.string s, iv (a : Nat), .bool op, iv e] Ts (0, 0)) :: Lf v toks) W →
    YieldAt Fence.wide (m - 1) Tryz.prog l #[.agg t.cells.toArray] W fun r W' => (e = 0 ∧ r = .returned (.bool true) ∧ ∃ v', Own w0 [] (Glob :: R) (.blk bc (.cells #[.pointer (some ⟨bs, 0, none⟩)] Tc (0, 0)) :: .blk bs (.cells #[.string s, iv (a : Nat), .bool op, iv e] Ts (0, 0)) :: Lf v' (toks ++ [t])) W') ∨ (e ≠ 0 ∧ r = .returned (.bool false) ∧ Own w0 [] (Glob :: R) (.blk bc (.cells #[.pointer (some ⟨bs, 0, none⟩)] Tc (0, 0)) :: .blk bs (.cells #[.string s, iv (a : Nat), .bool op, iv e] Ts (0, 0)) :: Lx t.place e) W')

theorem alllex_spec (m : Nat) (w0 : World) (R : List (World → Prop)) (bc bs Tc Ts l : Nat) (s : ByteArray) (Lf : Value → List Tok → List Res) (Lx : Int → Int → List Res) (hs : s.size ≤ 140737488355328) (hy : Rounds m w0 R bc bs Tc Ts l s Lf Lx)
    (v0 : Value) (W : World) (H : Own w0 [] (Glob :: R) (.blk bc (.cells #[.pointer (some ⟨bs, 0, none⟩)] Tc (0, 0)) :: .blk bs (.cells #[.string s, iv (0 : Nat), .bool false, iv 0] Ts (0, 0)) :: Lf v0 []) W) :
    CallsIn Fence.wide m Tryz.prog 99 #[.func (.yield l) #[] #[], .pointer (some ⟨bc, 0, none⟩)] W fun r W' => (∃ v, r = .returned v) ∧ ((∃ v a op, Own w0 [] (Glob :: R) (.blk bc (.cells #[.pointer (some ⟨bs, 0, none⟩)] Tc (0, 0)) :: .blk bs (.cells #[.string s, iv (a : Nat), .bool op, iv 0] Ts (0, 0)) :: Lf v (lexGo s (s.size + 1) 0 false []).1) W' ∧ (lexGo s (s.size + 1) 0 false []).2 = (0, 0)) ∨ (∃ a op, (lexGo s (s.size + 1) 0 false []).2.2 ≠ 0 ∧ Own w0 [] (Glob :: R) (.blk bc (.cells #[.pointer (some ⟨bs, 0, none⟩)] Tc (0, 0)) :: .blk bs (.cells #[.string s, iv (a : Nat), .bool op, iv (lexGo s (s.size + 1) 0 false []).2.2] Ts (0, 0)) :: Lx (lexGo s (s.size + 1) 0 false []).2.1 (lexGo s (s.size + 1) 0 false []).2.2) W')) := by
 refine callsIn_of_wp Tryz.func99 rfl trivial ?_
 simp only [Tryz.ntmps99, List.size_toArray, List.length_cons, List.length_nil, Nat.reduceAdd, Nat.reduceSub, Array.replicate_succ, Array.replicate_zero, List.push_toArray, List.append_toArray, List.nil_append, List.cons_append]
 refine wpIn_seq ?_
 refine wpIn_block ?_
 refine wpI_loopX (fun m' a' w' => ∃ (a : Nat) (op : Bool) (toks : List Tok) (v : Value) (n : Nat) (u3 u4 u5 u6 u7 u8 u9 u10 u11 u12 u13 u14 u15 u16 u17 u18 u19 u20 u21 u22 u23 u24 u25 u26 u27 u28 u29 u30 u31 u32 u33 u34 u35 u36 u37 u38 u39 u40 : Value), a' = ⟨#[.func (.yield l) #[] #[], .pointer (some ⟨bc, 0, none⟩), uU, u3, u4, u5, u6, u7, u8, u9, u10, u11, u12, u13, u14, u15, u16, u17, u18, u19, u20, u21, u22, u23, u24, u25, u26, u27, u28, u29, u30, u31, u32, u33, u34, u35, u36, u37, u38, u39, u40, uU, uU, uU, uU, uU, uU, uU, uU, uU, uU, uU, uU, uU], []⟩ ∧ Own w0 [] (Glob :: R) (.blk bc (.cells #[.pointer (some ⟨bs, 0, none⟩)] Tc (0, 0)) :: .blk bs (.cells #[.string s, iv (a : Int), .bool op, iv (0 : Int)] Ts (0, 0)) :: Lf v toks) w' ∧ (a ≤ s.size) ∧ (toks.length ≤ a) ∧ (s.size - a < n) ∧ (lexGo s (s.size + 1) 0 false [] = lexGo s n a op toks) ∧ m' = s.size - a) _ ⟨0, false, [], v0, s.size + 1, _, _, _, _, _, _, _, _, _, _, _, _, _, _, _, _, _, _, _, _, _, _, _, _, _, _, _, _, _, _, _, _, _, _, _, _, _, _, rfl, H, (by omega), (by simp), (by omega), (by rfl), rfl⟩ ?_
 clear H
 rintro _ _ w1 ⟨a, op, toks, v, n, u3, u4, u5, u6, u7, u8, u9, u10, u11, u12, u13, u14, u15, u16, u17, u18, u19, u20, u21, u22, u23, u24, u25, u26, u27, u28, u29, u30, u31, u32, u33, u34, u35, u36, u37, u38, u39, u40, rfl, H, hi1_0, hi1_1, hi1_2, hi1_3, rfl⟩
 refine wpIn_seq ?_
 refine wpIn_seq ?_
 refine wpIn_wide.2 ?_
 refine wp_region_own H (by kernel_rfl) (by kernel_rfl) ?_
 refine wq_run rfl (fun w H => rp_load1 H 0 rfl rfl rfl Tryz.underlying125 rfl (v := .pointer (some ⟨bs, 0, none⟩)) rfl) ?_; simp only [N]
 refine wq_run rfl (fun w H => rp_nilCheck rfl rfl) ?_; simp only [N]
 refine wq_run rfl (fun w H => rp_fieldAddr rfl Tryz.underlying129 rfl 0 rfl sz127 rfl 0 rfl) ?_; simp only [N]
 refine wq_run rfl (fun w H => rp_fieldAddr rfl Tryz.underlying127 rfl 1 rfl sz3 rfl 1 rfl) ?_; simp only [N]
 refine wq_run rfl (fun w H => rp_load1 H 1 rfl rfl rfl Tryz.underlying3 rfl (v := iv (a : Int)) rfl) ?_; simp only [N]
 refine wq_run rfl (fun w H => rp_load1 H 0 rfl rfl rfl Tryz.underlying125 rfl (v := .pointer (some ⟨bs, 0, none⟩)) rfl) ?_; simp only [N]
 refine wq_run rfl (fun w H => rp_nilCheck rfl rfl) ?_; simp only [N]
 refine wq_run rfl (fun w H => rp_fieldAddr rfl Tryz.underlying129 rfl 0 rfl sz127 rfl 0 rfl) ?_; simp only [N]
 refine wq_run rfl (fun w H => rp_fieldAddr rfl Tryz.underlying127 rfl 0 rfl sz9 rfl 0 rfl) ?_; simp only [N]
 refine wq_run rfl (fun w H => rp_load1 H 1 rfl rfl rfl Tryz.underlying9 rfl (v := .string s) rfl) ?_; simp only [N]
 refine wq_run rfl (fun w H => rp_len_string Tryz.underlying9 rfl) ?_; simp only [N]
 refine wq_run rfl (fun w H => rp_int_lss rfl (a : Int) (s.size : Int) rfl rfl) ?_; simp only [N]
 refine wq_nil ?_
 clear H; intro w2 H
 refine wpIn_cond_split rfl (fun hc1 => ?_) (fun hc1 => ?_)
 · --T 1
  have hc1N : (a : Int) < (s.size : Int) := by simpa using hc1
  refine wpIn_skip ?_
  refine wpIn_block ?_
  refine wpIn_seq ?_
  refine wpIn_wide.2 ?_
  refine wp_region_lit ?_; refine wr (rp_load1 H 0 rfl rfl rfl Tryz.underlying125 rfl (v := .pointer (some ⟨bs, 0, none⟩)) rfl) ?_; simp only [N]
  refine wl_callP H 1 rfl (rc_go Tryz.func100 (by kernel_rfl) rfl) rfl (next_spec _ _ s a op (0 : Int) _ (by omega) hs (H.blk (i := 1) rfl) (H.beside 1 rfl (List.mem_of_getElem? (i := 0) rfl))) ?_
  clear H; intro w3 H; simp only [M] at H
  simp only [N]
  refine wl_alloc H rfl rfl zv107 ?_
  clear H; intro b1 w4 hnb1 H; dsimp only [Value.cells] at H
  simp only [N]
  refine wl_storeW H 0 rfl rfl rfl rfl (vs := ((nextTok s a op).cells).toArray) rfl (Tok.cells_one _) (by first | exact sz107 | (rw [sz107]; congr 1; first | omega | simp [LN, enc_length, putAt_length, localF_length] <;> omega)) (by first | rfl | first | omega | simp [LN, enc_length, putAt_length, localF_length] <;> omega) ?_
  clear H; intro w5 H; simp only [M] at H
  simp only [N]
  refine wpList_nil ?_
  refine wpIn_seq ?_
  refine wpIn_region_lit ?_
  refine wlI_run rfl (rp_fieldAddr rfl Tryz.underlying107 rfl 0 rfl sz105 rfl 0 rfl) ?_; simp only [N]
  refine wlI_run rfl (rp_load1 H 0 rfl rfl rfl Tryz.underlying105 rfl (v := bv (nextTok s a op).kind) rfl) ?_; simp only [N]
  refine wlI_run rfl (rp_u8_gtr rfl (nextTok s a op).kind (0 : UInt8) rfl rfl) ?_; simp only [N]
  refine wlI_run rfl (rp_move rfl (v := .bool (decide ((0 : UInt8) < (nextTok s a op).kind))) rfl) ?_; simp only [N]
  cases hg1 : (decide ((0 : UInt8) < (nextTok s a op).kind))
  · --false
   have hg1N : ((nextTok s a op).kind).toNat ≤ 0 := u8_ge hg1
   refine wlI_run rfl (rp_load1 H 1 rfl rfl rfl Tryz.underlying125 rfl (v := .pointer (some ⟨bs, 0, none⟩)) rfl) ?_; simp only [N]
   refine wlI_run rfl (rp_nilCheck rfl rfl) ?_; simp only [N]
   refine wlI_run rfl (rp_fieldAddr rfl Tryz.underlying129 rfl 3 rfl sz46 rfl 3 rfl) ?_; simp only [N]
   refine wlI_run rfl (rp_load1 H 2 rfl rfl rfl Tryz.underlying46 rfl (v := iv (nextE s a (0 : Int))) rfl) ?_; simp only [N]
   refine wlI_run rfl (rp_int_neq rfl (nextE s a (0 : Int)) (0 : Int) rfl rfl) ?_; simp only [N]
   refine wlI_run rfl (rp_pickF rfl rfl (v := .bool ((nextE s a (0 : Int)) != (0 : Int))) rfl) ?_; simp only [N]
   refine wlI_run rfl (rp_move rfl (v := .bool ((nextE s a (0 : Int)) != (0 : Int))) rfl) ?_; simp only [N]
   cases hg2 : ((nextE s a (0 : Int)) != (0 : Int))
   · --false
    have hg2N : (nextE s a (0 : Int)) = (0 : Int) := by simpa using hg2
    refine wlI_skip (unwanted rfl (b := false) rfl (by decide)) ?_; simp only [N]
    refine wlI_skip (unwanted rfl (b := false) rfl (by decide)) ?_; simp only [N]
    refine wlI_skip (unwanted rfl (b := false) rfl (by decide)) ?_; simp only [N]
    refine wlI_skip (unwanted rfl (b := false) rfl (by decide)) ?_; simp only [N]
    refine wlI_run rfl (rp_pickF rfl rfl (v := .bool false) rfl) ?_; simp only [N]
    refine wlI_run rfl (rp_move rfl (v := .bool false) rfl) ?_; simp only [N]
    refine wlI_run rfl (rp_load1 H 1 rfl rfl rfl Tryz.underlying125 rfl (v := .pointer (some ⟨bs, 0, none⟩)) rfl) ?_; simp only [N]
    refine wlI_run rfl (rp_nilCheck rfl rfl) ?_; simp only [N]
    refine wlI_run rfl (rp_fieldAddr rfl Tryz.underlying129 rfl 3 rfl sz46 rfl 3 rfl) ?_; simp only [N]
    refine wlI_run rfl (rp_load1 H 2 rfl rfl rfl Tryz.underlying46 rfl (v := iv (nextE s a (0 : Int))) rfl) ?_; simp only [N]
    refine wlI_run rfl (rp_int_neq rfl (nextE s a (0 : Int)) (0 : Int) rfl rfl) ?_; simp only [N]
    refine wlI_run rfl (rp_pickF rfl rfl (v := .bool ((nextE s a (0 : Int)) != (0 : Int))) rfl) ?_; simp only [N]
    refine wpListIn_nil ?_
    refine wpIn_cond_split rfl (fun hc2 => ?_) (fun hc2 => ?_)
    · --T 2
     have hc2N : (nextE s a (0 : Int)) ≠ (0 : Int) := by simpa using hc2
     refine wpIn_ret ?_
     try simp only [Exit.inBlock, Exit.then]
     refine bodyPost_ret (results_none rfl _ _ _) rfl ?_
     exfalso; simp_all
    · --F 2
     have hc2N : (nextE s a (0 : Int)) = (0 : Int) := by simpa using hc2
     refine wpIn_skip ?_
     have hz : nextE s a 0 = 0 := by first | assumption | simp_all
     rw [hz] at H
     have hgt := nextAt_gt (show a < s.size by omega) hz
     have hle := nextAt_le (show a < s.size by omega)
     replace H := H.dropNew 0 rfl (foot_blk hnb1); simp only [List.eraseIdx_zero, List.eraseIdx_cons_succ, List.tail_cons] at H
     show ∃ n', n' < _ ∧ _
     refine ⟨_, ?_, (nextAt s a), (nextOpen op (nextTok s a op).kind), toks, v, n - 1, _, _, _, _, _, _, _, _, _, _, _, _, _, _, _, _, _, _, _, _, _, _, _, _, _, _, _, _, _, _, _, _, _, _, _, _, _, _, rfl, H, ?_, ?_, ?_, ?_, rfl⟩
     · omega
     · omega
     · first | omega | (simp only [List.length_append, List.length_cons, List.length_nil]; omega)
     · omega
     · rw [hi1_3, lexGo_step (by omega) hz (by omega)]; congr 1; (split <;> first | rfl | (exfalso; simp_all))
   · --true
    have hg2N : (nextE s a (0 : Int)) ≠ (0 : Int) := by simpa using hg2
    refine wlI_run rfl (rp_move rfl (v := .func (.yield l) #[] #[]) rfl) ?_; simp only [N]
    refine wlI_run rfl (rp_loadN H 0 rfl rfl rfl Tryz.underlying107 rfl sz107 (Nat.le_of_ble_eq_true rfl) (cs' := (nextTok s a op).cells) rfl) ?_; simp only [N]
    replace H := H.dropNew 0 rfl (foot_blk hnb1); simp only [List.eraseIdx_zero, List.eraseIdx_cons_succ, List.tail_cons] at H
    refine wlI_yield rfl (rc_yield rfl _) (hy _ (nextAt s a) (nextOpen op (nextTok s a op).kind) _ (nextTok s a op) (nextE s a (0 : Int)) _ (by omega) H) ?_
    clear H; rintro _ w6 (⟨he, rfl, v2, H⟩ | ⟨he, rfl, H⟩)
    · --yield true
     refine ⟨_, rfl, ?_⟩
     simp only [N]
     refine wlI_run rfl (rp_not rfl true rfl) ?_; simp only [N]
     refine wlI_run rfl (rp_pickT rfl rfl (u := .bool false) rfl) ?_; simp only [N]
     refine wlI_run rfl (rp_move rfl (v := .bool false) rfl) ?_; simp only [N]
     refine wlI_run rfl (rp_load1 H 0 rfl rfl rfl Tryz.underlying125 rfl (v := .pointer (some ⟨bs, 0, none⟩)) rfl) ?_; simp only [N]
     refine wlI_run rfl (rp_nilCheck rfl rfl) ?_; simp only [N]
     refine wlI_run rfl (rp_fieldAddr rfl Tryz.underlying129 rfl 3 rfl sz46 rfl 3 rfl) ?_; simp only [N]
     refine wlI_run rfl (rp_load1 H 1 rfl rfl rfl Tryz.underlying46 rfl (v := iv (nextE s a (0 : Int))) rfl) ?_; simp only [N]
     refine wlI_run rfl (rp_int_neq rfl (nextE s a (0 : Int)) (0 : Int) rfl rfl) ?_; simp only [N]
     refine wlI_run rfl (rp_pickF rfl rfl (v := .bool ((nextE s a (0 : Int)) != (0 : Int))) rfl) ?_; simp only [N]
     refine wpListIn_nil ?_
     refine wpIn_cond_split rfl (fun hc3 => ?_) (fun hc3 => ?_)
     · --T 3
      have hc3N : (nextE s a (0 : Int)) ≠ (0 : Int) := by simpa using hc3
      refine wpIn_ret ?_
      try simp only [Exit.inBlock, Exit.then]
      refine bodyPost_ret (results_none rfl _ _ _) rfl ?_
      exfalso; simp_all
     · --F 3
      have hc3N : (nextE s a (0 : Int)) = (0 : Int) := by simpa using hc3
      refine wpIn_skip ?_
      have hz : nextE s a 0 = 0 := by first | assumption | simp_all
      rw [hz] at H
      have hgt := nextAt_gt (show a < s.size by omega) hz
      have hle := nextAt_le (show a < s.size by omega)
      show ∃ n', n' < _ ∧ _
      refine ⟨_, ?_, (nextAt s a), (nextOpen op (nextTok s a op).kind), (toks ++ [(nextTok s a op)]), v2, n - 1, _, _, _, _, _, _, _, _, _, _, _, _, _, _, _, _, _, _, _, _, _, _, _, _, _, _, _, _, _, _, _, _, _, _, _, _, _, _, rfl, H, ?_, ?_, ?_, ?_, rfl⟩
      · omega
      · omega
      · first | omega | (simp only [List.length_append, List.length_cons, List.length_nil]; omega)
      · omega
      · rw [hi1_3, lexGo_step (by omega) hz (by omega)]; congr 1; (split <;> first | rfl | (exfalso; simp_all))
    · --yield false
     refine ⟨_, rfl, ?_⟩
     simp only [N]
     refine wlI_run rfl (rp_not rfl false rfl) ?_; simp only [N]
     refine wlI_run rfl (rp_pickT rfl rfl (u := .bool true) rfl) ?_; simp only [N]
     refine wlI_run rfl (rp_move rfl (v := .bool true) rfl) ?_; simp only [N]
     refine wlI_skip (unwanted rfl (b := true) rfl (by decide)) ?_; simp only [N]
     refine wlI_skip (unwanted rfl (b := true) rfl (by decide)) ?_; simp only [N]
     refine wlI_skip (unwanted rfl (b := true) rfl (by decide)) ?_; simp only [N]
     refine wlI_skip (unwanted rfl (b := true) rfl (by decide)) ?_; simp only [N]
     refine wlI_skip (unwanted rfl (b := true) rfl (by decide)) ?_; simp only [N]
     refine wlI_run rfl (rp_pickT rfl rfl (u := .bool true) rfl) ?_; simp only [N]
     refine wpListIn_nil ?_
     refine wpIn_cond_true rfl ?_
     refine wpIn_ret ?_
     try simp only [Exit.inBlock, Exit.then]
     refine bodyPost_ret (results_none rfl _ _ _) rfl ?_
     have hl := hi1_3.trans (lexGo_stop (show a < s.size by omega) he (by omega))
     refine ⟨⟨_, rfl⟩, .inr ⟨nextAt s a, nextOpen op (nextTok s a op).kind, ?_, ?_⟩⟩
     · rw [hl]; exact he
     · rw [hl]; exact H
  · --true
   have hg1N : 0 < ((nextTok s a op).kind).toNat := u8_lt hg1
   refine wlI_skip (unwanted rfl (b := true) rfl (by decide)) ?_; simp only [N]
   refine wlI_skip (unwanted rfl (b := true) rfl (by decide)) ?_; simp only [N]
   refine wlI_skip (unwanted rfl (b := true) rfl (by decide)) ?_; simp only [N]
   refine wlI_skip (unwanted rfl (b := true) rfl (by decide)) ?_; simp only [N]
   refine wlI_skip (unwanted rfl (b := true) rfl (by decide)) ?_; simp only [N]
   refine wlI_run rfl (rp_pickT rfl rfl (u := .bool true) rfl) ?_; simp only [N]
   refine wlI_run rfl (rp_move rfl (v := .bool true) rfl) ?_; simp only [N]
   refine wlI_run rfl (rp_move rfl (v := .func (.yield l) #[] #[]) rfl) ?_; simp only [N]
   refine wlI_run rfl (rp_loadN H 0 rfl rfl rfl Tryz.underlying107 rfl sz107 (Nat.le_of_ble_eq_true rfl) (cs' := (nextTok s a op).cells) rfl) ?_; simp only [N]
   replace H := H.dropNew 0 rfl (foot_blk hnb1); simp only [List.eraseIdx_zero, List.eraseIdx_cons_succ, List.tail_cons] at H
   refine wlI_yield rfl (rc_yield rfl _) (hy _ (nextAt s a) (nextOpen op (nextTok s a op).kind) _ (nextTok s a op) (nextE s a (0 : Int)) _ (by omega) H) ?_
   clear H; rintro _ w7 (⟨he, rfl, v2, H⟩ | ⟨he, rfl, H⟩)
   · --yield true
    refine ⟨_, rfl, ?_⟩
    simp only [N]
    refine wlI_run rfl (rp_not rfl true rfl) ?_; simp only [N]
    refine wlI_run rfl (rp_pickT rfl rfl (u := .bool false) rfl) ?_; simp only [N]
    refine wlI_run rfl (rp_move rfl (v := .bool false) rfl) ?_; simp only [N]
    refine wlI_run rfl (rp_load1 H 0 rfl rfl rfl Tryz.underlying125 rfl (v := .pointer (some ⟨bs, 0, none⟩)) rfl) ?_; simp only [N]
    refine wlI_run rfl (rp_nilCheck rfl rfl) ?_; simp only [N]
    refine wlI_run rfl (rp_fieldAddr rfl Tryz.underlying129 rfl 3 rfl sz46 rfl 3 rfl) ?_; simp only [N]
    refine wlI_run rfl (rp_load1 H 1 rfl rfl rfl Tryz.underlying46 rfl (v := iv (nextE s a (0 : Int))) rfl) ?_; simp only [N]
    refine wlI_run rfl (rp_int_neq rfl (nextE s a (0 : Int)) (0 : Int) rfl rfl) ?_; simp only [N]
    refine wlI_run rfl (rp_pickF rfl rfl (v := .bool ((nextE s a (0 : Int)) != (0 : Int))) rfl) ?_; simp only [N]
    refine wpListIn_nil ?_
    refine wpIn_cond_split rfl (fun hc5 => ?_) (fun hc5 => ?_)
    · --T 5
     have hc5N : (nextE s a (0 : Int)) ≠ (0 : Int) := by simpa using hc5
     refine wpIn_ret ?_
     try simp only [Exit.inBlock, Exit.then]
     refine bodyPost_ret (results_none rfl _ _ _) rfl ?_
     exfalso; simp_all
    · --F 5
     have hc5N : (nextE s a (0 : Int)) = (0 : Int) := by simpa using hc5
     refine wpIn_skip ?_
     have hz : nextE s a 0 = 0 := by first | assumption | simp_all
     rw [hz] at H
     have hgt := nextAt_gt (show a < s.size by omega) hz
     have hle := nextAt_le (show a < s.size by omega)
     show ∃ n', n' < _ ∧ _
     refine ⟨_, ?_, (nextAt s a), (nextOpen op (nextTok s a op).kind), (toks ++ [(nextTok s a op)]), v2, n - 1, _, _, _, _, _, _, _, _, _, _, _, _, _, _, _, _, _, _, _, _, _, _, _, _, _, _, _, _, _, _, _, _, _, _, _, _, _, _, rfl, H, ?_, ?_, ?_, ?_, rfl⟩
     · omega
     · omega
     · first | omega | (simp only [List.length_append, List.length_cons, List.length_nil]; omega)
     · omega
     · rw [hi1_3, lexGo_step (by omega) hz (by omega)]; congr 1; (split <;> first | rfl | (exfalso; simp_all))
   · --yield false
    refine ⟨_, rfl, ?_⟩
    simp only [N]
    refine wlI_run rfl (rp_not rfl false rfl) ?_; simp only [N]
    refine wlI_run rfl (rp_pickT rfl rfl (u := .bool true) rfl) ?_; simp only [N]
    refine wlI_run rfl (rp_move rfl (v := .bool true) rfl) ?_; simp only [N]
    refine wlI_skip (unwanted rfl (b := true) rfl (by decide)) ?_; simp only [N]
    refine wlI_skip (unwanted rfl (b := true) rfl (by decide)) ?_; simp only [N]
    refine wlI_skip (unwanted rfl (b := true) rfl (by decide)) ?_; simp only [N]
    refine wlI_skip (unwanted rfl (b := true) rfl (by decide)) ?_; simp only [N]
    refine wlI_skip (unwanted rfl (b := true) rfl (by decide)) ?_; simp only [N]
    refine wlI_run rfl (rp_pickT rfl rfl (u := .bool true) rfl) ?_; simp only [N]
    refine wpListIn_nil ?_
    refine wpIn_cond_true rfl ?_
    refine wpIn_ret ?_
    try simp only [Exit.inBlock, Exit.then]
    refine bodyPost_ret (results_none rfl _ _ _) rfl ?_
    have hl := hi1_3.trans (lexGo_stop (show a < s.size by omega) he (by omega))
    refine ⟨⟨_, rfl⟩, .inr ⟨nextAt s a, nextOpen op (nextTok s a op).kind, ?_, ?_⟩⟩
    · rw [hl]; exact he
    · rw [hl]; exact H
 · --F 1
  have hc1N : (s.size : Int) ≤ (a : Int) := by simpa using hc1
  refine wpIn_exit ?_
  refine wpIn_seq ?_
  refine wpIn_wide.2 ?_
  refine wp_region_lit ?_; refine wr (rp_load1 H 0 rfl rfl rfl Tryz.underlying125 rfl (v := .pointer (some ⟨bs, 0, none⟩)) rfl) ?_; simp only [N]
  refine wr (rp_nilCheck rfl rfl) ?_; simp only [N]
  refine wr (rp_fieldAddr rfl Tryz.underlying129 rfl 2 rfl sz4 rfl 2 rfl) ?_; simp only [N]
  refine wr (rp_load1 H 1 rfl rfl rfl Tryz.underlying4 rfl (v := .bool op) rfl) ?_; simp only [N]
  refine wpList_nil ?_
  refine wpIn_cond_split rfl (fun hc7 => ?_) (fun hc7 => ?_)
  · --T 7
   refine wpIn_region_lit ?_
   refine wlI_run rfl (rp_move rfl (v := .func (.yield l) #[] #[]) rfl) ?_; simp only [N]
   refine wlI_run rfl (rp_load1 H 0 rfl rfl rfl Tryz.underlying125 rfl (v := .pointer (some ⟨bs, 0, none⟩)) rfl) ?_; simp only [N]
   refine wlI_run rfl (rp_nilCheck rfl rfl) ?_; simp only [N]
   refine wlI_run rfl (rp_fieldAddr rfl Tryz.underlying129 rfl 0 rfl sz127 rfl 0 rfl) ?_; simp only [N]
   refine wlI_run rfl (rp_fieldAddr rfl Tryz.underlying127 rfl 0 rfl sz9 rfl 0 rfl) ?_; simp only [N]
   refine wlI_run rfl (rp_load1 H 1 rfl rfl rfl Tryz.underlying9 rfl (v := .string s) rfl) ?_; simp only [N]
   refine wlI_run rfl (rp_len_string Tryz.underlying9 rfl) ?_; simp only [N]
   refine wlI_run rfl (rp_build rfl (vs := [(0, bv (4 : UInt8)), (2, iv (s.size : Int))]) rfl (cs := #[bv (4 : UInt8), .string (⟨#[]⟩ : ByteArray), iv (s.size : Int)]) (by kernel_rfl)) ?_; simp only [N]
   refine wlI_yield rfl (rc_yield rfl _) (hy _ a op _ ⟨(4 : UInt8), (⟨#[]⟩ : ByteArray), (s.size : Int)⟩ (0 : Int) _ (by omega) H) ?_
   clear H; rintro _ w8 (⟨he, rfl, v2, H⟩ | ⟨he, rfl, H⟩)
   · --yield true
    refine ⟨_, rfl, ?_⟩
    simp only [N]
    refine wpListIn_nil ?_
    try simp only [Exit.inBlock, Exit.then]
    refine bodyPost_end (results_none rfl _ _ _) rfl ?_
    have hl := hi1_3.trans (lexGo_end (show ¬ a < s.size by omega) (by omega))
    have hl1 : (lexGo s (s.size + 1) 0 false []).1 = toks ++ [⟨4, ⟨#[]⟩, s.size⟩] := by rw [hl]; exact if_pos hc7
    refine ⟨⟨_, rfl⟩, .inl ⟨v2, a, op, ?_, ?_⟩⟩
    · rw [hl1]; exact H
    · rw [hl]
   · --yield false
    refine ⟨_, rfl, ?_⟩
    simp only [N]
    refine wpListIn_nil ?_
    try simp only [Exit.inBlock, Exit.then]
    refine bodyPost_end (results_none rfl _ _ _) rfl ?_
    exact absurd rfl he
  · --F 7
   refine wpIn_skip ?_
   try simp only [Exit.inBlock, Exit.then]
   refine bodyPost_end (results_none rfl _ _ _) rfl ?_
   have hl := hi1_3.trans (lexGo_end (show ¬ a < s.size by omega) (by omega))
   have hl1 : (lexGo s (s.size + 1) 0 false []).1 = toks := by rw [hl]; exact if_neg (by rw [hc7]; exact Bool.false_ne_true)
   refine ⟨⟨_, rfl⟩, .inl ⟨v, a, op, ?_, ?_⟩⟩
   · rw [hl1]; exact H
   · rw [hl]

end Go.Proofs.YtimonjemjhecoaaGreatDoor
