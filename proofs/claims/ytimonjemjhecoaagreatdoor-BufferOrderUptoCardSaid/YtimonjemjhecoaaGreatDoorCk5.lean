/- Walks, printed by a program of this repository (wip/tool). -/
import Derived.Test.YtimonjemjhecoaaGreatDoorLx5
import Derived.Test.YtimonjemjhecoaaGreatDoorCk4
namespace Go.Proofs.YtimonjemjhecoaaGreatDoor
open Go.RowKit
open Go
attribute [local irreducible] wpList wpQuiet wpX Code.wp
set_option maxHeartbeats 1000000
set_option maxRecDepth 100000
set_option linter.unusedSimpArgs false
set_option linter.unusedVariables false

theorem Tok.cells_iff (a b : Tok) : decide (a = b) = true ↔ a.cells = b.cells := by
  rw [decide_eq_true_iff]
  obtain ⟨k, t, p⟩ := a
  obtain ⟨k', t', p'⟩ := b
  simp only [Tok.cells, List.cons.injEq, Value.int.injEq, Value.string.injEq, true_and, and_true, Tok.mk.injEq, ← UInt8.toNat_inj]
  refine and_congr ⟨fun h => by omega, fun h => by omega⟩ Iff.rfl
theorem nextTok_text (s : ByteArray) (a : Nat) (op : Bool) : (nextTok s a op).text.size ≤ s.size := by
  unfold nextTok
  repeat' split
  all_goals first | exact Nat.zero_le _ | (simp [ByteArray.size_extract]; omega)
theorem nextTok_place (s : ByteArray) (a : Nat) (op : Bool) : (nextTok s a op).place = (a : Int) := by
  unfold nextTok
  repeat' split
  all_goals rfl
theorem lexGo_all (s : ByteArray) (Q : Tok → Prop) (h1 : ∀ a op, a < s.size → Q (nextTok s a op)) (h2 : Q ⟨4, ⟨#[]⟩, s.size⟩) : ∀ (n a : Nat) (op : Bool) (toks : List Tok), (∀ t ∈ toks, Q t) → ∀ t ∈ (lexGo s n a op toks).1, Q t
  | 0, a, op, toks, h => by simpa [lexGo] using h
  | n + 1, a, op, toks, h => by
    unfold lexGo
    split
    · rename_i ha
      split
      · refine lexGo_all s Q h1 h2 n _ _ _ ?_
        split
        · intro t ht
          rcases List.mem_append.1 ht with ht | ht
          · exact h t ht
          · obtain rfl := List.mem_singleton.1 ht; exact h1 a op ha
        · exact h
      · simp
    · split
      · intro t ht
        rcases List.mem_append.1 ht with ht | ht
        · exact h t ht
        · obtain rfl := List.mem_singleton.1 ht; exact h2
      · exact h
structure TokOk (s : ByteArray) (t : Tok) : Prop where
  text : t.text.size ≤ s.size
  place : 0 ≤ t.place ∧ t.place ≤ s.size
theorem lexF_ok (s : ByteArray) : ∀ t ∈ (lexF s).1, TokOk s t := by
  unfold lexF
  cases decide ((16384 : Int) < (s.size : Int))
  · exact lexGo_all s (TokOk s) (fun a op ha => ⟨nextTok_text s a op, by rw [nextTok_place]; omega⟩) ⟨Nat.zero_le _, by simp⟩ _ _ _ _ (by simp)
  · simp
theorem lexF_at (s : ByteArray) (k : Nat) : TokOk s ((lexF s).1.getD k default) := by
  rcases Nat.lt_or_ge k (lexF s).1.length with h | h
  · have : (lexF s).1.getD k default ∈ (lexF s).1 := by
      rw [List.getD_eq_getElem?_getD, List.getElem?_eq_getElem h]; exact List.getElem_mem h
    exact lexF_ok s _ this
  · rw [List.getD_eq_getElem?_getD, List.getElem?_eq_none h]
    exact ⟨Nat.zero_le _, by show (0 : Int) ≤ 0 ∧ (0 : Int) ≤ _; constructor <;> omega⟩

def wordF (s : ByteArray) : Bool :=
  ((((lexF s).2.2 == (0 : Int)) && ((((lexF s).1.length : Nat) : Int) == (2 : Int))) && (decide ((lexF s).1.getD 0 default = (⟨1, s, 0⟩ : Tok))))


theorem wordF_spec (s : ByteArray) (hs : s.size ≤ 140737488355328) (w : World) (hg_ : Glob w) :
    Calls Tryz.prog 32 #[.string s] w fun e w' => e = .returned (.bool (wordF s)) ∧ Ext w w' := by
 have H := Own.start_ro w [Glob] (List.forall_mem_cons.2 ⟨fun w' hw => hg_.keep hw, fun _ h => by cases h⟩)
 go_enter Tryz.func32, Tryz.ntmps32
 refine wsr ?_
 refine wasg (.bool false) ?_; simp only [N]
 refine wnr ?_
 refine wmv (.string s) ?_; simp only [N]
 refine wl_callF H rfl (rc_go Tryz.func49 (by kernel_rfl) rfl) (lex_spec s (by first | assumption | omega | (simp; omega)) _ (H.ro_at 0 rfl)) ?_
 clear H; intro x1_ w1 H
 simp only [N]
 refine wmv (.tuple #[(⟨x1_.1, x1_.2, (lexF s).1⟩ : Sl Tok).val, iv (lexF s).2.1, iv (lexF s).2.2]) ?_; simp only [N]
 refine wr (rp_extract rfl rfl (v := (⟨x1_.1, x1_.2, (lexF s).1⟩ : Sl Tok).val) rfl) ?_; simp only [N]
 refine wr (rp_extract rfl rfl (v := iv (lexF s).2.1) rfl) ?_; simp only [N]
 refine wr (rp_extract rfl rfl (v := iv (lexF s).2.2) rfl) ?_; simp only [N]
 refine wasg ((⟨x1_.1, x1_.2, (lexF s).1⟩ : Sl Tok).val) ?_; simp only [N]
 refine wasg (iv (lexF s).2.1) ?_; simp only [N]
 refine wasg (iv (lexF s).2.2) ?_; simp only [N]
 refine wnr ?_
 refine wmv (iv (lexF s).2.2) ?_; simp only [N]
 refine wr (rp_int_eql rfl (lexF s).2.2 (0 : Int) rfl rfl) ?_; simp only [N]
 refine wmv (.bool ((lexF s).2.2 == (0 : Int))) ?_; simp only [N]
 refine wl_g (wn_t rfl rfl) (v := (⟨x1_.1, x1_.2, (lexF s).1⟩ : Sl Tok).val) (fun hg => rp_move rfl (v := (⟨x1_.1, x1_.2, (lexF s).1⟩ : Sl Tok).val) rfl) ?_; simp only [N]
 refine wl_g (wn_t rfl rfl) (v := iv (((lexF s).1.length : Nat) : Int)) (fun hg => by have x2 : (lexF s).2.2 = (0 : Int) := (by simpa using hg); exact (by simp only [gv_t hg]; exact rp_len_sl (s := (⟨x1_.1, x1_.2, (lexF s).1⟩ : Sl Tok)) Tryz.underlying102 rfl)) ?_; simp only [N]
 refine wl_g (wn_t rfl rfl) (v := .bool ((((lexF s).1.length : Nat) : Int) == (2 : Int))) (fun hg => by have x3 : (lexF s).2.2 = (0 : Int) := (by simpa using hg); exact (by simp only [gv_t hg]; exact rp_int_eql rfl (((lexF s).1.length : Nat) : Int) (2 : Int) rfl rfl)) ?_; simp only [N]
 refine wr (rp_pickA rfl (p := ((lexF s).2.2 == (0 : Int))) (q := ((((lexF s).1.length : Nat) : Int) == (2 : Int))) rfl rfl rfl) ?_; simp only [N]
 refine wmv (.bool (((lexF s).2.2 == (0 : Int)) && ((((lexF s).1.length : Nat) : Int) == (2 : Int)))) ?_; simp only [N]
 refine wl_g (wn_t rfl rfl) (v := (⟨x1_.1, x1_.2, (lexF s).1⟩ : Sl Tok).val) (fun hg => rp_move rfl (v := (⟨x1_.1, x1_.2, (lexF s).1⟩ : Sl Tok).val) rfl) ?_; simp only [N]
 refine wl_g (wn_t rfl rfl) (v := .pointer (some ⟨(⟨x1_.1, x1_.2, (lexF s).1⟩ : Sl Tok).blk, (⟨x1_.1, x1_.2, (lexF s).1⟩ : Sl Tok).off + 0 * 3, none⟩)) (fun hg => by have x6 : (lexF s).2.2 = (0 : Int) := (by simpa using (andl hg)); have x7 : (((lexF s).1.length : Nat) : Int) = (2 : Int) := (by simpa using (andr hg)); exact (by simp only [gv_t hg]; exact rp_indexAddr_sl (H.ro_at 0 rfl) rfl Tryz.underlying102 sz107 rfl 0 rfl (by show _ < (lexF s).1.length; omega))) ?_; simp only [N]
 refine wl_g (wn_t rfl rfl) (v := .agg (((lexF s).1.getD 0 default).cells).toArray) (fun hg => by have x8 : (lexF s).2.2 = (0 : Int) := (by simpa using (andl hg)); have x9 : (((lexF s).1.length : Nat) : Int) = (2 : Int) := (by simpa using (andr hg)); exact (by simp only [gv_t hg]; exact rp_loadN_sl (H.ro_at 0 rfl) 0 (by show _ < (lexF s).1.length; omega) rfl Tryz.underlying107 rfl rfl sz107)) ?_; simp only [N]
 refine wl_g (wn_t rfl rfl) (v := .string s) (fun hg => rp_move rfl (v := .string s) rfl) ?_; simp only [N]
 refine wl_g (wn_t rfl rfl) (v := .agg #[bv (1 : UInt8), .string s, iv (0 : Int)]) (fun hg => by have x12 : (lexF s).2.2 = (0 : Int) := (by simpa using (andl hg)); have x13 : (((lexF s).1.length : Nat) : Int) = (2 : Int) := (by simpa using (andr hg)); exact (by simp only [gv_t hg]; exact rp_build rfl (vs := [(0, bv (1 : UInt8)), (1, .string s)]) rfl (cs := #[bv (1 : UInt8), .string s, iv (0 : Int)]) (by kernel_rfl))) ?_; simp only [N]
 refine wl_g (wn_t rfl rfl) (v := .bool (decide ((lexF s).1.getD 0 default = (⟨1, s, 0⟩ : Tok)))) (fun hg => by have x14 : (lexF s).2.2 = (0 : Int) := (by simpa using (andl hg)); have x15 : (((lexF s).1.length : Nat) : Int) = (2 : Int) := (by simpa using (andr hg)); exact (by simp only [gv_t hg]; exact rp_eql_leafs rfl 6 (by decide) (by kernel_rfl) (by kernel_rfl) (ks := [.int .u8, .str, .int .i64]) (by kernel_rfl) (xs := ((lexF s).1.getD 0 default).cells) (ys := (⟨(1 : UInt8), s, (0 : Int)⟩ : Tok).cells) rfl rfl (by kernel_rfl) (by kernel_rfl) ⟨good_u8 _, good_str (by first | omega | (dsimp only; omega) | exact Nat.le_trans (lexF_at s 0).text (by omega)), good_i64 (by first | omega | (dsimp only; omega) | (have := (lexF_at s 0).place; omega)), trivial⟩ ⟨good_u8 _, good_str (by first | omega | (dsimp only; omega) | exact Nat.le_trans (lexF_at s 0).text (by omega)), good_i64 (by first | omega | (dsimp only; omega) | (have := (lexF_at s 0).place; omega)), trivial⟩ (r := (decide ((lexF s).1.getD 0 default = (⟨1, s, 0⟩ : Tok)))) (by exact Tok.cells_iff _ _))) ?_; simp only [N]
 refine wr (rp_pickA rfl (p := (((lexF s).2.2 == (0 : Int)) && ((((lexF s).1.length : Nat) : Int) == (2 : Int)))) (q := (decide ((lexF s).1.getD 0 default = (⟨1, s, 0⟩ : Tok)))) rfl rfl rfl) ?_; simp only [N]
 refine wasg (.bool ((((lexF s).2.2 == (0 : Int)) && ((((lexF s).1.length : Nat) : Int) == (2 : Int))) && (decide ((lexF s).1.getD 0 default = (⟨1, s, 0⟩ : Tok))))) ?_; simp only [N]
 refine wpList_nil ?_
 refine wp_ret ?_
 try simp only [Exit.inBlock, Exit.then, cutP]
 refine bodyPost_ret (results1 rfl (rv_tmp rfl)) rfl ?_
 have hF : (wordF s) = ((((lexF s).2.2 == (0 : Int)) && ((((lexF s).1.length : Nat) : Int) == (2 : Int))) && (decide ((lexF s).1.getD 0 default = (⟨1, s, 0⟩ : Tok)))) := rfl
 rw [hF]
 exact ⟨rfl, H.ext⟩

theorem IsProg.loc_at {p : Prog} {w : World} (h : IsProg p w) (k : Nat) : (p.locs.l.getD k default).size ≤ 140737488355328 := by
  rcases Nat.lt_or_ge k p.locs.l.length with hk | hk
  · exact h.loc _ (by rw [List.getD_eq_getElem?_getD, List.getElem?_eq_getElem hk]; exact List.getElem_mem hk)
  · rw [List.getD_eq_getElem?_getD, List.getElem?_eq_none hk]; exact Nat.zero_le _

def namesF_a (p : Prog) (xra : ByteArray) (ra : Nat → Bool) : Nat → Bool := fun s_ => match s_ with | a8 => bif ((!(nameF xra)) || ((p.locs.l.take a8).any fun y => decide (xra = y))) then false else (ra (a8 + 1))
def namesF_ak (p : Prog) : Nat → Bool := fun s_ => match s_ with | a8 => (((decide ((0 : Int) < (p.locs.l.length : Int))) && (decide ((p.locs.l.length : Int) ≤ (6 : Int)))) && ((p.init.l.length : Int) == (p.locs.l.length : Int)))
def namesF (p : Prog) : Bool :=
  loopL (namesF_a p) (namesF_ak p) p.locs.l 0


theorem namesF_spec (p : Prog) (w : World) (hp : (IsProg p) w) :
    Calls Tryz.prog 33 #[.agg p.cells.toArray] w fun e w' => e = .returned (.bool (namesF p)) ∧ Ext w w' := by
 have H := Own.start_ro w [IsProg p] (List.forall_mem_cons.2 ⟨fun w' hw => hp.keep hw, fun _ h => by cases h⟩)
 have hcp1 := hp.locs.2.2
 have hcp2 := hp.init.2.2
 have hcp3 := hp.threads.2.2
 go_enter Tryz.func33, Tryz.ntmps33
 refine wsr ?_
 refine wl_box H rfl rfl (v := .agg (p.cells).toArray) rfl ?_
 clear H; intro b1 w1 hnb1 H; dsimp only [Value.cells] at H
 simp only [N]
 refine wasg (.bool false) ?_; simp only [N]
 refine wpList_nil ?_
 refine wp_seq ?_; refine wsr ?_
 refine wr (rp_fieldAddr rfl Tryz.underlying29 rfl 1 rfl sz22 rfl 1 rfl) ?_; simp only [N]
 refine wr (rp_load1 H 0 rfl rfl rfl Tryz.underlying22 rfl (v := p.locs.val) rfl) ?_; simp only [N]
 refine wr (rp_len_sl (s := p.locs) Tryz.underlying22 rfl) ?_; simp only [N]
 refine wmv (iv (0 : Int)) ?_; simp only [N]
 refine wpList_nil ?_
 refine wp_block ?_
 refine wp_loopX (fun m' a' w' => ∃ (a8 : Nat) (u2 u3 u4 u9 u10 u11 u12 u13 u14 u15 u16 u17 u18 u19 u20 u21 u22 u23 u24 : Value), a' = ⟨#[.agg (p.cells).toArray, .pointer (some ⟨b1, 0, none⟩), u2, u3, u4, .pointer (some ⟨b1, 1, none⟩), p.locs.val, iv (p.locs.l.length : Int), iv (a8 : Int), u9, u10, u11, u12, u13, u14, u15, u16, u17, u18, u19, u20, u21, u22, u23, u24, uU, uU, uU, uU, uU, uU, uU, uU, uU, uU, uU, uU, uU, uU, uU, uU, uU, uU, uU], []⟩ ∧ Own w [] [IsProg p] [.blk b1 (.cells (p.cells).toArray 29 (0, 0))] w' ∧ (a8 ≤ p.locs.l.length) ∧ (namesF p) = loopL (namesF_a p) (namesF_ak p) (p.locs.l.drop a8) a8 ∧ m' = p.locs.l.length - a8) _ ⟨0, _, _, _, _, _, _, _, _, _, _, _, _, _, _, _, _, _, _, _, rfl, H, (by omega), rfl, rfl⟩ ?_
 clear H
 rintro _ _ w2 ⟨a8, u2, u3, u4, u9, u10, u11, u12, u13, u14, u15, u16, u17, u18, u19, u20, u21, u22, u23, u24, rfl, H, hia0, hFa, rfl⟩
 refine wsr ?_
 refine wr (rp_int_lss rfl (a8 : Int) (p.locs.l.length : Int) rfl rfl) ?_; simp only [N]
 refine wpList_nil ?_
 refine wp_seq ?_; refine wp_cond_split rfl (fun hc1 => ?_) (fun hc1 => ?_)
 · --T 1
  have hc1N1 : (a8 : Int) < (p.locs.l.length : Int) := (by simpa using hc1)
  obtain ⟨ra, hra⟩ : ∃ r, r = loopL (namesF_a p) (namesF_ak p) (p.locs.l.drop (a8 + 1)) := ⟨_, rfl⟩
  have hFa2 := hFa.trans (loopL_step (show a8 < p.locs.l.length by omega))
  rw [← hra] at hFa2
  refine wp_skip ?_
  refine wp_seq ?_; refine wp_block ?_
  refine wsr ?_
  refine wmv (iv (a8 : Int)) ?_; simp only [N]
  refine wr (rp_indexAddr_sl (IsProg.locs (H.ro_at 0 rfl)) rfl Tryz.underlying22 sz9 rfl a8 rfl (by omega)) ?_; simp only [N]
  refine wr (rp_load1_sl (IsProg.locs (H.ro_at 0 rfl)) a8 (by omega) rfl Tryz.underlying9 rfl 0 rfl (by omega) (v := .string (p.locs.l.getD a8 default)) rfl) ?_; simp only [N]
  refine wasg (iv (a8 : Int)) ?_; simp only [N]
  refine wasg (.string (p.locs.l.getD a8 default)) ?_; simp only [N]
  refine wnr ?_
  refine wmv (.string (p.locs.l.getD a8 default)) ?_; simp only [N]
  refine wl_callE H rfl (rc_go Tryz.func50 (by kernel_rfl) rfl) (name_spec (p.locs.l.getD a8 default) _ (hp.loc_at _)) ?_
  clear H; intro w3 H
  simp only [N]
  refine wr (rp_not rfl (nameF (p.locs.l.getD a8 default)) rfl) ?_; simp only [N]
  refine wmv (.bool (!(nameF (p.locs.l.getD a8 default)))) ?_; simp only [N]
  refine wl_g (wn_f rfl rfl) (v := .pointer (some ⟨b1, 1, none⟩)) (fun hg => rp_fieldAddr rfl Tryz.underlying29 rfl 1 rfl sz22 rfl 1 rfl) ?_; simp only [N]
  refine wl_g (wn_f rfl rfl) (v := p.locs.val) (fun hg => by simp only [gv_t hg]; exact rp_load1 H 0 rfl rfl rfl Tryz.underlying22 rfl (v := p.locs.val) rfl) ?_; simp only [N]
  refine wl_g (wn_f rfl rfl) (v := iv (a8 : Int)) (fun hg => rp_move rfl (v := iv (a8 : Int)) rfl) ?_; simp only [N]
  refine wl_g (wn_f rfl rfl) (v := (⟨p.locs.ad, p.locs.cap, p.locs.l.take a8⟩ : Sl ByteArray).val) (fun hg => by simp only [gv_t hg]; exact rp_slice_slh (IsProg.locs (H.ro_at 0 rfl)) rfl Tryz.underlying22 sz9 rfl a8 rfl (by omega)) ?_; simp only [N]
  refine wl_g (wn_f rfl rfl) (v := .string (p.locs.l.getD a8 default)) (fun hg => rp_move rfl (v := .string (p.locs.l.getD a8 default)) rfl) ?_; simp only [N]
  refine wl_gE H (wn_f rfl rfl) (fun hg => fun w => by simp only [gv_t hg]; exact rc_go Tryz.func51 (by kernel_rfl) rfl w) (v := .bool ((p.locs.l.take a8).any fun y => decide ((p.locs.l.getD a8 default) = y))) (fun hg => contains_str (⟨p.locs.ad, p.locs.cap, p.locs.l.take a8⟩ : Sl ByteArray) (p.locs.l.getD a8 default) _ (SlIn.take (IsProg.locs (H.ro_at 0 rfl)) a8 (by omega))) ?_
  clear H; intro w4 H
  simp only [N]
  refine wr (rp_pickO rfl (p := (!(nameF (p.locs.l.getD a8 default)))) (q := ((p.locs.l.take a8).any fun y => decide ((p.locs.l.getD a8 default) = y))) rfl rfl rfl) ?_; simp only [N]
  refine wpList_nil ?_
  refine wp_cond_split rfl (fun hc2 => ?_) (fun hc2 => ?_)
  · --T 2
   refine wsr ?_
   refine wasg (.bool false) ?_; simp only [N]
   refine wpList_nil ?_
   refine wp_ret ?_
   try simp only [Exit.inBlock, Exit.then, cutP]
   refine bodyPost_ret (results1 rfl (rv_tmp rfl)) rfl ?_
   have hF : (namesF p) = false := hFa2.trans (bt hc2)
   rw [hF]
   exact ⟨rfl, H.ext⟩
  · --F 2
   refine wp_skip ?_
   refine wp_region_lit ?_; refine wr (rp_int_add rfl (a8 : Int) (1 : Int) rfl rfl (by omega)) ?_; simp only [N]
   refine wmv (iv ((a8 : Int) + (1 : Int))) ?_; simp only [N]
   refine wpList_nil ?_
   show ∃ n', n' < _ ∧ _
   refine ⟨_, ?_, (a8 + 1), _, _, _, _, _, _, _, _, _, _, _, _, _, _, _, _, _, _, _, rfl, H, (by omega), (hFa2.trans (bf hc2)).trans (congrFun hra _), rfl⟩
   omega
 · --F 1
  have hc1N2 : (p.locs.l.length : Int) ≤ (a8 : Int) := (by simpa using hc1)
  have hFa2 := hFa.trans (loopL_end (show p.locs.l.length ≤ a8 by omega))
  refine wp_exit ?_
  refine wsr ?_
  refine wr (rp_fieldAddr rfl Tryz.underlying29 rfl 1 rfl sz22 rfl 1 rfl) ?_; simp only [N]
  refine wr (rp_load1 H 0 rfl rfl rfl Tryz.underlying22 rfl (v := p.locs.val) rfl) ?_; simp only [N]
  refine wr (rp_len_sl (s := p.locs) Tryz.underlying22 rfl) ?_; simp only [N]
  refine wr (rp_int_gtr rfl (p.locs.l.length : Int) (0 : Int) rfl rfl) ?_; simp only [N]
  refine wmv (.bool (decide ((0 : Int) < (p.locs.l.length : Int)))) ?_; simp only [N]
  refine wl_g (wn_t rfl rfl) (v := .pointer (some ⟨b1, 1, none⟩)) (fun hg => rp_fieldAddr rfl Tryz.underlying29 rfl 1 rfl sz22 rfl 1 rfl) ?_; simp only [N]
  refine wl_g (wn_t rfl rfl) (v := p.locs.val) (fun hg => by have x4 : (0 : Int) < (p.locs.l.length : Int) := (by simpa using hg); exact (by simp only [gv_t hg]; exact rp_load1 H 0 rfl rfl rfl Tryz.underlying22 rfl (v := p.locs.val) rfl)) ?_; simp only [N]
  refine wl_g (wn_t rfl rfl) (v := iv (p.locs.l.length : Int)) (fun hg => by have x5 : (0 : Int) < (p.locs.l.length : Int) := (by simpa using hg); exact (by simp only [gv_t hg]; exact rp_len_sl (s := p.locs) Tryz.underlying22 rfl)) ?_; simp only [N]
  refine wl_g (wn_t rfl rfl) (v := .bool (decide ((p.locs.l.length : Int) ≤ (6 : Int)))) (fun hg => by have x6 : (0 : Int) < (p.locs.l.length : Int) := (by simpa using hg); exact (by simp only [gv_t hg]; exact rp_int_leq rfl (p.locs.l.length : Int) (6 : Int) rfl rfl)) ?_; simp only [N]
  refine wr (rp_pickA rfl (p := (decide ((0 : Int) < (p.locs.l.length : Int)))) (q := (decide ((p.locs.l.length : Int) ≤ (6 : Int)))) rfl rfl rfl) ?_; simp only [N]
  refine wmv (.bool ((decide ((0 : Int) < (p.locs.l.length : Int))) && (decide ((p.locs.l.length : Int) ≤ (6 : Int))))) ?_; simp only [N]
  refine wl_g (wn_t rfl rfl) (v := .pointer (some ⟨b1, 2, none⟩)) (fun hg => rp_fieldAddr rfl Tryz.underlying29 rfl 2 rfl sz23 rfl 2 rfl) ?_; simp only [N]
  refine wl_g (wn_t rfl rfl) (v := p.init.val) (fun hg => by have x9 : (0 : Int) < (p.locs.l.length : Int) := (by simpa using (andl hg)); have x10 : (p.locs.l.length : Int) ≤ (6 : Int) := (by simpa using (andr hg)); exact (by simp only [gv_t hg]; exact rp_load1 H 0 rfl rfl rfl Tryz.underlying23 rfl (v := p.init.val) rfl)) ?_; simp only [N]
  refine wl_g (wn_t rfl rfl) (v := iv (p.init.l.length : Int)) (fun hg => by have x11 : (0 : Int) < (p.locs.l.length : Int) := (by simpa using (andl hg)); have x12 : (p.locs.l.length : Int) ≤ (6 : Int) := (by simpa using (andr hg)); exact (by simp only [gv_t hg]; exact rp_len_sl (s := p.init) Tryz.underlying23 rfl)) ?_; simp only [N]
  refine wl_g (wn_t rfl rfl) (v := .pointer (some ⟨b1, 1, none⟩)) (fun hg => rp_fieldAddr rfl Tryz.underlying29 rfl 1 rfl sz22 rfl 1 rfl) ?_; simp only [N]
  refine wl_g (wn_t rfl rfl) (v := p.locs.val) (fun hg => by have x15 : (0 : Int) < (p.locs.l.length : Int) := (by simpa using (andl hg)); have x16 : (p.locs.l.length : Int) ≤ (6 : Int) := (by simpa using (andr hg)); exact (by simp only [gv_t hg]; exact rp_load1 H 0 rfl rfl rfl Tryz.underlying22 rfl (v := p.locs.val) rfl)) ?_; simp only [N]
  refine wl_g (wn_t rfl rfl) (v := iv (p.locs.l.length : Int)) (fun hg => by have x17 : (0 : Int) < (p.locs.l.length : Int) := (by simpa using (andl hg)); have x18 : (p.locs.l.length : Int) ≤ (6 : Int) := (by simpa using (andr hg)); exact (by simp only [gv_t hg]; exact rp_len_sl (s := p.locs) Tryz.underlying22 rfl)) ?_; simp only [N]
  refine wl_g (wn_t rfl rfl) (v := .bool ((p.init.l.length : Int) == (p.locs.l.length : Int))) (fun hg => by have x19 : (0 : Int) < (p.locs.l.length : Int) := (by simpa using (andl hg)); have x20 : (p.locs.l.length : Int) ≤ (6 : Int) := (by simpa using (andr hg)); exact (by simp only [gv_t hg]; exact rp_int_eql rfl (p.init.l.length : Int) (p.locs.l.length : Int) rfl rfl)) ?_; simp only [N]
  refine wr (rp_pickA rfl (p := ((decide ((0 : Int) < (p.locs.l.length : Int))) && (decide ((p.locs.l.length : Int) ≤ (6 : Int))))) (q := ((p.init.l.length : Int) == (p.locs.l.length : Int))) rfl rfl rfl) ?_; simp only [N]
  refine wasg (.bool (((decide ((0 : Int) < (p.locs.l.length : Int))) && (decide ((p.locs.l.length : Int) ≤ (6 : Int)))) && ((p.init.l.length : Int) == (p.locs.l.length : Int)))) ?_; simp only [N]
  refine wpList_nil ?_
  refine wp_ret ?_
  try simp only [Exit.inBlock, Exit.then, cutP]
  refine bodyPost_ret (results1 rfl (rv_tmp rfl)) rfl ?_
  have hF : (namesF p) = (((decide ((0 : Int) < (p.locs.l.length : Int))) && (decide ((p.locs.l.length : Int) ≤ (6 : Int)))) && ((p.init.l.length : Int) == (p.locs.l.length : Int))) := hFa2
  rw [hF]
  exact ⟨rfl, H.ext⟩

def CondF (c : Cond) (t : Int) (l : Int) : Bool :=
  ((decide ((((deepF c) : Nat) : Int) ≤ (20 : Int))) && (condF c t l))


theorem CondF_spec (c : Cond) (t : Int) (l : Int) (hdc : deepF c ≤ 140737488355328) (w : World) (hc : (fun w => CondIn w c) w) :
    Calls Tryz.prog 35 #[.agg c.cells.toArray, iv t, iv l] w fun e w' => e = .returned (.bool (CondF c t l)) ∧ Ext w w' := by
 have H := Own.start_ro w [(fun w => CondIn w c)] (List.forall_mem_cons.2 ⟨fun w' hw => hc.keep hw, fun _ h => by cases h⟩)
 go_enter Tryz.func35, Tryz.ntmps35
 refine wsr ?_
 refine wl_box H rfl rfl (v := .agg (c.cells).toArray) rfl ?_
 clear H; intro b1 w1 hnb1 H; dsimp only [Value.cells] at H
 simp only [N]
 refine wasg (.bool false) ?_; simp only [N]
 refine wnr ?_
 refine wr (rp_loadN H 0 rfl rfl rfl Tryz.underlying27 rfl sz27 (Nat.le_of_ble_eq_true rfl) (cs' := c.cells) rfl) ?_; simp only [N]
 refine wl_callE H rfl (rc_go Tryz.func53 (by kernel_rfl) rfl) (deep_spec c _ (H.ro_at 0 rfl) (by first | assumption | omega | exact IsProg.deep (by assumption))) ?_
 clear H; intro w2 H
 simp only [N]
 refine wr (rp_int_leq rfl (((deepF c) : Nat) : Int) (20 : Int) rfl rfl) ?_; simp only [N]
 refine wmv (.bool (decide ((((deepF c) : Nat) : Int) ≤ (20 : Int)))) ?_; simp only [N]
 refine wl_g (wn_t rfl rfl) (v := .agg (c.cells).toArray) (fun hg => rp_loadN H 0 rfl rfl rfl Tryz.underlying27 rfl sz27 (Nat.le_of_ble_eq_true rfl) (cs' := c.cells) rfl) ?_; simp only [N]
 refine wl_g (wn_t rfl rfl) (v := iv t) (fun hg => rp_move rfl (v := iv t) rfl) ?_; simp only [N]
 refine wl_g (wn_t rfl rfl) (v := iv l) (fun hg => rp_move rfl (v := iv l) rfl) ?_; simp only [N]
 refine wl_gE H (wn_t rfl rfl) (fun hg => fun w => by simp only [gv_t hg]; exact rc_go Tryz.func54 (by kernel_rfl) rfl w) (v := .bool (condF c t l)) (fun hg => by have x4 : (((deepF c) : Nat) : Int) ≤ (20 : Int) := (by simpa using hg); exact (cond_spec c t l _ (H.ro_at 0 rfl))) ?_
 clear H; intro w3 H
 simp only [N]
 refine wr (rp_pickA rfl (p := (decide ((((deepF c) : Nat) : Int) ≤ (20 : Int)))) (q := (condF c t l)) rfl rfl rfl) ?_; simp only [N]
 refine wasg (.bool ((decide ((((deepF c) : Nat) : Int) ≤ (20 : Int))) && (condF c t l))) ?_; simp only [N]
 refine wpList_nil ?_
 refine wp_ret ?_
 try simp only [Exit.inBlock, Exit.then, cutP]
 refine bodyPost_ret (results1 rfl (rv_tmp rfl)) rfl ?_
 have hF : (CondF c t l) = ((decide ((((deepF c) : Nat) : Int) ≤ (20 : Int))) && (condF c t l)) := rfl
 rw [hF]
 exact ⟨rfl, H.ext⟩

theorem indexFunc_slins (s : Sl (Sl Ins)) (f : Nat) (first cap : List Value) (p : (Sl Ins) → Bool) (w : World) (hs : SlIn 1 eSl s w) (hf : IsFn Tryz.prog f)
    (hc : ∀ k, k < s.l.length → ∀ w', Ext w w' → Calls Tryz.prog f (first ++ [(s.l.getD k default).val] ++ cap).toArray w' fun e w'' => e = .returned (.bool (p (s.l.getD k default))) ∧ Ext w' w'') :
    Calls Tryz.prog 52 #[s.val, .func (.func f) first.toArray cap.toArray] w fun e w' => e = .returned (iv (idxOf p s.l 0)) ∧ Ext w w' := by
 have H := Own.start_ro w [SlIn 1 eSl s] (by simpa [HangsBelow] using fun w' hw => hs.keep hw)
 have hcap := hs.2.2
 go_enter Tryz.func52, Tryz.ntmps52
 refine wsr ?_
 refine wasg (iv (0 : Int)) ?_; simp only [N]
 refine wpList_nil ?_
 refine wp_seq ?_; refine wsr ?_
 refine wmv (s.val) ?_; simp only [N]
 refine wr (rp_len_sl (s := s) Tryz.underlying24 rfl) ?_; simp only [N]
 refine wmv (iv (0 : Int)) ?_; simp only [N]
 refine wpList_nil ?_
 refine wp_block ?_
 refine wp_loopX (fun m' a' w' => ∃ (k : Nat) (u4 u5 u9 u10 u11 u12 u13 u14 u15 u16 u17 u18 : Value), a' = ⟨#[s.val, .func (.func f) first.toArray cap.toArray, uU, uU, u4, u5, s.val, iv (s.l.length : Int), iv (k : Int), u9, u10, u11, u12, u13, u14, u15, u16, u17, u18], []⟩ ∧ Own w [] [SlIn 1 eSl s] [] w' ∧ (k ≤ s.l.length) ∧ (∀ j, j < k → p (s.l.getD j default) = false) ∧ m' = s.l.length - k) _ ⟨0, _, _, _, _, _, _, _, _, _, _, _, _, rfl, H, (by simp), (by intro j hj; omega), rfl⟩ ?_
 clear H
 rintro _ _ w1 ⟨k, u4, u5, u9, u10, u11, u12, u13, u14, u15, u16, u17, u18, rfl, H, hi1_0, hi1_1, rfl⟩
 refine wsr ?_
 refine wr (rp_int_lss rfl (k : Int) (s.l.length : Int) rfl rfl) ?_; simp only [N]
 refine wpList_nil ?_
 refine wp_seq ?_; refine wp_cond_split rfl (fun hc1 => ?_) (fun hc1 => ?_)
 · --T 1
  have hc1N : (k : Int) < (s.l.length : Int) := by simpa using hc1
  refine wp_skip ?_
  refine wp_seq ?_; refine wp_block ?_
  refine wsr ?_
  refine wmv (iv (k : Int)) ?_; simp only [N]
  refine wasg (iv (k : Int)) ?_; simp only [N]
  refine wnr ?_
  refine wmv (.func (.func f) first.toArray cap.toArray) ?_; simp only [N]
  refine wmv (s.val) ?_; simp only [N]
  refine wmv (iv (k : Int)) ?_; simp only [N]
  refine wr (rp_indexAddr_sl (H.ro_at 0 rfl) rfl Tryz.underlying24 sz59 rfl k rfl (by omega)) ?_; simp only [N]
  refine wr (rp_load1_sl (H.ro_at 0 rfl) k (by omega) rfl Tryz.underlying59 rfl 0 rfl (by omega) (v := (s.l.getD k default).val) rfl) ?_; simp only [N]
  refine wl_callE H rfl (rc_fnv (first := first) (captured := cap) rfl hf) (hc k (by omega) _ H.ext) ?_
  clear H; intro w2 H
  simp only [N]
  refine wpList_nil ?_
  refine wp_cond_split rfl (fun hc2 => ?_) (fun hc2 => ?_)
  · --T 2
   refine wsr ?_
   refine wmv (iv (k : Int)) ?_; simp only [N]
   refine wasg (iv (k : Int)) ?_; simp only [N]
   refine wpList_nil ?_
   refine wp_ret ?_
   try simp only [Exit.inBlock, Exit.then]
   refine bodyPost_ret (results1 rfl (rv_tmp rfl)) rfl ?_
   exact ⟨by rw [idxOf_some (k := k) (by omega) hi1_1 (by simpa using hc2)]; simp, H.ext⟩
  · --F 2
   refine wp_skip ?_
   refine wp_region_lit ?_; refine wr (rp_int_add rfl (k : Int) (1 : Int) rfl rfl (by omega)) ?_; simp only [N]
   refine wmv (iv ((k : Int) + (1 : Int))) ?_; simp only [N]
   refine wpList_nil ?_
   show ∃ n', n' < _ ∧ _
   refine ⟨_, ?_, k + 1, _, _, _, _, _, _, _, _, _, _, _, _, rfl, H, ?_, ?_, rfl⟩
   · omega
   · omega
   · exact upto hi1_1 (by simpa using hc2)
 · --F 1
  have hc1N : (s.l.length : Int) ≤ (k : Int) := by simpa using hc1
  refine wp_exit ?_
  refine wsr ?_
  refine wasg (iv (-1 : Int)) ?_; simp only [N]
  refine wpList_nil ?_
  refine wp_ret ?_
  try simp only [Exit.inBlock, Exit.then]
  refine bodyPost_ret (results1 rfl (rv_tmp rfl)) rfl ?_
  exact ⟨by rw [idxOf_none fun j hj => hi1_1 j (by omega)]; rfl, H.ext⟩

theorem containsFunc_slins (s : Sl (Sl Ins)) (f : Nat) (first cap : List Value) (p : (Sl Ins) → Bool) (w : World) (hs : SlIn 1 eSl s w) (hf : IsFn Tryz.prog f)
    (hc : ∀ k, k < s.l.length → ∀ w', Ext w w' → Calls Tryz.prog f (first ++ [(s.l.getD k default).val] ++ cap).toArray w' fun e w'' => e = .returned (.bool (p (s.l.getD k default))) ∧ Ext w' w'') :
    Calls Tryz.prog 34 #[s.val, .func (.func f) first.toArray cap.toArray] w fun e w' => e = .returned (.bool (s.l.any p)) ∧ Ext w w' := by
 have H := Own.start_ro w [SlIn 1 eSl s] (by simpa [HangsBelow] using fun w' hw => hs.keep hw)
 go_enter Tryz.func34, Tryz.ntmps34
 refine wsr ?_
 refine wasg (.bool false) ?_; simp only [N]
 refine wnr ?_
 refine wmv (s.val) ?_; simp only [N]
 refine wmv (.func (.func f) first.toArray cap.toArray) ?_; simp only [N]
 refine wl_callE H rfl (rc_go Tryz.func52 (by kernel_rfl) rfl) (indexFunc_slins s f first cap p _ (H.ro_at 0 rfl) hf (fun k hk w1 hw => hc k hk w1 (H.ext.trans hw))) ?_
 clear H; intro w1 H
 simp only [N]
 refine wr (rp_int_geq rfl (idxOf p s.l 0) (0 : Int) rfl rfl) ?_; simp only [N]
 refine wasg (.bool (decide ((0 : Int) ≤ (idxOf p s.l 0)))) ?_; simp only [N]
 refine wpList_nil ?_
 refine wp_ret ?_
 try simp only [Exit.inBlock, Exit.then]
 refine bodyPost_ret (results1 rfl (rv_tmp rfl)) rfl ?_
 exact ⟨by rw [idxOf_any]; rfl, H.ext⟩

theorem right1b_spec (s : Sl Ins) (w : World) : Calls Tryz.prog 29 ([] ++ [s.val] ++ []).toArray w fun e w' => e = .returned (.bool (decide (((12 : Nat) : Int) < (s.l.length : Int)))) ∧ Ext w w' :=
  (right1_spec s w).mono fun e w' ⟨he, hw⟩ => ⟨by rw [he]; congr 2; simp; omega, hw⟩

def rightF (p : Prog) : Int :=
  bif (!(wordF p.name)) then (70 : Int) else (bif (!(namesF p)) then (71 : Int) else (bif ((((p.threads.l.length : Int) == (0 : Int)) || (decide ((4 : Int) < (p.threads.l.length : Int)))) || (p.threads.l.any (fun k => decide (((12 : Nat) : Int) < (k.l.length : Int))))) then (72 : Int) else (bif (p.threads.l.any (fun k => !threadF k.l p.locs.l.length)) then (73 : Int) else (bif ((decide (p.ask < (1 : UInt8))) || (decide ((3 : UInt8) < p.ask))) then (75 : Int) else (bif (!(CondF p.cond (p.threads.l.length : Int) (p.locs.l.length : Int))) then (74 : Int) else (0 : Int))))))


theorem rightF_spec (p : Prog) (w : World) (hp : (IsProg p) w) (hg_ : Glob w) :
    Calls Tryz.prog 11 #[.agg p.cells.toArray] w fun e w' => e = .returned (iv (rightF p)) ∧ Ext w w' := by
 have H := Own.start_ro w [IsProg p, Glob] (List.forall_mem_cons.2 ⟨fun w' hw => hp.keep hw, List.forall_mem_cons.2 ⟨fun w' hw => hg_.keep hw, fun _ h => by cases h⟩⟩)
 have hcp1 := hp.locs.2.2
 have hcp2 := hp.init.2.2
 have hcp3 := hp.threads.2.2
 go_enter Tryz.func11, Tryz.ntmps11
 refine wsr ?_
 refine wl_box H rfl rfl (v := .agg (p.cells).toArray) rfl ?_
 clear H; intro b1 w1 hnb1 H; dsimp only [Value.cells] at H
 simp only [N]
 refine wasg (iv (0 : Int)) ?_; simp only [N]
 refine wnr ?_
 refine wasg (.func (.func 29) #[] #[]) ?_; simp only [N]
 refine wnr ?_
 refine wr (rp_makeFuncL rfl (fs := []) (cs := [.pointer (some ⟨b1, 0, none⟩)]) rfl rfl) ?_; simp only [N]
 refine wasg (.func (.func 30) #[] #[.pointer (some ⟨b1, 0, none⟩)]) ?_; simp only [N]
 refine wpList_nil ?_
 refine wp_seq ?_; refine wp_block ?_
 refine wsr ?_
 refine wr (rp_fieldAddr rfl Tryz.underlying29 rfl 0 rfl sz9 rfl 0 rfl) ?_; simp only [N]
 refine wr (rp_load1 H 0 rfl rfl rfl Tryz.underlying9 rfl (v := .string p.name) rfl) ?_; simp only [N]
 refine wl_callE H rfl (rc_go Tryz.func32 (by kernel_rfl) rfl) (wordF_spec p.name (by first | assumption | omega | exact hp.name | exact hp.loc_at _) _ (H.ro_at 1 rfl)) ?_
 clear H; intro w2 H
 simp only [N]
 refine wr (rp_not rfl (wordF p.name) rfl) ?_; simp only [N]
 refine wasg (.bool (!(wordF p.name))) ?_; simp only [N]
 refine wpList_nil ?_
 refine wp_cond_split rfl (fun hc1 => ?_) (fun hc1 => ?_)
 · --T 1
  refine wsr ?_
  refine wasg (iv (70 : Int)) ?_; simp only [N]
  refine wpList_nil ?_
  refine wp_ret ?_
  try simp only [Exit.inBlock, Exit.then, cutP]
  refine bodyPost_ret (results1 rfl (rv_tmp rfl)) rfl ?_
  have hF : (rightF p) = (70 : Int) := bt hc1
  rw [hF]
  exact ⟨rfl, H.ext⟩
 · --F 1
  refine wsr ?_
  refine wr (rp_loadN H 0 rfl rfl rfl Tryz.underlying29 rfl sz29 (Nat.le_of_ble_eq_true rfl) (cs' := p.cells) rfl) ?_; simp only [N]
  refine wl_callE H rfl (rc_go Tryz.func33 (by kernel_rfl) rfl) (namesF_spec p _ (H.ro_at 0 rfl)) ?_
  clear H; intro w3 H
  simp only [N]
  refine wr (rp_not rfl (namesF p) rfl) ?_; simp only [N]
  refine wasg (.bool (!(namesF p))) ?_; simp only [N]
  refine wpList_nil ?_
  refine wp_cond_split rfl (fun hc2 => ?_) (fun hc2 => ?_)
  · --T 2
   refine wsr ?_
   refine wasg (iv (71 : Int)) ?_; simp only [N]
   refine wpList_nil ?_
   refine wp_ret ?_
   try simp only [Exit.inBlock, Exit.then, cutP]
   refine bodyPost_ret (results1 rfl (rv_tmp rfl)) rfl ?_
   have hF : (rightF p) = (71 : Int) := (bf hc1).trans (bt hc2)
   rw [hF]
   exact ⟨rfl, H.ext⟩
  · --F 2
   refine wsr ?_
   refine wr (rp_fieldAddr rfl Tryz.underlying29 rfl 3 rfl sz24 rfl 3 rfl) ?_; simp only [N]
   refine wr (rp_load1 H 0 rfl rfl rfl Tryz.underlying24 rfl (v := p.threads.val) rfl) ?_; simp only [N]
   refine wr (rp_len_sl (s := p.threads) Tryz.underlying24 rfl) ?_; simp only [N]
   refine wr (rp_int_eql rfl (p.threads.l.length : Int) (0 : Int) rfl rfl) ?_; simp only [N]
   refine wmv (.bool ((p.threads.l.length : Int) == (0 : Int))) ?_; simp only [N]
   refine wl_g (wn_f rfl rfl) (v := .pointer (some ⟨b1, 3, none⟩)) (fun hg => rp_fieldAddr rfl Tryz.underlying29 rfl 3 rfl sz24 rfl 3 rfl) ?_; simp only [N]
   refine wl_g (wn_f rfl rfl) (v := p.threads.val) (fun hg => by have x2 : (p.threads.l.length : Int) ≠ (0 : Int) := (by simpa using (notT hg)); exact (by simp only [gv_t hg]; exact rp_load1 H 0 rfl rfl rfl Tryz.underlying24 rfl (v := p.threads.val) rfl)) ?_; simp only [N]
   refine wl_g (wn_f rfl rfl) (v := iv (p.threads.l.length : Int)) (fun hg => by have x3 : (p.threads.l.length : Int) ≠ (0 : Int) := (by simpa using (notT hg)); exact (by simp only [gv_t hg]; exact rp_len_sl (s := p.threads) Tryz.underlying24 rfl)) ?_; simp only [N]
   refine wl_g (wn_f rfl rfl) (v := .bool (decide ((4 : Int) < (p.threads.l.length : Int)))) (fun hg => by have x4 : (p.threads.l.length : Int) ≠ (0 : Int) := (by simpa using (notT hg)); exact (by simp only [gv_t hg]; exact rp_int_gtr rfl (p.threads.l.length : Int) (4 : Int) rfl rfl)) ?_; simp only [N]
   refine wr (rp_pickO rfl (p := ((p.threads.l.length : Int) == (0 : Int))) (q := (decide ((4 : Int) < (p.threads.l.length : Int)))) rfl rfl rfl) ?_; simp only [N]
   refine wmv (.bool (((p.threads.l.length : Int) == (0 : Int)) || (decide ((4 : Int) < (p.threads.l.length : Int))))) ?_; simp only [N]
   refine wl_g (wn_f rfl rfl) (v := .pointer (some ⟨b1, 3, none⟩)) (fun hg => rp_fieldAddr rfl Tryz.underlying29 rfl 3 rfl sz24 rfl 3 rfl) ?_; simp only [N]
   refine wl_g (wn_f rfl rfl) (v := p.threads.val) (fun hg => by have x7 : (p.threads.l.length : Int) ≠ (0 : Int) := (by simpa using (orl (notT hg))); have x8 : (p.threads.l.length : Int) ≤ (4 : Int) := (by simpa using (orr (notT hg))); exact (by simp only [gv_t hg]; exact rp_load1 H 0 rfl rfl rfl Tryz.underlying24 rfl (v := p.threads.val) rfl)) ?_; simp only [N]
   refine wl_g (wn_f rfl rfl) (v := .func (.func 29) #[] #[]) (fun hg => rp_move rfl (v := .func (.func 29) #[] #[]) rfl) ?_; simp only [N]
   refine wl_gE H (wn_f rfl rfl) (fun hg => fun w => by simp only [gv_t hg]; exact rc_go Tryz.func34 (by kernel_rfl) rfl w) (v := .bool (p.threads.l.any (fun k => decide (((12 : Nat) : Int) < (k.l.length : Int))))) (fun hg => by have x11 : (p.threads.l.length : Int) ≠ (0 : Int) := (by simpa using (orl (notT hg))); have x12 : (p.threads.l.length : Int) ≤ (4 : Int) := (by simpa using (orr (notT hg))); exact (containsFunc_slins p.threads 29 [] [] (fun k => decide (((12 : Nat) : Int) < (k.l.length : Int))) _ (IsProg.threads (H.ro_at 0 rfl)) ⟨⟨_, _, Tryz.func29, by kernel_rfl, rfl⟩⟩ (fun k hk w1 hw => right1b_spec _ _))) ?_
   clear H; intro w4 H
   simp only [N]
   refine wr (rp_pickO rfl (p := (((p.threads.l.length : Int) == (0 : Int)) || (decide ((4 : Int) < (p.threads.l.length : Int))))) (q := (p.threads.l.any (fun k => decide (((12 : Nat) : Int) < (k.l.length : Int))))) rfl rfl rfl) ?_; simp only [N]
   refine wasg (.bool ((((p.threads.l.length : Int) == (0 : Int)) || (decide ((4 : Int) < (p.threads.l.length : Int)))) || (p.threads.l.any (fun k => decide (((12 : Nat) : Int) < (k.l.length : Int)))))) ?_; simp only [N]
   refine wpList_nil ?_
   refine wp_cond_split rfl (fun hc3 => ?_) (fun hc3 => ?_)
   · --T 3
    refine wsr ?_
    refine wasg (iv (72 : Int)) ?_; simp only [N]
    refine wpList_nil ?_
    refine wp_ret ?_
    try simp only [Exit.inBlock, Exit.then, cutP]
    refine bodyPost_ret (results1 rfl (rv_tmp rfl)) rfl ?_
    have hF : (rightF p) = (72 : Int) := (bf hc1).trans ((bf hc2).trans (bt hc3))
    rw [hF]
    exact ⟨rfl, H.ext⟩
   · --F 3
    have hc3N13 : (p.threads.l.length : Int) ≠ (0 : Int) := (by simpa using (orl (orl hc3)))
    have hc3N14 : (p.threads.l.length : Int) ≤ (4 : Int) := (by simpa using (orr (orl hc3)))
    refine wsr ?_
    refine wr (rp_fieldAddr rfl Tryz.underlying29 rfl 3 rfl sz24 rfl 3 rfl) ?_; simp only [N]
    refine wr (rp_load1 H 0 rfl rfl rfl Tryz.underlying24 rfl (v := p.threads.val) rfl) ?_; simp only [N]
    refine wmv (.func (.func 30) #[] #[.pointer (some ⟨b1, 0, none⟩)]) ?_; simp only [N]
    refine wl_callE H rfl (rc_go Tryz.func34 (by kernel_rfl) rfl) (containsFunc_slins p.threads 30 [] [.pointer (some ⟨b1, 0, none⟩)] (fun k => !threadF k.l p.locs.l.length) _ (IsProg.threads (H.ro_at 0 rfl)) ⟨⟨_, _, Tryz.func30, by kernel_rfl, rfl⟩⟩ (fun k hk w1 hw => right2_spec _ _ _ p _ ((hw.prog (H.ext.prog hp)).ins_at hk) (hw.heap (H.blk (i := 0) rfl)) (by have := hp.locs.2.2; omega))) ?_
    clear H; intro w5 H
    simp only [N]
    refine wasg (.bool (p.threads.l.any (fun k => !threadF k.l p.locs.l.length))) ?_; simp only [N]
    refine wpList_nil ?_
    refine wp_cond_split rfl (fun hc4 => ?_) (fun hc4 => ?_)
    · --T 4
     refine wsr ?_
     refine wasg (iv (73 : Int)) ?_; simp only [N]
     refine wpList_nil ?_
     refine wp_ret ?_
     try simp only [Exit.inBlock, Exit.then, cutP]
     refine bodyPost_ret (results1 rfl (rv_tmp rfl)) rfl ?_
     have hF : (rightF p) = (73 : Int) := (bf hc1).trans ((bf hc2).trans ((bf hc3).trans (bt hc4)))
     rw [hF]
     exact ⟨rfl, H.ext⟩
    · --F 4
     refine wsr ?_
     refine wr (rp_fieldAddr rfl Tryz.underlying29 rfl 4 rfl sz5 rfl 4 rfl) ?_; simp only [N]
     refine wr (rp_load1 H 0 rfl rfl rfl Tryz.underlying5 rfl (v := bv p.ask) rfl) ?_; simp only [N]
     refine wr (rp_u8_lss rfl p.ask (1 : UInt8) rfl rfl) ?_; simp only [N]
     refine wmv (.bool (decide (p.ask < (1 : UInt8)))) ?_; simp only [N]
     refine wl_g (wn_f rfl rfl) (v := .pointer (some ⟨b1, 4, none⟩)) (fun hg => rp_fieldAddr rfl Tryz.underlying29 rfl 4 rfl sz5 rfl 4 rfl) ?_; simp only [N]
     refine wl_g (wn_f rfl rfl) (v := bv p.ask) (fun hg => by have x16 : 1 ≤ (p.ask).toNat := u8_ge (notT hg); exact (by simp only [gv_t hg]; exact rp_load1 H 0 rfl rfl rfl Tryz.underlying5 rfl (v := bv p.ask) rfl)) ?_; simp only [N]
     refine wl_g (wn_f rfl rfl) (v := .bool (decide ((3 : UInt8) < p.ask))) (fun hg => by have x17 : 1 ≤ (p.ask).toNat := u8_ge (notT hg); exact (by simp only [gv_t hg]; exact rp_u8_gtr rfl p.ask (3 : UInt8) rfl rfl)) ?_; simp only [N]
     refine wr (rp_pickO rfl (p := (decide (p.ask < (1 : UInt8)))) (q := (decide ((3 : UInt8) < p.ask))) rfl rfl rfl) ?_; simp only [N]
     refine wasg (.bool ((decide (p.ask < (1 : UInt8))) || (decide ((3 : UInt8) < p.ask)))) ?_; simp only [N]
     refine wpList_nil ?_
     refine wp_cond_split rfl (fun hc5 => ?_) (fun hc5 => ?_)
     · --T 5
      refine wsr ?_
      refine wasg (iv (75 : Int)) ?_; simp only [N]
      refine wpList_nil ?_
      refine wp_ret ?_
      try simp only [Exit.inBlock, Exit.then, cutP]
      refine bodyPost_ret (results1 rfl (rv_tmp rfl)) rfl ?_
      have hF : (rightF p) = (75 : Int) := (bf hc1).trans ((bf hc2).trans ((bf hc3).trans ((bf hc4).trans (bt hc5))))
      rw [hF]
      exact ⟨rfl, H.ext⟩
     · --F 5
      have hc5N18 : 1 ≤ (p.ask).toNat := u8_ge (orl hc5)
      have hc5N19 : (p.ask).toNat ≤ 3 := u8_ge (orr hc5)
      refine wsr ?_
      refine wr (rp_fieldAddr rfl Tryz.underlying29 rfl 5 rfl sz27 rfl 5 rfl) ?_; simp only [N]
      refine wr (rp_loadN H 0 rfl rfl rfl Tryz.underlying27 rfl sz27 (Nat.le_of_ble_eq_true rfl) (cs' := p.cond.cells) rfl) ?_; simp only [N]
      refine wr (rp_fieldAddr rfl Tryz.underlying29 rfl 3 rfl sz24 rfl 3 rfl) ?_; simp only [N]
      refine wr (rp_load1 H 0 rfl rfl rfl Tryz.underlying24 rfl (v := p.threads.val) rfl) ?_; simp only [N]
      refine wr (rp_len_sl (s := p.threads) Tryz.underlying24 rfl) ?_; simp only [N]
      refine wr (rp_fieldAddr rfl Tryz.underlying29 rfl 1 rfl sz22 rfl 1 rfl) ?_; simp only [N]
      refine wr (rp_load1 H 0 rfl rfl rfl Tryz.underlying22 rfl (v := p.locs.val) rfl) ?_; simp only [N]
      refine wr (rp_len_sl (s := p.locs) Tryz.underlying22 rfl) ?_; simp only [N]
      refine wl_callE H rfl (rc_go Tryz.func35 (by kernel_rfl) rfl) (CondF_spec p.cond (p.threads.l.length : Int) (p.locs.l.length : Int) (by first | assumption | omega | exact IsProg.deep (by assumption)) _ (IsProg.cond (H.ro_at 0 rfl))) ?_
      clear H; intro w6 H
      simp only [N]
      refine wr (rp_not rfl (CondF p.cond (p.threads.l.length : Int) (p.locs.l.length : Int)) rfl) ?_; simp only [N]
      refine wasg (.bool (!(CondF p.cond (p.threads.l.length : Int) (p.locs.l.length : Int)))) ?_; simp only [N]
      refine wpList_nil ?_
      refine wp_cond_split rfl (fun hc6 => ?_) (fun hc6 => ?_)
      · --T 6
       refine wsr ?_
       refine wasg (iv (74 : Int)) ?_; simp only [N]
       refine wpList_nil ?_
       refine wp_ret ?_
       try simp only [Exit.inBlock, Exit.then, cutP]
       refine bodyPost_ret (results1 rfl (rv_tmp rfl)) rfl ?_
       have hF : (rightF p) = (74 : Int) := (bf hc1).trans ((bf hc2).trans ((bf hc3).trans ((bf hc4).trans ((bf hc5).trans (bt hc6)))))
       rw [hF]
       exact ⟨rfl, H.ext⟩
      · --F 6
       refine wp_skip ?_
       refine wsr ?_
       refine wasg (iv (0 : Int)) ?_; simp only [N]
       refine wpList_nil ?_
       refine wp_ret ?_
       try simp only [Exit.inBlock, Exit.then, cutP]
       refine bodyPost_ret (results1 rfl (rv_tmp rfl)) rfl ?_
       have hF : (rightF p) = (0 : Int) := (bf hc1).trans ((bf hc2).trans ((bf hc3).trans ((bf hc4).trans ((bf hc5).trans (bf hc6)))))
       rw [hF]
       exact ⟨rfl, H.ext⟩

end Go.Proofs.YtimonjemjhecoaaGreatDoor
