/- Walks, printed by a program of this repository (wip/tool). -/
import Derived.Test.YtimonjemjhecoaaGreatDoorLx2
import Derived.Test.YtimonjemjhecoaaGreatDoorNum
namespace Go.Proofs.YtimonjemjhecoaaGreatDoor
open Go.RowKit
open Go
attribute [local irreducible] wpList wpQuiet wpX Code.wp
set_option maxHeartbeats 1000000
set_option maxRecDepth 100000
set_option linter.unusedSimpArgs false
set_option linter.unusedVariables false

def signF (s : ByteArray) (a : Nat) : Nat := if (Lib.hasPrefix (s.extract a s.size).data.toList (⟨#[61, 61]⟩ : ByteArray).data.toList || Lib.hasPrefix (s.extract a s.size).data.toList (⟨#[33, 61]⟩ : ByteArray).data.toList) = true then 2 else 1
theorem hasPrefix_two {s : ByteArray} {a : Nat} {x y : UInt8} (h : Lib.hasPrefix (s.extract a s.size).data.toList (⟨#[x, y]⟩ : ByteArray).data.toList = true) : a + 2 ≤ s.size := by
  unfold Lib.hasPrefix at h
  have h1 := (List.isPrefixOf_iff_prefix.1 h).length_le
  have h2 : (s.extract a s.size).data.toList.length = s.size - a := by
    show (s.extract a s.size).size = _
    simp [ByteArray.size_extract]
  rw [h2] at h1
  simp at h1
  omega
theorem signF_le {s : ByteArray} {a : Nat} (h : a < s.size) : a + signF s a ≤ s.size := by
  unfold signF
  split
  · rename_i h1
    rcases Bool.or_eq_true_iff.1 h1 with h1 | h1
    · exact hasPrefix_two h1
    · exact hasPrefix_two h1
  · omega
theorem signF_pos (s : ByteArray) (a : Nat) : 1 ≤ signF s a := by unfold signF; split <;> omega

theorem sign_spec (b T : Nat) (s : ByteArray) (a : Nat) (rest : List Value) (w : World) (ha : a < s.size) (hs : s.size ≤ 140737488355328) (hb : w.heap[b]? = some (.cells (.string s :: iv (a : Int) :: rest).toArray T (0, 0))) :
    Calls Tryz.prog 107 #[.pointer (some ⟨b, 0, none⟩)] w fun e w' => e = .returned (.string (s.extract a (a + signF s a))) ∧ Chg [b] w w' ∧ w'.heap[b]? = some (.cells (.string s :: iv (a + signF s a : Nat) :: rest).toArray T (0, 0)) := by
 have H := Own.borrow hb
 go_enter Tryz.func107, Tryz.ntmps107
 refine wsr ?_
 refine wasg (.string (⟨#[]⟩ : ByteArray)) ?_; simp only [N]
 refine wpList_nil ?_
 refine wsr ?_
 refine wasg (iv (1 : Int)) ?_; simp only [N]
 refine wpList_nil ?_
 refine wp_seq ?_; refine wp_seq ?_; refine wp_region_own H (by kernel_rfl) (by kernel_rfl) ?_
 refine wq_run rfl (fun w H => rp_move rfl (v := .pointer (some ⟨b, 0, none⟩)) rfl) ?_; simp only [N]
 refine wq_run rfl (fun w H => rp_nilCheck rfl rfl) ?_; simp only [N]
 refine wq_run rfl (fun w H => rp_fieldAddr rfl Tryz.underlying127 rfl 0 rfl sz9 rfl 0 rfl) ?_; simp only [N]
 refine wq_run rfl (fun w H => rp_load1 H 0 rfl rfl rfl Tryz.underlying9 rfl (v := .string s) rfl) ?_; simp only [N]
 refine wq_run rfl (fun w H => rp_move rfl (v := .pointer (some ⟨b, 0, none⟩)) rfl) ?_; simp only [N]
 refine wq_run rfl (fun w H => rp_nilCheck rfl rfl) ?_; simp only [N]
 refine wq_run rfl (fun w H => rp_fieldAddr rfl Tryz.underlying127 rfl 1 rfl sz3 rfl 1 rfl) ?_; simp only [N]
 refine wq_run rfl (fun w H => rp_load1 H 0 rfl rfl rfl Tryz.underlying3 rfl (v := iv (a : Int)) rfl) ?_; simp only [N]
 refine wq_run rfl (fun w H => rp_slice_str_l rfl Tryz.underlying9 rfl a rfl (by omega)) ?_; simp only [N]
 refine wq_run rfl (fun w H => rp_assign rfl (v := .string (s.extract a (s.size))) rfl) ?_; simp only [N]
 refine wq_nil ?_
 clear H; intro w1 H
 refine wp_seq ?_; refine wp_cutO H (fun a' => ∃ (u14 : Value) (u15 : Value) (u16 : Value) (u17 : Value) (u18 : Value) (r19 : Bool), r19 = ((Lib.hasPrefix (s.extract a (s.size)).data.toList (⟨#[61, 61]⟩ : ByteArray).data.toList) || (Lib.hasPrefix (s.extract a (s.size)).data.toList (⟨#[33, 61]⟩ : ByteArray).data.toList)) ∧  a' = ⟨#[.pointer (some ⟨b, 0, none⟩), uU, .string (⟨#[]⟩ : ByteArray), iv (1 : Int), .string (s.extract a (s.size)), .pointer (some ⟨b, 0, none⟩), .pointer (some ⟨b, 0, none⟩), .pointer (some ⟨b, 0, none⟩), .string s, .pointer (some ⟨b, 0, none⟩), .pointer (some ⟨b, 0, none⟩), .pointer (some ⟨b, 1, none⟩), iv (a : Int), .string (s.extract a (s.size)), u14, u15, u16, u17, u18, .bool r19, uU, uU, uU, uU, uU, uU, uU, uU, uU, uU, uU, uU, uU, uU, uU, uU, uU, uU, uU, uU, uU, uU, uU], []⟩) ?_ ?_
 ·
  refine wp_region_lit ?_; refine wmv (.string (s.extract a (s.size))) ?_; simp only [N]
  refine wl_callE H rfl (rc_go Tryz.func111 (by kernel_rfl) rfl) (hasPrefix_spec (s.extract a (s.size)) (⟨#[61, 61]⟩ : ByteArray) _) ?_
  clear H; intro w2 H
  simp only [N]
  refine wmv (.bool (Lib.hasPrefix (s.extract a (s.size)).data.toList (⟨#[61, 61]⟩ : ByteArray).data.toList)) ?_; simp only [N]
  cases hg1 : (Lib.hasPrefix (s.extract a (s.size)).data.toList (⟨#[61, 61]⟩ : ByteArray).data.toList)
  · --false
   refine wmv (.string (s.extract a (s.size))) ?_; simp only [N]
   refine wl_callE H rfl (rc_go Tryz.func111 (by kernel_rfl) rfl) (hasPrefix_spec (s.extract a (s.size)) (⟨#[33, 61]⟩ : ByteArray) _) ?_
   clear H; intro w3 H
   simp only [N]
   refine wr (rp_pickF rfl rfl (v := .bool (Lib.hasPrefix (s.extract a (s.size)).data.toList (⟨#[33, 61]⟩ : ByteArray).data.toList)) rfl) ?_; simp only [N]
   refine wpList_nil ?_
   refine ⟨rfl, ⟨_, _, _, _, _, (Lib.hasPrefix (s.extract a (s.size)).data.toList (⟨#[33, 61]⟩ : ByteArray).data.toList), (by simp_all), rfl⟩, H⟩
  · --true
   refine wskt ?_; simp only [N]
   refine wskt ?_; simp only [N]
   refine wr (rp_pickT rfl rfl (u := .bool true) rfl) ?_; simp only [N]
   refine wpList_nil ?_
   refine ⟨rfl, ⟨_, _, _, _, _, true, (by simp_all), rfl⟩, H⟩
 clear H
 rintro _ w4 ⟨u14, u15, u16, u17, u18, _, rfl, rfl⟩ H
 refine wp_cond_split rfl (fun hc1 => ?_) (fun hc1 => ?_)
 · --T 1
  have e2 : signF s a = 2 := by unfold signF; rw [if_pos hc1]
  have h2 := signF_le ha
  rw [e2] at h2
  refine wp_region_lit ?_; refine wasg (iv (2 : Int)) ?_; simp only [N]
  refine wpList_nil ?_
  refine wsr ?_
  refine wmv (.pointer (some ⟨b, 0, none⟩)) ?_; simp only [N]
  refine wr (rp_nilCheck rfl rfl) ?_; simp only [N]
  refine wr (rp_fieldAddr rfl Tryz.underlying127 rfl 1 rfl sz3 rfl 1 rfl) ?_; simp only [N]
  refine wr (rp_load1 H 0 rfl rfl rfl Tryz.underlying3 rfl (v := iv (a : Int)) rfl) ?_; simp only [N]
  refine wmv (iv (2 : Int)) ?_; simp only [N]
  refine wr (rp_int_add rfl (a : Int) (2 : Int) rfl rfl (by omega)) ?_; simp only [N]
  refine wr (rp_nilCheck rfl rfl) ?_; simp only [N]
  refine wr (rp_fieldAddr rfl Tryz.underlying127 rfl 1 rfl sz3 rfl 1 rfl) ?_; simp only [N]
  refine wl_store1 H 0 rfl rfl rfl (cs := (.string s :: iv (a : Int) :: rest).toArray) rfl (v := iv ((a : Int) + (2 : Int))) rfl rfl sz3 (Nat.le_of_ble_eq_true rfl) ?_
  clear H; intro w5 H; simp only [Ms] at H
  simp only [N]
  refine wpList_nil ?_
  refine wp_seq ?_; refine wp_region_own H (by kernel_rfl) (by kernel_rfl) ?_
  refine wq_run rfl (fun w H => rp_move rfl (v := .pointer (some ⟨b, 0, none⟩)) rfl) ?_; simp only [N]
  refine wq_run rfl (fun w H => rp_nilCheck rfl rfl) ?_; simp only [N]
  refine wq_run rfl (fun w H => rp_fieldAddr rfl Tryz.underlying127 rfl 0 rfl sz9 rfl 0 rfl) ?_; simp only [N]
  refine wq_run rfl (fun w H => rp_load1 H 0 rfl rfl rfl Tryz.underlying9 rfl (v := .string s) rfl) ?_; simp only [N]
  refine wq_run rfl (fun w H => rp_move rfl (v := .pointer (some ⟨b, 0, none⟩)) rfl) ?_; simp only [N]
  refine wq_run rfl (fun w H => rp_nilCheck rfl rfl) ?_; simp only [N]
  refine wq_run rfl (fun w H => rp_fieldAddr rfl Tryz.underlying127 rfl 1 rfl sz3 rfl 1 rfl) ?_; simp only [N]
  refine wq_run rfl (fun w H => rp_load1 H 0 rfl rfl rfl Tryz.underlying3 rfl (v := iv ((a : Int) + (2 : Int))) rfl) ?_; simp only [N]
  refine wq_run rfl (fun w H => rp_move rfl (v := iv (2 : Int)) rfl) ?_; simp only [N]
  refine wq_run rfl (fun w H => rp_int_subN rfl (a + 2) 2 rfl rfl (by omega)) ?_; simp only [N]
  refine wq_run rfl (fun w H => rp_move rfl (v := .pointer (some ⟨b, 0, none⟩)) rfl) ?_; simp only [N]
  refine wq_run rfl (fun w H => rp_nilCheck rfl rfl) ?_; simp only [N]
  refine wq_run rfl (fun w H => rp_fieldAddr rfl Tryz.underlying127 rfl 1 rfl sz3 rfl 1 rfl) ?_; simp only [N]
  refine wq_run rfl (fun w H => rp_load1 H 0 rfl rfl rfl Tryz.underlying3 rfl (v := iv ((a : Int) + (2 : Int))) rfl) ?_; simp only [N]
  refine wq_run rfl (fun w H => rp_slice_str_lh rfl Tryz.underlying9 rfl ((a + 2) - 2) rfl (a + 2) rfl (by omega)) ?_; simp only [N]
  refine wq_run rfl (fun w H => rp_assign rfl (v := .string (s.extract ((a + 2) - 2) (a + 2))) rfl) ?_; simp only [N]
  refine wq_nil ?_
  clear H; intro w6 H
  refine wp_ret ?_
  try simp only [Exit.inBlock, Exit.then]
  refine bodyPost_ret (results1 rfl (rv_tmp rfl)) rfl ?_
  exact ⟨by rw [e2]; first | rfl | (rw [show a + 1 - 1 = a by omega]) | (rw [show a + 2 - 2 = a by omega]), H.chg, by rw [e2]; exact H.blk (i := 0) rfl⟩
 · --F 1
  have e2 : signF s a = 1 := by unfold signF; rw [if_neg (by simpa using hc1)]
  have h2 := signF_le ha
  rw [e2] at h2
  refine wp_skip ?_
  refine wsr ?_
  refine wmv (.pointer (some ⟨b, 0, none⟩)) ?_; simp only [N]
  refine wr (rp_nilCheck rfl rfl) ?_; simp only [N]
  refine wr (rp_fieldAddr rfl Tryz.underlying127 rfl 1 rfl sz3 rfl 1 rfl) ?_; simp only [N]
  refine wr (rp_load1 H 0 rfl rfl rfl Tryz.underlying3 rfl (v := iv (a : Int)) rfl) ?_; simp only [N]
  refine wmv (iv (1 : Int)) ?_; simp only [N]
  refine wr (rp_int_add rfl (a : Int) (1 : Int) rfl rfl (by omega)) ?_; simp only [N]
  refine wr (rp_nilCheck rfl rfl) ?_; simp only [N]
  refine wr (rp_fieldAddr rfl Tryz.underlying127 rfl 1 rfl sz3 rfl 1 rfl) ?_; simp only [N]
  refine wl_store1 H 0 rfl rfl rfl (cs := (.string s :: iv (a : Int) :: rest).toArray) rfl (v := iv ((a : Int) + (1 : Int))) rfl rfl sz3 (Nat.le_of_ble_eq_true rfl) ?_
  clear H; intro w7 H; simp only [Ms] at H
  simp only [N]
  refine wpList_nil ?_
  refine wp_seq ?_; refine wp_region_own H (by kernel_rfl) (by kernel_rfl) ?_
  refine wq_run rfl (fun w H => rp_move rfl (v := .pointer (some ⟨b, 0, none⟩)) rfl) ?_; simp only [N]
  refine wq_run rfl (fun w H => rp_nilCheck rfl rfl) ?_; simp only [N]
  refine wq_run rfl (fun w H => rp_fieldAddr rfl Tryz.underlying127 rfl 0 rfl sz9 rfl 0 rfl) ?_; simp only [N]
  refine wq_run rfl (fun w H => rp_load1 H 0 rfl rfl rfl Tryz.underlying9 rfl (v := .string s) rfl) ?_; simp only [N]
  refine wq_run rfl (fun w H => rp_move rfl (v := .pointer (some ⟨b, 0, none⟩)) rfl) ?_; simp only [N]
  refine wq_run rfl (fun w H => rp_nilCheck rfl rfl) ?_; simp only [N]
  refine wq_run rfl (fun w H => rp_fieldAddr rfl Tryz.underlying127 rfl 1 rfl sz3 rfl 1 rfl) ?_; simp only [N]
  refine wq_run rfl (fun w H => rp_load1 H 0 rfl rfl rfl Tryz.underlying3 rfl (v := iv ((a : Int) + (1 : Int))) rfl) ?_; simp only [N]
  refine wq_run rfl (fun w H => rp_move rfl (v := iv (1 : Int)) rfl) ?_; simp only [N]
  refine wq_run rfl (fun w H => rp_int_subN rfl (a + 1) 1 rfl rfl (by omega)) ?_; simp only [N]
  refine wq_run rfl (fun w H => rp_move rfl (v := .pointer (some ⟨b, 0, none⟩)) rfl) ?_; simp only [N]
  refine wq_run rfl (fun w H => rp_nilCheck rfl rfl) ?_; simp only [N]
  refine wq_run rfl (fun w H => rp_fieldAddr rfl Tryz.underlying127 rfl 1 rfl sz3 rfl 1 rfl) ?_; simp only [N]
  refine wq_run rfl (fun w H => rp_load1 H 0 rfl rfl rfl Tryz.underlying3 rfl (v := iv ((a : Int) + (1 : Int))) rfl) ?_; simp only [N]
  refine wq_run rfl (fun w H => rp_slice_str_lh rfl Tryz.underlying9 rfl ((a + 1) - 1) rfl (a + 1) rfl (by omega)) ?_; simp only [N]
  refine wq_run rfl (fun w H => rp_assign rfl (v := .string (s.extract ((a + 1) - 1) (a + 1))) rfl) ?_; simp only [N]
  refine wq_nil ?_
  clear H; intro w8 H
  refine wp_ret ?_
  try simp only [Exit.inBlock, Exit.then]
  refine bodyPost_ret (results1 rfl (rv_tmp rfl)) rfl ?_
  exact ⟨by rw [e2]; first | rfl | (rw [show a + 1 - 1 = a by omega]) | (rw [show a + 2 - 2 = a by omega]), H.chg, by rw [e2]; exact H.blk (i := 0) rfl⟩

structure Tok where
  kind : UInt8
  text : ByteArray
  place : Int
  deriving DecidableEq, Inhabited
def Tok.cells (t : Tok) : List Value := [bv t.kind, .string t.text, iv t.place]
theorem Tok.cells_one (c : Tok) : ∀ v ∈ c.cells.toArray.toList, v.oneCell' = true := by
  simp [Tok.cells, Value.oneCell']
theorem Tok.cells_n (x : Tok) : x.cells.length = 3 ∧ 0 < 3 := by simp [Tok.cells]
def nextTok (s : ByteArray) (a : Nat) (op : Bool) : Tok :=
  if clsF (sat s a) == 1 then ⟨0, ⟨#[]⟩, a⟩ else if clsF (sat s a) == 6 then ⟨0, ⟨#[]⟩, a⟩ else if clsF (sat s a) == 2 then ⟨if op then 4 else 0, ⟨#[]⟩, a⟩
  else if clsF (sat s a) == 3 then ⟨1, s.extract a (spanF wordP s a), a⟩ else if clsF (sat s a) == 4 then ⟨2, s.extract a (spanF digitsP s a), a⟩ else if clsF (sat s a) == 7 then ⟨3, s.extract a (a + signF s a), a⟩ else ⟨0, ⟨#[]⟩, a⟩
def nextAt (s : ByteArray) (a : Nat) : Nat :=
  if clsF (sat s a) == 1 then spanF blanksP s a else if clsF (sat s a) == 6 then spanF remarkP s a else if clsF (sat s a) == 2 then a + 1
  else if clsF (sat s a) == 3 then spanF wordP s a else if clsF (sat s a) == 4 then spanF digitsP s a else if clsF (sat s a) == 7 then a + signF s a else a
def nextE (s : ByteArray) (a : Nat) (e : Int) : Int :=
  if clsF (sat s a) == 1 then e else if clsF (sat s a) == 6 then e else if clsF (sat s a) == 2 then e
  else if clsF (sat s a) == 3 then (if decide ((16 : Int) < ((s.extract a (spanF wordP s a)).size : Int)) then 42 else e) else if clsF (sat s a) == 4 then (if (!(numF (s.extract a (spanF digitsP s a))).2) then 41 else e) else if clsF (sat s a) == 7 then e else 40
def nextOpen (op : Bool) (k : UInt8) : Bool := k != 4 && (op || decide (0 < k))
theorem nextAt_le {s : ByteArray} {a : Nat} (h : a < s.size) : nextAt s a ≤ s.size := by
  unfold nextAt
  have h1 := fun p => (spanF_le (p := p) (s := s) (a := a) (by omega)).2
  have h2 := signF_le h
  repeat' split
  all_goals first | exact h1 _ | omega

theorem next_spec (b T : Nat) (s : ByteArray) (a : Nat) (op : Bool) (e : Int) (w : World) (ha : a < s.size) (hs : s.size ≤ 140737488355328) (hb : w.heap[b]? = some (.cells #[.string s, iv (a : Int), .bool op, iv e] T (0, 0)))
    (hg : ∀ w', (∀ c, c < w.heap.size → c ≠ b → w'.heap[c]? = w.heap[c]?) → Glob w') :
    Calls Tryz.prog 100 #[.pointer (some ⟨b, 0, none⟩)] w fun r w' => r = .returned (.agg (nextTok s a op).cells.toArray) ∧ Chg [b] w w' ∧ w'.heap[b]? = some (.cells #[.string s, iv (nextAt s a : Nat), .bool (nextOpen op (nextTok s a op).kind), iv (nextE s a e)] T (0, 0)) := by
 have H := Own.borrow_ro (R := [Glob]) hb (by simpa using hg)
 go_enter Tryz.func100, Tryz.ntmps100
 refine wsr ?_
 refine wl_alloc H rfl rfl zv107 ?_
 clear H; intro b1 w1 hnb1 H; dsimp only [Value.cells] at H
 simp only [N]
 refine wpList_nil ?_
 refine wsr ?_
 refine wmv (.pointer (some ⟨b, 0, none⟩)) ?_; simp only [N]
 refine wr (rp_nilCheck rfl rfl) ?_; simp only [N]
 refine wr (rp_fieldAddr rfl Tryz.underlying129 rfl 0 rfl sz127 rfl 0 rfl) ?_; simp only [N]
 refine wr (rp_fieldAddr rfl Tryz.underlying127 rfl 1 rfl sz3 rfl 1 rfl) ?_; simp only [N]
 refine wr (rp_load1 H 1 rfl rfl rfl Tryz.underlying3 rfl (v := iv (a : Int)) rfl) ?_; simp only [N]
 refine wr (rp_build rfl (vs := [(2, iv (a : Int))]) rfl (cs := #[bv (0 : UInt8), .string (⟨#[]⟩ : ByteArray), iv (a : Int)]) (by kernel_rfl)) ?_; simp only [N]
 refine wl_alloc H rfl rfl zv107 ?_
 clear H; intro b2 w2 hnb2 H; dsimp only [Value.cells] at H
 simp only [N]
 refine wl_storeW H 0 rfl rfl rfl rfl (vs := #[bv (0 : UInt8), .string (⟨#[]⟩ : ByteArray), iv (a : Int)]) rfl (by simp [Value.oneCell']) (by first | exact sz107 | (rw [sz107]; congr 1; first | omega | simp [LN, enc_length, putAt_length, localF_length] <;> omega)) (by first | rfl | first | omega | simp [LN, enc_length, putAt_length, localF_length] <;> omega) ?_
 clear H; intro w3 H; simp only [M] at H
 simp only [N]
 refine wpList_nil ?_
 refine wp_seq ?_; refine wp_seq ?_; refine wp_region_own H (by kernel_rfl) (by kernel_rfl) ?_
 refine wq_run rfl (fun w H => rp_move rfl (v := .pointer (some ⟨b, 0, none⟩)) rfl) ?_; simp only [N]
 refine wq_run rfl (fun w H => rp_nilCheck rfl rfl) ?_; simp only [N]
 refine wq_run rfl (fun w H => rp_fieldAddr rfl Tryz.underlying129 rfl 0 rfl sz127 rfl 0 rfl) ?_; simp only [N]
 refine wq_run rfl (fun w H => rp_fieldAddr rfl Tryz.underlying127 rfl 0 rfl sz9 rfl 0 rfl) ?_; simp only [N]
 refine wq_run rfl (fun w H => rp_load1 H 2 rfl rfl rfl Tryz.underlying9 rfl (v := .string s) rfl) ?_; simp only [N]
 refine wq_run rfl (fun w H => rp_move rfl (v := .pointer (some ⟨b, 0, none⟩)) rfl) ?_; simp only [N]
 refine wq_run rfl (fun w H => rp_nilCheck rfl rfl) ?_; simp only [N]
 refine wq_run rfl (fun w H => rp_fieldAddr rfl Tryz.underlying129 rfl 0 rfl sz127 rfl 0 rfl) ?_; simp only [N]
 refine wq_run rfl (fun w H => rp_fieldAddr rfl Tryz.underlying127 rfl 1 rfl sz3 rfl 1 rfl) ?_; simp only [N]
 refine wq_run rfl (fun w H => rp_load1 H 2 rfl rfl rfl Tryz.underlying3 rfl (v := iv (a : Int)) rfl) ?_; simp only [N]
 refine wq_run rfl (fun w H => rp_index_string rfl Tryz.underlying9 rfl a rfl (by omega)) ?_; simp only [N]
 refine wq_call rfl (rc_go Tryz.func74 (by kernel_rfl) rfl) (fun w H => of_spec (sat s a) _) ?_; simp only [N]
 refine wq_nil ?_
 clear H; intro w4 H
 refine wp_block ?_
 refine wsr ?_
 refine wr (rp_int_eql rfl (clsF (sat s a)) (1 : Int) rfl rfl) ?_; simp only [N]
 refine wasg (.bool ((clsF (sat s a)) == (1 : Int))) ?_; simp only [N]
 refine wpList_nil ?_
 refine wp_cond_split rfl (fun hc1 => ?_) (fun hc1 => ?_)
 · --T 1
  have hc1N : (clsF (sat s a)) = (1 : Int) := by simpa using hc1
  refine wp_region_lit ?_; refine wmv (.pointer (some ⟨b, 0, none⟩)) ?_; simp only [N]
  refine wr (rp_nilCheck rfl rfl) ?_; simp only [N]
  refine wr (rp_fieldAddr rfl Tryz.underlying129 rfl 0 rfl sz127 rfl 0 rfl) ?_; simp only [N]
  refine wl_callP H 2 rfl (rc_go Tryz.func76 (by kernel_rfl) rfl) rfl (while_spec _ _ s a ([.bool op, iv e]) 104 blanksP _ (by omega) (by omega) (H.blk (i := 2) rfl) ⟨⟨_, _, Tryz.func104, by kernel_rfl, rfl⟩⟩ (fun c w => blanks_spec c w)) ?_
  clear H; intro w5 H; simp only [M] at H
  simp only [N]
  refine wpList_nil ?_
  refine wsr ?_
  refine wmv (.pointer (some ⟨b, 0, none⟩)) ?_; simp only [N]
  refine wr (rp_fieldAddr rfl Tryz.underlying107 rfl 0 rfl sz105 rfl 0 rfl) ?_; simp only [N]
  refine wr (rp_load1 H 0 rfl rfl rfl Tryz.underlying105 rfl (v := bv (0 : UInt8)) rfl) ?_; simp only [N]
  refine wr (rp_bconv (rp_u8_neq rfl (0 : UInt8) (4 : UInt8) rfl rfl) (c := true) (by decide)) ?_; simp only [N]
  refine wmv (.bool true) ?_; simp only [N]
  refine wmv (.pointer (some ⟨b, 0, none⟩)) ?_; simp only [N]
  refine wr (rp_nilCheck rfl rfl) ?_; simp only [N]
  refine wr (rp_fieldAddr rfl Tryz.underlying129 rfl 2 rfl sz4 rfl 2 rfl) ?_; simp only [N]
  refine wr (rp_load1 H 2 rfl rfl rfl Tryz.underlying4 rfl (v := .bool op) rfl) ?_; simp only [N]
  refine wmv (.bool op) ?_; simp only [N]
  cases hg1 : op
  · --false
   refine wr (rp_fieldAddr rfl Tryz.underlying107 rfl 0 rfl sz105 rfl 0 rfl) ?_; simp only [N]
   refine wr (rp_load1 H 0 rfl rfl rfl Tryz.underlying105 rfl (v := bv (0 : UInt8)) rfl) ?_; simp only [N]
   refine wr (rp_bconv (rp_u8_gtr rfl (0 : UInt8) (0 : UInt8) rfl rfl) (c := false) (by decide)) ?_; simp only [N]
   refine wr (rp_pickF rfl rfl (v := .bool false) rfl) ?_; simp only [N]
   refine wr (rp_pickT rfl rfl (u := .bool false) rfl) ?_; simp only [N]
   refine wr (rp_nilCheck rfl rfl) ?_; simp only [N]
   refine wr (rp_fieldAddr rfl Tryz.underlying129 rfl 2 rfl sz4 rfl 2 rfl) ?_; simp only [N]
   refine wl_store1 H 2 rfl rfl rfl (cs := #[.string s, iv (((spanF blanksP s a) : Nat) : Int), .bool op, iv e]) rfl (v := .bool false) rfl rfl sz4 (Nat.le_of_ble_eq_true rfl) ?_
   clear H; intro w6 H; simp only [Ms] at H
   simp only [N]
   refine wpList_nil ?_
   refine wsr ?_
   refine wr (rp_loadN H 0 rfl rfl rfl Tryz.underlying107 rfl sz107 (Nat.le_of_ble_eq_true rfl) (cs' := [bv (0 : UInt8), .string (⟨#[]⟩ : ByteArray), iv (a : Int)]) rfl) ?_; simp only [N]
   refine wl_storeW H 1 rfl rfl rfl rfl (vs := #[bv (0 : UInt8), .string (⟨#[]⟩ : ByteArray), iv (a : Int)]) rfl (by simp [Value.oneCell']) (by first | exact sz107 | (rw [sz107]; congr 1; first | omega | simp [LN, enc_length, putAt_length, localF_length] <;> omega)) (by first | rfl | first | omega | simp [LN, enc_length, putAt_length, localF_length] <;> omega) ?_
   clear H; intro w7 H; simp only [M] at H
   simp only [N]
   refine wpList_nil ?_
   refine wp_ret ?_
   try simp only [Exit.inBlock, Exit.then]
   refine bodyPost_ret (results1 rfl (rv_agg H 1 rfl rfl Tryz.underlying107 rfl (by first | exact sz107 | (rw [sz107]; congr 1; first | omega | simp [LN, enc_length, putAt_length, localF_length] <;> omega)))) rfl ?_
   have HC := H.chg
   have HB := H.blk (i := 2) rfl
   clear H
   have q1 : ((nextAt s a : Nat) : Int) = (((spanF blanksP s a) : Nat) : Int) := by simp only [nextAt, hc1, hg1, Bool.false_eq_true, if_true, if_false]; try rfl
   have q2 : nextOpen false (nextTok s a false).kind = false := by simp only [nextTok, hc1, hg1, Bool.false_eq_true, if_true, if_false]; simp [nextOpen]
   have q3 : nextE s a e = e := by simp only [nextE, hc1, hg1, Bool.false_eq_true, if_true, if_false]
   refine ⟨?_, HC, by rw [q1, q2, q3]; exact HB⟩
   simp only [nextTok, Tok.cells, hc1, hg1, Bool.false_eq_true, if_true, if_false]; try rfl
  · --true
   refine wskt ?_; simp only [N]
   refine wskt ?_; simp only [N]
   refine wskt ?_; simp only [N]
   refine wr (rp_pickT rfl rfl (u := .bool true) rfl) ?_; simp only [N]
   refine wr (rp_pickT rfl rfl (u := .bool true) rfl) ?_; simp only [N]
   refine wr (rp_nilCheck rfl rfl) ?_; simp only [N]
   refine wr (rp_fieldAddr rfl Tryz.underlying129 rfl 2 rfl sz4 rfl 2 rfl) ?_; simp only [N]
   refine wl_store1 H 2 rfl rfl rfl (cs := #[.string s, iv (((spanF blanksP s a) : Nat) : Int), .bool op, iv e]) rfl (v := .bool true) rfl rfl sz4 (Nat.le_of_ble_eq_true rfl) ?_
   clear H; intro w8 H; simp only [Ms] at H
   simp only [N]
   refine wpList_nil ?_
   refine wsr ?_
   refine wr (rp_loadN H 0 rfl rfl rfl Tryz.underlying107 rfl sz107 (Nat.le_of_ble_eq_true rfl) (cs' := [bv (0 : UInt8), .string (⟨#[]⟩ : ByteArray), iv (a : Int)]) rfl) ?_; simp only [N]
   refine wl_storeW H 1 rfl rfl rfl rfl (vs := #[bv (0 : UInt8), .string (⟨#[]⟩ : ByteArray), iv (a : Int)]) rfl (by simp [Value.oneCell']) (by first | exact sz107 | (rw [sz107]; congr 1; first | omega | simp [LN, enc_length, putAt_length, localF_length] <;> omega)) (by first | rfl | first | omega | simp [LN, enc_length, putAt_length, localF_length] <;> omega) ?_
   clear H; intro w9 H; simp only [M] at H
   simp only [N]
   refine wpList_nil ?_
   refine wp_ret ?_
   try simp only [Exit.inBlock, Exit.then]
   refine bodyPost_ret (results1 rfl (rv_agg H 1 rfl rfl Tryz.underlying107 rfl (by first | exact sz107 | (rw [sz107]; congr 1; first | omega | simp [LN, enc_length, putAt_length, localF_length] <;> omega)))) rfl ?_
   have HC := H.chg
   have HB := H.blk (i := 2) rfl
   clear H
   have q1 : ((nextAt s a : Nat) : Int) = (((spanF blanksP s a) : Nat) : Int) := by simp only [nextAt, hc1, hg1, Bool.false_eq_true, if_true, if_false]; try rfl
   have q2 : nextOpen true (nextTok s a true).kind = true := by simp only [nextTok, hc1, hg1, Bool.false_eq_true, if_true, if_false]; simp [nextOpen]
   have q3 : nextE s a e = e := by simp only [nextE, hc1, hg1, Bool.false_eq_true, if_true, if_false]
   refine ⟨?_, HC, by rw [q1, q2, q3]; exact HB⟩
   simp only [nextTok, Tok.cells, hc1, hg1, Bool.false_eq_true, if_true, if_false]; try rfl
 · --F 1
  have hc1N : (clsF (sat s a)) ≠ (1 : Int) := by simpa using hc1
  refine wsr ?_
  refine wr (rp_int_eql rfl (clsF (sat s a)) (6 : Int) rfl rfl) ?_; simp only [N]
  refine wasg (.bool ((clsF (sat s a)) == (6 : Int))) ?_; simp only [N]
  refine wpList_nil ?_
  refine wp_cond_split rfl (fun hc2 => ?_) (fun hc2 => ?_)
  · --T 2
   have hc2N : (clsF (sat s a)) = (6 : Int) := by simpa using hc2
   refine wp_region_lit ?_; refine wmv (.pointer (some ⟨b, 0, none⟩)) ?_; simp only [N]
   refine wr (rp_nilCheck rfl rfl) ?_; simp only [N]
   refine wr (rp_fieldAddr rfl Tryz.underlying129 rfl 0 rfl sz127 rfl 0 rfl) ?_; simp only [N]
   refine wl_callP H 2 rfl (rc_go Tryz.func76 (by kernel_rfl) rfl) rfl (while_spec _ _ s a ([.bool op, iv e]) 105 remarkP _ (by omega) (by omega) (H.blk (i := 2) rfl) ⟨⟨_, _, Tryz.func105, by kernel_rfl, rfl⟩⟩ (fun c w => remark_spec c w)) ?_
   clear H; intro w10 H; simp only [M] at H
   simp only [N]
   refine wpList_nil ?_
   refine wsr ?_
   refine wmv (.pointer (some ⟨b, 0, none⟩)) ?_; simp only [N]
   refine wr (rp_fieldAddr rfl Tryz.underlying107 rfl 0 rfl sz105 rfl 0 rfl) ?_; simp only [N]
   refine wr (rp_load1 H 0 rfl rfl rfl Tryz.underlying105 rfl (v := bv (0 : UInt8)) rfl) ?_; simp only [N]
   refine wr (rp_bconv (rp_u8_neq rfl (0 : UInt8) (4 : UInt8) rfl rfl) (c := true) (by decide)) ?_; simp only [N]
   refine wmv (.bool true) ?_; simp only [N]
   refine wmv (.pointer (some ⟨b, 0, none⟩)) ?_; simp only [N]
   refine wr (rp_nilCheck rfl rfl) ?_; simp only [N]
   refine wr (rp_fieldAddr rfl Tryz.underlying129 rfl 2 rfl sz4 rfl 2 rfl) ?_; simp only [N]
   refine wr (rp_load1 H 2 rfl rfl rfl Tryz.underlying4 rfl (v := .bool op) rfl) ?_; simp only [N]
   refine wmv (.bool op) ?_; simp only [N]
   cases hg2 : op
   · --false
    refine wr (rp_fieldAddr rfl Tryz.underlying107 rfl 0 rfl sz105 rfl 0 rfl) ?_; simp only [N]
    refine wr (rp_load1 H 0 rfl rfl rfl Tryz.underlying105 rfl (v := bv (0 : UInt8)) rfl) ?_; simp only [N]
    refine wr (rp_bconv (rp_u8_gtr rfl (0 : UInt8) (0 : UInt8) rfl rfl) (c := false) (by decide)) ?_; simp only [N]
    refine wr (rp_pickF rfl rfl (v := .bool false) rfl) ?_; simp only [N]
    refine wr (rp_pickT rfl rfl (u := .bool false) rfl) ?_; simp only [N]
    refine wr (rp_nilCheck rfl rfl) ?_; simp only [N]
    refine wr (rp_fieldAddr rfl Tryz.underlying129 rfl 2 rfl sz4 rfl 2 rfl) ?_; simp only [N]
    refine wl_store1 H 2 rfl rfl rfl (cs := #[.string s, iv (((spanF remarkP s a) : Nat) : Int), .bool op, iv e]) rfl (v := .bool false) rfl rfl sz4 (Nat.le_of_ble_eq_true rfl) ?_
    clear H; intro w11 H; simp only [Ms] at H
    simp only [N]
    refine wpList_nil ?_
    refine wsr ?_
    refine wr (rp_loadN H 0 rfl rfl rfl Tryz.underlying107 rfl sz107 (Nat.le_of_ble_eq_true rfl) (cs' := [bv (0 : UInt8), .string (⟨#[]⟩ : ByteArray), iv (a : Int)]) rfl) ?_; simp only [N]
    refine wl_storeW H 1 rfl rfl rfl rfl (vs := #[bv (0 : UInt8), .string (⟨#[]⟩ : ByteArray), iv (a : Int)]) rfl (by simp [Value.oneCell']) (by first | exact sz107 | (rw [sz107]; congr 1; first | omega | simp [LN, enc_length, putAt_length, localF_length] <;> omega)) (by first | rfl | first | omega | simp [LN, enc_length, putAt_length, localF_length] <;> omega) ?_
    clear H; intro w12 H; simp only [M] at H
    simp only [N]
    refine wpList_nil ?_
    refine wp_ret ?_
    try simp only [Exit.inBlock, Exit.then]
    refine bodyPost_ret (results1 rfl (rv_agg H 1 rfl rfl Tryz.underlying107 rfl (by first | exact sz107 | (rw [sz107]; congr 1; first | omega | simp [LN, enc_length, putAt_length, localF_length] <;> omega)))) rfl ?_
    have HC := H.chg
    have HB := H.blk (i := 2) rfl
    clear H
    have q1 : ((nextAt s a : Nat) : Int) = (((spanF remarkP s a) : Nat) : Int) := by simp only [nextAt, hc1, hc2, hg2, Bool.false_eq_true, if_true, if_false]; try rfl
    have q2 : nextOpen false (nextTok s a false).kind = false := by simp only [nextTok, hc1, hc2, hg2, Bool.false_eq_true, if_true, if_false]; simp [nextOpen]
    have q3 : nextE s a e = e := by simp only [nextE, hc1, hc2, hg2, Bool.false_eq_true, if_true, if_false]
    refine ⟨?_, HC, by rw [q1, q2, q3]; exact HB⟩
    simp only [nextTok, Tok.cells, hc1, hc2, hg2, Bool.false_eq_true, if_true, if_false]; try rfl
   · --true
    refine wskt ?_; simp only [N]
    refine wskt ?_; simp only [N]
    refine wskt ?_; simp only [N]
    refine wr (rp_pickT rfl rfl (u := .bool true) rfl) ?_; simp only [N]
    refine wr (rp_pickT rfl rfl (u := .bool true) rfl) ?_; simp only [N]
    refine wr (rp_nilCheck rfl rfl) ?_; simp only [N]
    refine wr (rp_fieldAddr rfl Tryz.underlying129 rfl 2 rfl sz4 rfl 2 rfl) ?_; simp only [N]
    refine wl_store1 H 2 rfl rfl rfl (cs := #[.string s, iv (((spanF remarkP s a) : Nat) : Int), .bool op, iv e]) rfl (v := .bool true) rfl rfl sz4 (Nat.le_of_ble_eq_true rfl) ?_
    clear H; intro w13 H; simp only [Ms] at H
    simp only [N]
    refine wpList_nil ?_
    refine wsr ?_
    refine wr (rp_loadN H 0 rfl rfl rfl Tryz.underlying107 rfl sz107 (Nat.le_of_ble_eq_true rfl) (cs' := [bv (0 : UInt8), .string (⟨#[]⟩ : ByteArray), iv (a : Int)]) rfl) ?_; simp only [N]
    refine wl_storeW H 1 rfl rfl rfl rfl (vs := #[bv (0 : UInt8), .string (⟨#[]⟩ : ByteArray), iv (a : Int)]) rfl (by simp [Value.oneCell']) (by first | exact sz107 | (rw [sz107]; congr 1; first | omega | simp [LN, enc_length, putAt_length, localF_length] <;> omega)) (by first | rfl | first | omega | simp [LN, enc_length, putAt_length, localF_length] <;> omega) ?_
    clear H; intro w14 H; simp only [M] at H
    simp only [N]
    refine wpList_nil ?_
    refine wp_ret ?_
    try simp only [Exit.inBlock, Exit.then]
    refine bodyPost_ret (results1 rfl (rv_agg H 1 rfl rfl Tryz.underlying107 rfl (by first | exact sz107 | (rw [sz107]; congr 1; first | omega | simp [LN, enc_length, putAt_length, localF_length] <;> omega)))) rfl ?_
    have HC := H.chg
    have HB := H.blk (i := 2) rfl
    clear H
    have q1 : ((nextAt s a : Nat) : Int) = (((spanF remarkP s a) : Nat) : Int) := by simp only [nextAt, hc1, hc2, hg2, Bool.false_eq_true, if_true, if_false]; try rfl
    have q2 : nextOpen true (nextTok s a true).kind = true := by simp only [nextTok, hc1, hc2, hg2, Bool.false_eq_true, if_true, if_false]; simp [nextOpen]
    have q3 : nextE s a e = e := by simp only [nextE, hc1, hc2, hg2, Bool.false_eq_true, if_true, if_false]
    refine ⟨?_, HC, by rw [q1, q2, q3]; exact HB⟩
    simp only [nextTok, Tok.cells, hc1, hc2, hg2, Bool.false_eq_true, if_true, if_false]; try rfl
  · --F 2
   have hc2N : (clsF (sat s a)) ≠ (6 : Int) := by simpa using hc2
   refine wsr ?_
   refine wr (rp_int_eql rfl (clsF (sat s a)) (2 : Int) rfl rfl) ?_; simp only [N]
   refine wasg (.bool ((clsF (sat s a)) == (2 : Int))) ?_; simp only [N]
   refine wpList_nil ?_
   refine wp_cond_split rfl (fun hc3 => ?_) (fun hc3 => ?_)
   · --T 3
    have hc3N : (clsF (sat s a)) = (2 : Int) := by simpa using hc3
    refine wsr ?_
    refine wmv (.pointer (some ⟨b, 0, none⟩)) ?_; simp only [N]
    refine wr (rp_nilCheck rfl rfl) ?_; simp only [N]
    refine wr (rp_fieldAddr rfl Tryz.underlying129 rfl 0 rfl sz127 rfl 0 rfl) ?_; simp only [N]
    refine wr (rp_fieldAddr rfl Tryz.underlying127 rfl 1 rfl sz3 rfl 1 rfl) ?_; simp only [N]
    refine wr (rp_load1 H 2 rfl rfl rfl Tryz.underlying3 rfl (v := iv (a : Int)) rfl) ?_; simp only [N]
    refine wr (rp_int_add rfl (a : Int) (1 : Int) rfl rfl (by omega)) ?_; simp only [N]
    refine wr (rp_nilCheck rfl rfl) ?_; simp only [N]
    refine wr (rp_fieldAddr rfl Tryz.underlying129 rfl 0 rfl sz127 rfl 0 rfl) ?_; simp only [N]
    refine wr (rp_fieldAddr rfl Tryz.underlying127 rfl 1 rfl sz3 rfl 1 rfl) ?_; simp only [N]
    refine wl_store1 H 2 rfl rfl rfl (cs := #[.string s, iv (a : Int), .bool op, iv e]) rfl (v := iv ((a : Int) + (1 : Int))) rfl rfl sz3 (Nat.le_of_ble_eq_true rfl) ?_
    clear H; intro w15 H; simp only [Ms] at H
    simp only [N]
    refine wpList_nil ?_
    refine wsr ?_
    refine wmv (.pointer (some ⟨b, 0, none⟩)) ?_; simp only [N]
    refine wr (rp_nilCheck rfl rfl) ?_; simp only [N]
    refine wr (rp_fieldAddr rfl Tryz.underlying129 rfl 2 rfl sz4 rfl 2 rfl) ?_; simp only [N]
    refine wr (rp_load1 H 2 rfl rfl rfl Tryz.underlying4 rfl (v := .bool op) rfl) ?_; simp only [N]
    refine wpList_nil ?_
    refine wp_cond_split rfl (fun hc4 => ?_) (fun hc4 => ?_)
    · --T 4
     refine wp_region_lit ?_; refine wr (rp_fieldAddr rfl Tryz.underlying107 rfl 0 rfl sz105 rfl 0 rfl) ?_; simp only [N]
     refine wl_store1 H 0 rfl rfl rfl (cs := #[bv (0 : UInt8), .string (⟨#[]⟩ : ByteArray), iv (a : Int)]) rfl (v := bv (4 : UInt8)) rfl rfl sz105 (Nat.le_of_ble_eq_true rfl) ?_
     clear H; intro w16 H; simp only [Ms] at H
     simp only [N]
     refine wpList_nil ?_
     refine wsr ?_
     refine wmv (.pointer (some ⟨b, 0, none⟩)) ?_; simp only [N]
     refine wr (rp_fieldAddr rfl Tryz.underlying107 rfl 0 rfl sz105 rfl 0 rfl) ?_; simp only [N]
     refine wr (rp_load1 H 0 rfl rfl rfl Tryz.underlying105 rfl (v := bv (4 : UInt8)) rfl) ?_; simp only [N]
     refine wr (rp_bconv (rp_u8_neq rfl (4 : UInt8) (4 : UInt8) rfl rfl) (c := false) (by decide)) ?_; simp only [N]
     refine wmv (.bool false) ?_; simp only [N]
     refine wskf ?_; simp only [N]
     refine wskf ?_; simp only [N]
     refine wskf ?_; simp only [N]
     refine wskf ?_; simp only [N]
     refine wskf ?_; simp only [N]
     refine wl_skip (unwanted0 rfl rfl) ?_; simp only [N]
     refine wl_skip (unwanted0 rfl rfl) ?_; simp only [N]
     refine wl_skip (unwanted0 rfl rfl) ?_; simp only [N]
     refine wskf ?_; simp only [N]
     refine wr (rp_pickF rfl rfl (v := .bool false) rfl) ?_; simp only [N]
     refine wr (rp_nilCheck rfl rfl) ?_; simp only [N]
     refine wr (rp_fieldAddr rfl Tryz.underlying129 rfl 2 rfl sz4 rfl 2 rfl) ?_; simp only [N]
     refine wl_store1 H 2 rfl rfl rfl (cs := #[.string s, iv ((a : Int) + (1 : Int)), .bool op, iv e]) rfl (v := .bool false) rfl rfl sz4 (Nat.le_of_ble_eq_true rfl) ?_
     clear H; intro w17 H; simp only [Ms] at H
     simp only [N]
     refine wpList_nil ?_
     refine wsr ?_
     refine wr (rp_loadN H 0 rfl rfl rfl Tryz.underlying107 rfl sz107 (Nat.le_of_ble_eq_true rfl) (cs' := [bv (4 : UInt8), .string (⟨#[]⟩ : ByteArray), iv (a : Int)]) rfl) ?_; simp only [N]
     refine wl_storeW H 1 rfl rfl rfl rfl (vs := #[bv (4 : UInt8), .string (⟨#[]⟩ : ByteArray), iv (a : Int)]) rfl (by simp [Value.oneCell']) (by first | exact sz107 | (rw [sz107]; congr 1; first | omega | simp [LN, enc_length, putAt_length, localF_length] <;> omega)) (by first | rfl | first | omega | simp [LN, enc_length, putAt_length, localF_length] <;> omega) ?_
     clear H; intro w18 H; simp only [M] at H
     simp only [N]
     refine wpList_nil ?_
     refine wp_ret ?_
     try simp only [Exit.inBlock, Exit.then]
     refine bodyPost_ret (results1 rfl (rv_agg H 1 rfl rfl Tryz.underlying107 rfl (by first | exact sz107 | (rw [sz107]; congr 1; first | omega | simp [LN, enc_length, putAt_length, localF_length] <;> omega)))) rfl ?_
     have HC := H.chg
     have HB := H.blk (i := 2) rfl
     clear H
     have q1 : ((nextAt s a : Nat) : Int) = ((a : Int) + (1 : Int)) := by simp only [nextAt, hc1, hc2, hc3, hc4, Bool.false_eq_true, if_true, if_false]; try rfl
     have q2 : nextOpen op (nextTok s a op).kind = false := by simp only [nextTok, hc1, hc2, hc3, hc4, Bool.false_eq_true, if_true, if_false]; simp [nextOpen]
     have q3 : nextE s a e = e := by simp only [nextE, hc1, hc2, hc3, hc4, Bool.false_eq_true, if_true, if_false]
     refine ⟨?_, HC, by rw [q1, q2, q3]; exact HB⟩
     simp only [nextTok, Tok.cells, hc1, hc2, hc3, hc4, Bool.false_eq_true, if_true, if_false]; try rfl
    · --F 4
     refine wp_skip ?_
     refine wsr ?_
     refine wmv (.pointer (some ⟨b, 0, none⟩)) ?_; simp only [N]
     refine wr (rp_fieldAddr rfl Tryz.underlying107 rfl 0 rfl sz105 rfl 0 rfl) ?_; simp only [N]
     refine wr (rp_load1 H 0 rfl rfl rfl Tryz.underlying105 rfl (v := bv (0 : UInt8)) rfl) ?_; simp only [N]
     refine wr (rp_bconv (rp_u8_neq rfl (0 : UInt8) (4 : UInt8) rfl rfl) (c := true) (by decide)) ?_; simp only [N]
     refine wmv (.bool true) ?_; simp only [N]
     refine wmv (.pointer (some ⟨b, 0, none⟩)) ?_; simp only [N]
     refine wr (rp_nilCheck rfl rfl) ?_; simp only [N]
     refine wr (rp_fieldAddr rfl Tryz.underlying129 rfl 2 rfl sz4 rfl 2 rfl) ?_; simp only [N]
     refine wr (rp_load1 H 2 rfl rfl rfl Tryz.underlying4 rfl (v := .bool op) rfl) ?_; simp only [N]
     refine wmv (.bool op) ?_; simp only [N]
     cases hg3 : op
     · --false
      refine wr (rp_fieldAddr rfl Tryz.underlying107 rfl 0 rfl sz105 rfl 0 rfl) ?_; simp only [N]
      refine wr (rp_load1 H 0 rfl rfl rfl Tryz.underlying105 rfl (v := bv (0 : UInt8)) rfl) ?_; simp only [N]
      refine wr (rp_bconv (rp_u8_gtr rfl (0 : UInt8) (0 : UInt8) rfl rfl) (c := false) (by decide)) ?_; simp only [N]
      refine wr (rp_pickF rfl rfl (v := .bool false) rfl) ?_; simp only [N]
      refine wr (rp_pickT rfl rfl (u := .bool false) rfl) ?_; simp only [N]
      refine wr (rp_nilCheck rfl rfl) ?_; simp only [N]
      refine wr (rp_fieldAddr rfl Tryz.underlying129 rfl 2 rfl sz4 rfl 2 rfl) ?_; simp only [N]
      refine wl_store1 H 2 rfl rfl rfl (cs := #[.string s, iv ((a : Int) + (1 : Int)), .bool op, iv e]) rfl (v := .bool false) rfl rfl sz4 (Nat.le_of_ble_eq_true rfl) ?_
      clear H; intro w19 H; simp only [Ms] at H
      simp only [N]
      refine wpList_nil ?_
      refine wsr ?_
      refine wr (rp_loadN H 0 rfl rfl rfl Tryz.underlying107 rfl sz107 (Nat.le_of_ble_eq_true rfl) (cs' := [bv (0 : UInt8), .string (⟨#[]⟩ : ByteArray), iv (a : Int)]) rfl) ?_; simp only [N]
      refine wl_storeW H 1 rfl rfl rfl rfl (vs := #[bv (0 : UInt8), .string (⟨#[]⟩ : ByteArray), iv (a : Int)]) rfl (by simp [Value.oneCell']) (by first | exact sz107 | (rw [sz107]; congr 1; first | omega | simp [LN, enc_length, putAt_length, localF_length] <;> omega)) (by first | rfl | first | omega | simp [LN, enc_length, putAt_length, localF_length] <;> omega) ?_
      clear H; intro w20 H; simp only [M] at H
      simp only [N]
      refine wpList_nil ?_
      refine wp_ret ?_
      try simp only [Exit.inBlock, Exit.then]
      refine bodyPost_ret (results1 rfl (rv_agg H 1 rfl rfl Tryz.underlying107 rfl (by first | exact sz107 | (rw [sz107]; congr 1; first | omega | simp [LN, enc_length, putAt_length, localF_length] <;> omega)))) rfl ?_
      have HC := H.chg
      have HB := H.blk (i := 2) rfl
      clear H
      have q1 : ((nextAt s a : Nat) : Int) = ((a : Int) + (1 : Int)) := by simp only [nextAt, hc1, hc2, hc3, hc4, hg3, Bool.false_eq_true, if_true, if_false]; try rfl
      have q2 : nextOpen false (nextTok s a false).kind = false := by simp only [nextTok, hc1, hc2, hc3, hc4, hg3, Bool.false_eq_true, if_true, if_false]; simp [nextOpen]
      have q3 : nextE s a e = e := by simp only [nextE, hc1, hc2, hc3, hc4, hg3, Bool.false_eq_true, if_true, if_false]
      refine ⟨?_, HC, by rw [q1, q2, q3]; exact HB⟩
      simp only [nextTok, Tok.cells, hc1, hc2, hc3, hc4, hg3, Bool.false_eq_true, if_true, if_false]; try rfl
     · --true
      exfalso; simp_all
   · --F 3
    have hc3N : (clsF (sat s a)) ≠ (2 : Int) := by simpa using hc3
    refine wsr ?_
    refine wr (rp_int_eql rfl (clsF (sat s a)) (3 : Int) rfl rfl) ?_; simp only [N]
    refine wasg (.bool ((clsF (sat s a)) == (3 : Int))) ?_; simp only [N]
    refine wpList_nil ?_
    refine wp_cond_split rfl (fun hc5 => ?_) (fun hc5 => ?_)
    · --T 5
     have hc5N : (clsF (sat s a)) = (3 : Int) := by simpa using hc5
     refine wsr ?_
     refine wmv (.pointer (some ⟨b, 0, none⟩)) ?_; simp only [N]
     refine wr (rp_nilCheck rfl rfl) ?_; simp only [N]
     refine wr (rp_fieldAddr rfl Tryz.underlying129 rfl 0 rfl sz127 rfl 0 rfl) ?_; simp only [N]
     refine wl_callP H 2 rfl (rc_go Tryz.func76 (by kernel_rfl) rfl) rfl (while_spec _ _ s a ([.bool op, iv e]) 77 wordP _ (by omega) (by omega) (H.blk (i := 2) rfl) ⟨⟨_, _, Tryz.func77, by kernel_rfl, rfl⟩⟩ (fun c w => word_spec c w)) ?_
     clear H; intro w21 H; simp only [M] at H
     simp only [N]
     refine wr (rp_fieldAddr rfl Tryz.underlying107 rfl 0 rfl sz105 rfl 0 rfl) ?_; simp only [N]
     refine wl_store1 H 0 rfl rfl rfl (cs := #[bv (0 : UInt8), .string (⟨#[]⟩ : ByteArray), iv (a : Int)]) rfl (v := bv (1 : UInt8)) rfl rfl sz105 (Nat.le_of_ble_eq_true rfl) ?_
     clear H; intro w22 H; simp only [Ms] at H
     simp only [N]
     refine wr (rp_fieldAddr rfl Tryz.underlying107 rfl 1 rfl sz9 rfl 1 rfl) ?_; simp only [N]
     refine wl_store1 H 0 rfl rfl rfl (cs := #[bv (1 : UInt8), .string (⟨#[]⟩ : ByteArray), iv (a : Int)]) rfl (v := .string (s.extract a (spanF wordP s a))) rfl rfl sz9 (Nat.le_of_ble_eq_true rfl) ?_
     clear H; intro w23 H; simp only [Ms] at H
     simp only [N]
     refine wpList_nil ?_
     refine wsr ?_
     refine wr (rp_fieldAddr rfl Tryz.underlying107 rfl 1 rfl sz9 rfl 1 rfl) ?_; simp only [N]
     refine wr (rp_load1 H 0 rfl rfl rfl Tryz.underlying9 rfl (v := .string (s.extract a (spanF wordP s a))) rfl) ?_; simp only [N]
     refine wr (rp_len_string Tryz.underlying9 rfl) ?_; simp only [N]
     refine wr (rp_int_gtr rfl (((s.extract a (spanF wordP s a)).size : Nat) : Int) (16 : Int) rfl rfl) ?_; simp only [N]
     refine wpList_nil ?_
     refine wp_cond_split rfl (fun hc6 => ?_) (fun hc6 => ?_)
     · --T 6
      have hc6N : (16 : Int) < (((s.extract a (spanF wordP s a)).size : Nat) : Int) := by simpa using hc6
      refine wp_region_lit ?_; refine wmv (.pointer (some ⟨b, 0, none⟩)) ?_; simp only [N]
      refine wr (rp_nilCheck rfl rfl) ?_; simp only [N]
      refine wr (rp_fieldAddr rfl Tryz.underlying129 rfl 3 rfl sz46 rfl 3 rfl) ?_; simp only [N]
      refine wl_store1 H 2 rfl rfl rfl (cs := #[.string s, iv (((spanF wordP s a) : Nat) : Int), .bool op, iv e]) rfl (v := iv (42 : Int)) rfl rfl sz46 (Nat.le_of_ble_eq_true rfl) ?_
      clear H; intro w24 H; simp only [Ms] at H
      simp only [N]
      refine wpList_nil ?_
      refine wsr ?_
      refine wmv (.pointer (some ⟨b, 0, none⟩)) ?_; simp only [N]
      refine wr (rp_fieldAddr rfl Tryz.underlying107 rfl 0 rfl sz105 rfl 0 rfl) ?_; simp only [N]
      refine wr (rp_load1 H 0 rfl rfl rfl Tryz.underlying105 rfl (v := bv (1 : UInt8)) rfl) ?_; simp only [N]
      refine wr (rp_bconv (rp_u8_neq rfl (1 : UInt8) (4 : UInt8) rfl rfl) (c := true) (by decide)) ?_; simp only [N]
      refine wmv (.bool true) ?_; simp only [N]
      refine wmv (.pointer (some ⟨b, 0, none⟩)) ?_; simp only [N]
      refine wr (rp_nilCheck rfl rfl) ?_; simp only [N]
      refine wr (rp_fieldAddr rfl Tryz.underlying129 rfl 2 rfl sz4 rfl 2 rfl) ?_; simp only [N]
      refine wr (rp_load1 H 2 rfl rfl rfl Tryz.underlying4 rfl (v := .bool op) rfl) ?_; simp only [N]
      refine wmv (.bool op) ?_; simp only [N]
      cases hg4 : op
      · --false
       refine wr (rp_fieldAddr rfl Tryz.underlying107 rfl 0 rfl sz105 rfl 0 rfl) ?_; simp only [N]
       refine wr (rp_load1 H 0 rfl rfl rfl Tryz.underlying105 rfl (v := bv (1 : UInt8)) rfl) ?_; simp only [N]
       refine wr (rp_bconv (rp_u8_gtr rfl (1 : UInt8) (0 : UInt8) rfl rfl) (c := true) (by decide)) ?_; simp only [N]
       refine wr (rp_pickF rfl rfl (v := .bool true) rfl) ?_; simp only [N]
       refine wr (rp_pickT rfl rfl (u := .bool true) rfl) ?_; simp only [N]
       refine wr (rp_nilCheck rfl rfl) ?_; simp only [N]
       refine wr (rp_fieldAddr rfl Tryz.underlying129 rfl 2 rfl sz4 rfl 2 rfl) ?_; simp only [N]
       refine wl_store1 H 2 rfl rfl rfl (cs := #[.string s, iv (((spanF wordP s a) : Nat) : Int), .bool op, iv (42 : Int)]) rfl (v := .bool true) rfl rfl sz4 (Nat.le_of_ble_eq_true rfl) ?_
       clear H; intro w25 H; simp only [Ms] at H
       simp only [N]
       refine wpList_nil ?_
       refine wsr ?_
       refine wr (rp_loadN H 0 rfl rfl rfl Tryz.underlying107 rfl sz107 (Nat.le_of_ble_eq_true rfl) (cs' := [bv (1 : UInt8), .string (s.extract a (spanF wordP s a)), iv (a : Int)]) rfl) ?_; simp only [N]
       refine wl_storeW H 1 rfl rfl rfl rfl (vs := #[bv (1 : UInt8), .string (s.extract a (spanF wordP s a)), iv (a : Int)]) rfl (by simp [Value.oneCell']) (by first | exact sz107 | (rw [sz107]; congr 1; first | omega | simp [LN, enc_length, putAt_length, localF_length] <;> omega)) (by first | rfl | first | omega | simp [LN, enc_length, putAt_length, localF_length] <;> omega) ?_
       clear H; intro w26 H; simp only [M] at H
       simp only [N]
       refine wpList_nil ?_
       refine wp_ret ?_
       try simp only [Exit.inBlock, Exit.then]
       refine bodyPost_ret (results1 rfl (rv_agg H 1 rfl rfl Tryz.underlying107 rfl (by first | exact sz107 | (rw [sz107]; congr 1; first | omega | simp [LN, enc_length, putAt_length, localF_length] <;> omega)))) rfl ?_
       have HC := H.chg
       have HB := H.blk (i := 2) rfl
       clear H
       have q1 : ((nextAt s a : Nat) : Int) = (((spanF wordP s a) : Nat) : Int) := by simp only [nextAt, hc1, hc2, hc3, hc5, hc6, hg4, Bool.false_eq_true, if_true, if_false]; try rfl
       have q2 : nextOpen false (nextTok s a false).kind = true := by simp only [nextTok, hc1, hc2, hc3, hc5, hc6, hg4, Bool.false_eq_true, if_true, if_false]; simp [nextOpen]
       have q3 : nextE s a e = (42 : Int) := by simp only [nextE, hc1, hc2, hc3, hc5, hc6, hg4, Bool.false_eq_true, if_true, if_false]
       refine ⟨?_, HC, by rw [q1, q2, q3]; exact HB⟩
       simp only [nextTok, Tok.cells, hc1, hc2, hc3, hc5, hc6, hg4, Bool.false_eq_true, if_true, if_false]; try rfl
      · --true
       refine wskt ?_; simp only [N]
       refine wskt ?_; simp only [N]
       refine wskt ?_; simp only [N]
       refine wr (rp_pickT rfl rfl (u := .bool true) rfl) ?_; simp only [N]
       refine wr (rp_pickT rfl rfl (u := .bool true) rfl) ?_; simp only [N]
       refine wr (rp_nilCheck rfl rfl) ?_; simp only [N]
       refine wr (rp_fieldAddr rfl Tryz.underlying129 rfl 2 rfl sz4 rfl 2 rfl) ?_; simp only [N]
       refine wl_store1 H 2 rfl rfl rfl (cs := #[.string s, iv (((spanF wordP s a) : Nat) : Int), .bool op, iv (42 : Int)]) rfl (v := .bool true) rfl rfl sz4 (Nat.le_of_ble_eq_true rfl) ?_
       clear H; intro w27 H; simp only [Ms] at H
       simp only [N]
       refine wpList_nil ?_
       refine wsr ?_
       refine wr (rp_loadN H 0 rfl rfl rfl Tryz.underlying107 rfl sz107 (Nat.le_of_ble_eq_true rfl) (cs' := [bv (1 : UInt8), .string (s.extract a (spanF wordP s a)), iv (a : Int)]) rfl) ?_; simp only [N]
       refine wl_storeW H 1 rfl rfl rfl rfl (vs := #[bv (1 : UInt8), .string (s.extract a (spanF wordP s a)), iv (a : Int)]) rfl (by simp [Value.oneCell']) (by first | exact sz107 | (rw [sz107]; congr 1; first | omega | simp [LN, enc_length, putAt_length, localF_length] <;> omega)) (by first | rfl | first | omega | simp [LN, enc_length, putAt_length, localF_length] <;> omega) ?_
       clear H; intro w28 H; simp only [M] at H
       simp only [N]
       refine wpList_nil ?_
       refine wp_ret ?_
       try simp only [Exit.inBlock, Exit.then]
       refine bodyPost_ret (results1 rfl (rv_agg H 1 rfl rfl Tryz.underlying107 rfl (by first | exact sz107 | (rw [sz107]; congr 1; first | omega | simp [LN, enc_length, putAt_length, localF_length] <;> omega)))) rfl ?_
       have HC := H.chg
       have HB := H.blk (i := 2) rfl
       clear H
       have q1 : ((nextAt s a : Nat) : Int) = (((spanF wordP s a) : Nat) : Int) := by simp only [nextAt, hc1, hc2, hc3, hc5, hc6, hg4, Bool.false_eq_true, if_true, if_false]; try rfl
       have q2 : nextOpen true (nextTok s a true).kind = true := by simp only [nextTok, hc1, hc2, hc3, hc5, hc6, hg4, Bool.false_eq_true, if_true, if_false]; simp [nextOpen]
       have q3 : nextE s a e = (42 : Int) := by simp only [nextE, hc1, hc2, hc3, hc5, hc6, hg4, Bool.false_eq_true, if_true, if_false]
       refine ⟨?_, HC, by rw [q1, q2, q3]; exact HB⟩
       simp only [nextTok, Tok.cells, hc1, hc2, hc3, hc5, hc6, hg4, Bool.false_eq_true, if_true, if_false]; try rfl
     · --F 6
      have hc6N : (((s.extract a (spanF wordP s a)).size : Nat) : Int) ≤ (16 : Int) := by simpa using hc6
      refine wp_skip ?_
      refine wsr ?_
      refine wmv (.pointer (some ⟨b, 0, none⟩)) ?_; simp only [N]
      refine wr (rp_fieldAddr rfl Tryz.underlying107 rfl 0 rfl sz105 rfl 0 rfl) ?_; simp only [N]
      refine wr (rp_load1 H 0 rfl rfl rfl Tryz.underlying105 rfl (v := bv (1 : UInt8)) rfl) ?_; simp only [N]
      refine wr (rp_bconv (rp_u8_neq rfl (1 : UInt8) (4 : UInt8) rfl rfl) (c := true) (by decide)) ?_; simp only [N]
      refine wmv (.bool true) ?_; simp only [N]
      refine wmv (.pointer (some ⟨b, 0, none⟩)) ?_; simp only [N]
      refine wr (rp_nilCheck rfl rfl) ?_; simp only [N]
      refine wr (rp_fieldAddr rfl Tryz.underlying129 rfl 2 rfl sz4 rfl 2 rfl) ?_; simp only [N]
      refine wr (rp_load1 H 2 rfl rfl rfl Tryz.underlying4 rfl (v := .bool op) rfl) ?_; simp only [N]
      refine wmv (.bool op) ?_; simp only [N]
      cases hg5 : op
      · --false
       refine wr (rp_fieldAddr rfl Tryz.underlying107 rfl 0 rfl sz105 rfl 0 rfl) ?_; simp only [N]
       refine wr (rp_load1 H 0 rfl rfl rfl Tryz.underlying105 rfl (v := bv (1 : UInt8)) rfl) ?_; simp only [N]
       refine wr (rp_bconv (rp_u8_gtr rfl (1 : UInt8) (0 : UInt8) rfl rfl) (c := true) (by decide)) ?_; simp only [N]
       refine wr (rp_pickF rfl rfl (v := .bool true) rfl) ?_; simp only [N]
       refine wr (rp_pickT rfl rfl (u := .bool true) rfl) ?_; simp only [N]
       refine wr (rp_nilCheck rfl rfl) ?_; simp only [N]
       refine wr (rp_fieldAddr rfl Tryz.underlying129 rfl 2 rfl sz4 rfl 2 rfl) ?_; simp only [N]
       refine wl_store1 H 2 rfl rfl rfl (cs := #[.string s, iv (((spanF wordP s a) : Nat) : Int), .bool op, iv e]) rfl (v := .bool true) rfl rfl sz4 (Nat.le_of_ble_eq_true rfl) ?_
       clear H; intro w29 H; simp only [Ms] at H
       simp only [N]
       refine wpList_nil ?_
       refine wsr ?_
       refine wr (rp_loadN H 0 rfl rfl rfl Tryz.underlying107 rfl sz107 (Nat.le_of_ble_eq_true rfl) (cs' := [bv (1 : UInt8), .string (s.extract a (spanF wordP s a)), iv (a : Int)]) rfl) ?_; simp only [N]
       refine wl_storeW H 1 rfl rfl rfl rfl (vs := #[bv (1 : UInt8), .string (s.extract a (spanF wordP s a)), iv (a : Int)]) rfl (by simp [Value.oneCell']) (by first | exact sz107 | (rw [sz107]; congr 1; first | omega | simp [LN, enc_length, putAt_length, localF_length] <;> omega)) (by first | rfl | first | omega | simp [LN, enc_length, putAt_length, localF_length] <;> omega) ?_
       clear H; intro w30 H; simp only [M] at H
       simp only [N]
       refine wpList_nil ?_
       refine wp_ret ?_
       try simp only [Exit.inBlock, Exit.then]
       refine bodyPost_ret (results1 rfl (rv_agg H 1 rfl rfl Tryz.underlying107 rfl (by first | exact sz107 | (rw [sz107]; congr 1; first | omega | simp [LN, enc_length, putAt_length, localF_length] <;> omega)))) rfl ?_
       have HC := H.chg
       have HB := H.blk (i := 2) rfl
       clear H
       have q1 : ((nextAt s a : Nat) : Int) = (((spanF wordP s a) : Nat) : Int) := by simp only [nextAt, hc1, hc2, hc3, hc5, hc6, hg5, Bool.false_eq_true, if_true, if_false]; try rfl
       have q2 : nextOpen false (nextTok s a false).kind = true := by simp only [nextTok, hc1, hc2, hc3, hc5, hc6, hg5, Bool.false_eq_true, if_true, if_false]; simp [nextOpen]
       have q3 : nextE s a e = e := by simp only [nextE, hc1, hc2, hc3, hc5, hc6, hg5, Bool.false_eq_true, if_true, if_false]
       refine ⟨?_, HC, by rw [q1, q2, q3]; exact HB⟩
       simp only [nextTok, Tok.cells, hc1, hc2, hc3, hc5, hc6, hg5, Bool.false_eq_true, if_true, if_false]; try rfl
      · --true
       refine wskt ?_; simp only [N]
       refine wskt ?_; simp only [N]
       refine wskt ?_; simp only [N]
       refine wr (rp_pickT rfl rfl (u := .bool true) rfl) ?_; simp only [N]
       refine wr (rp_pickT rfl rfl (u := .bool true) rfl) ?_; simp only [N]
       refine wr (rp_nilCheck rfl rfl) ?_; simp only [N]
       refine wr (rp_fieldAddr rfl Tryz.underlying129 rfl 2 rfl sz4 rfl 2 rfl) ?_; simp only [N]
       refine wl_store1 H 2 rfl rfl rfl (cs := #[.string s, iv (((spanF wordP s a) : Nat) : Int), .bool op, iv e]) rfl (v := .bool true) rfl rfl sz4 (Nat.le_of_ble_eq_true rfl) ?_
       clear H; intro w31 H; simp only [Ms] at H
       simp only [N]
       refine wpList_nil ?_
       refine wsr ?_
       refine wr (rp_loadN H 0 rfl rfl rfl Tryz.underlying107 rfl sz107 (Nat.le_of_ble_eq_true rfl) (cs' := [bv (1 : UInt8), .string (s.extract a (spanF wordP s a)), iv (a : Int)]) rfl) ?_; simp only [N]
       refine wl_storeW H 1 rfl rfl rfl rfl (vs := #[bv (1 : UInt8), .string (s.extract a (spanF wordP s a)), iv (a : Int)]) rfl (by simp [Value.oneCell']) (by first | exact sz107 | (rw [sz107]; congr 1; first | omega | simp [LN, enc_length, putAt_length, localF_length] <;> omega)) (by first | rfl | first | omega | simp [LN, enc_length, putAt_length, localF_length] <;> omega) ?_
       clear H; intro w32 H; simp only [M] at H
       simp only [N]
       refine wpList_nil ?_
       refine wp_ret ?_
       try simp only [Exit.inBlock, Exit.then]
       refine bodyPost_ret (results1 rfl (rv_agg H 1 rfl rfl Tryz.underlying107 rfl (by first | exact sz107 | (rw [sz107]; congr 1; first | omega | simp [LN, enc_length, putAt_length, localF_length] <;> omega)))) rfl ?_
       have HC := H.chg
       have HB := H.blk (i := 2) rfl
       clear H
       have q1 : ((nextAt s a : Nat) : Int) = (((spanF wordP s a) : Nat) : Int) := by simp only [nextAt, hc1, hc2, hc3, hc5, hc6, hg5, Bool.false_eq_true, if_true, if_false]; try rfl
       have q2 : nextOpen true (nextTok s a true).kind = true := by simp only [nextTok, hc1, hc2, hc3, hc5, hc6, hg5, Bool.false_eq_true, if_true, if_false]; simp [nextOpen]
       have q3 : nextE s a e = e := by simp only [nextE, hc1, hc2, hc3, hc5, hc6, hg5, Bool.false_eq_true, if_true, if_false]
       refine ⟨?_, HC, by rw [q1, q2, q3]; exact HB⟩
       simp only [nextTok, Tok.cells, hc1, hc2, hc3, hc5, hc6, hg5, Bool.false_eq_true, if_true, if_false]; try rfl
    · --F 5
     have hc5N : (clsF (sat s a)) ≠ (3 : Int) := by simpa using hc5
     refine wsr ?_
     refine wr (rp_int_eql rfl (clsF (sat s a)) (4 : Int) rfl rfl) ?_; simp only [N]
     refine wasg (.bool ((clsF (sat s a)) == (4 : Int))) ?_; simp only [N]
     refine wpList_nil ?_
     refine wp_cond_split rfl (fun hc7 => ?_) (fun hc7 => ?_)
     · --T 7
      have hc7N : (clsF (sat s a)) = (4 : Int) := by simpa using hc7
      refine wsr ?_
      refine wmv (.pointer (some ⟨b, 0, none⟩)) ?_; simp only [N]
      refine wr (rp_nilCheck rfl rfl) ?_; simp only [N]
      refine wr (rp_fieldAddr rfl Tryz.underlying129 rfl 0 rfl sz127 rfl 0 rfl) ?_; simp only [N]
      refine wl_callP H 2 rfl (rc_go Tryz.func76 (by kernel_rfl) rfl) rfl (while_spec _ _ s a ([.bool op, iv e]) 78 digitsP _ (by omega) (by omega) (H.blk (i := 2) rfl) ⟨⟨_, _, Tryz.func78, by kernel_rfl, rfl⟩⟩ (fun c w => digits_spec c w)) ?_
      clear H; intro w33 H; simp only [M] at H
      simp only [N]
      refine wr (rp_fieldAddr rfl Tryz.underlying107 rfl 0 rfl sz105 rfl 0 rfl) ?_; simp only [N]
      refine wl_store1 H 0 rfl rfl rfl (cs := #[bv (0 : UInt8), .string (⟨#[]⟩ : ByteArray), iv (a : Int)]) rfl (v := bv (2 : UInt8)) rfl rfl sz105 (Nat.le_of_ble_eq_true rfl) ?_
      clear H; intro w34 H; simp only [Ms] at H
      simp only [N]
      refine wr (rp_fieldAddr rfl Tryz.underlying107 rfl 1 rfl sz9 rfl 1 rfl) ?_; simp only [N]
      refine wl_store1 H 0 rfl rfl rfl (cs := #[bv (2 : UInt8), .string (⟨#[]⟩ : ByteArray), iv (a : Int)]) rfl (v := .string (s.extract a (spanF digitsP s a))) rfl rfl sz9 (Nat.le_of_ble_eq_true rfl) ?_
      clear H; intro w35 H; simp only [Ms] at H
      simp only [N]
      refine wpList_nil ?_
      refine wsr ?_
      refine wr (rp_fieldAddr rfl Tryz.underlying107 rfl 1 rfl sz9 rfl 1 rfl) ?_; simp only [N]
      refine wr (rp_load1 H 0 rfl rfl rfl Tryz.underlying9 rfl (v := .string (s.extract a (spanF digitsP s a))) rfl) ?_; simp only [N]
      refine wl_callE H rfl (rc_go Tryz.func106 (by kernel_rfl) rfl) (num_spec (s.extract a (spanF digitsP s a)) _ (by have := (spanF_le (p := digitsP) (s := s) (a := a) (by omega)).2; simp [ByteArray.size_extract]; omega) (H.ro_at 0 rfl)) ?_
      clear H; intro w36 H
      simp only [N]
      refine wmv (.tuple #[bv (numF (s.extract a (spanF digitsP s a))).1, .bool (numF (s.extract a (spanF digitsP s a))).2]) ?_; simp only [N]
      refine wr (rp_extract rfl rfl (v := bv (numF (s.extract a (spanF digitsP s a))).1) rfl) ?_; simp only [N]
      refine wr (rp_extract rfl rfl (v := .bool (numF (s.extract a (spanF digitsP s a))).2) rfl) ?_; simp only [N]
      refine wasg (bv (numF (s.extract a (spanF digitsP s a))).1) ?_; simp only [N]
      refine wasg (.bool (numF (s.extract a (spanF digitsP s a))).2) ?_; simp only [N]
      refine wpList_nil ?_
      refine wsr ?_
      refine wmv (.bool (numF (s.extract a (spanF digitsP s a))).2) ?_; simp only [N]
      refine wr (rp_not rfl (numF (s.extract a (spanF digitsP s a))).2 rfl) ?_; simp only [N]
      refine wpList_nil ?_
      refine wp_cond_split rfl (fun hc8 => ?_) (fun hc8 => ?_)
      · --T 8
       have hc8n : (numF (s.extract a (spanF digitsP s a))).2 = false := by simpa using hc8
       refine wp_region_lit ?_; refine wmv (.pointer (some ⟨b, 0, none⟩)) ?_; simp only [N]
       refine wr (rp_nilCheck rfl rfl) ?_; simp only [N]
       refine wr (rp_fieldAddr rfl Tryz.underlying129 rfl 3 rfl sz46 rfl 3 rfl) ?_; simp only [N]
       refine wl_store1 H 2 rfl rfl rfl (cs := #[.string s, iv (((spanF digitsP s a) : Nat) : Int), .bool op, iv e]) rfl (v := iv (41 : Int)) rfl rfl sz46 (Nat.le_of_ble_eq_true rfl) ?_
       clear H; intro w37 H; simp only [Ms] at H
       simp only [N]
       refine wpList_nil ?_
       refine wsr ?_
       refine wmv (.pointer (some ⟨b, 0, none⟩)) ?_; simp only [N]
       refine wr (rp_fieldAddr rfl Tryz.underlying107 rfl 0 rfl sz105 rfl 0 rfl) ?_; simp only [N]
       refine wr (rp_load1 H 0 rfl rfl rfl Tryz.underlying105 rfl (v := bv (2 : UInt8)) rfl) ?_; simp only [N]
       refine wr (rp_bconv (rp_u8_neq rfl (2 : UInt8) (4 : UInt8) rfl rfl) (c := true) (by decide)) ?_; simp only [N]
       refine wmv (.bool true) ?_; simp only [N]
       refine wmv (.pointer (some ⟨b, 0, none⟩)) ?_; simp only [N]
       refine wr (rp_nilCheck rfl rfl) ?_; simp only [N]
       refine wr (rp_fieldAddr rfl Tryz.underlying129 rfl 2 rfl sz4 rfl 2 rfl) ?_; simp only [N]
       refine wr (rp_load1 H 2 rfl rfl rfl Tryz.underlying4 rfl (v := .bool op) rfl) ?_; simp only [N]
       refine wmv (.bool op) ?_; simp only [N]
       cases hg6 : op
       · --false
        refine wr (rp_fieldAddr rfl Tryz.underlying107 rfl 0 rfl sz105 rfl 0 rfl) ?_; simp only [N]
        refine wr (rp_load1 H 0 rfl rfl rfl Tryz.underlying105 rfl (v := bv (2 : UInt8)) rfl) ?_; simp only [N]
        refine wr (rp_bconv (rp_u8_gtr rfl (2 : UInt8) (0 : UInt8) rfl rfl) (c := true) (by decide)) ?_; simp only [N]
        refine wr (rp_pickF rfl rfl (v := .bool true) rfl) ?_; simp only [N]
        refine wr (rp_pickT rfl rfl (u := .bool true) rfl) ?_; simp only [N]
        refine wr (rp_nilCheck rfl rfl) ?_; simp only [N]
        refine wr (rp_fieldAddr rfl Tryz.underlying129 rfl 2 rfl sz4 rfl 2 rfl) ?_; simp only [N]
        refine wl_store1 H 2 rfl rfl rfl (cs := #[.string s, iv (((spanF digitsP s a) : Nat) : Int), .bool op, iv (41 : Int)]) rfl (v := .bool true) rfl rfl sz4 (Nat.le_of_ble_eq_true rfl) ?_
        clear H; intro w38 H; simp only [Ms] at H
        simp only [N]
        refine wpList_nil ?_
        refine wsr ?_
        refine wr (rp_loadN H 0 rfl rfl rfl Tryz.underlying107 rfl sz107 (Nat.le_of_ble_eq_true rfl) (cs' := [bv (2 : UInt8), .string (s.extract a (spanF digitsP s a)), iv (a : Int)]) rfl) ?_; simp only [N]
        refine wl_storeW H 1 rfl rfl rfl rfl (vs := #[bv (2 : UInt8), .string (s.extract a (spanF digitsP s a)), iv (a : Int)]) rfl (by simp [Value.oneCell']) (by first | exact sz107 | (rw [sz107]; congr 1; first | omega | simp [LN, enc_length, putAt_length, localF_length] <;> omega)) (by first | rfl | first | omega | simp [LN, enc_length, putAt_length, localF_length] <;> omega) ?_
        clear H; intro w39 H; simp only [M] at H
        simp only [N]
        refine wpList_nil ?_
        refine wp_ret ?_
        try simp only [Exit.inBlock, Exit.then]
        refine bodyPost_ret (results1 rfl (rv_agg H 1 rfl rfl Tryz.underlying107 rfl (by first | exact sz107 | (rw [sz107]; congr 1; first | omega | simp [LN, enc_length, putAt_length, localF_length] <;> omega)))) rfl ?_
        have HC := H.chg
        have HB := H.blk (i := 2) rfl
        clear H
        have q1 : ((nextAt s a : Nat) : Int) = (((spanF digitsP s a) : Nat) : Int) := by simp only [nextAt, hc1, hc2, hc3, hc5, hc7, hc8, hg6, Bool.false_eq_true, if_true, if_false]; try rfl
        have q2 : nextOpen false (nextTok s a false).kind = true := by simp only [nextTok, hc1, hc2, hc3, hc5, hc7, hc8, hg6, Bool.false_eq_true, if_true, if_false]; simp [nextOpen]
        have q3 : nextE s a e = (41 : Int) := by simp only [nextE, hc1, hc2, hc3, hc5, hc7, hc8, hg6, Bool.false_eq_true, if_true, if_false]
        refine ⟨?_, HC, by rw [q1, q2, q3]; exact HB⟩
        simp only [nextTok, Tok.cells, hc1, hc2, hc3, hc5, hc7, hc8, hg6, Bool.false_eq_true, if_true, if_false]; try rfl
       · --true
        refine wskt ?_; simp only [N]
        refine wskt ?_; simp only [N]
        refine wskt ?_; simp only [N]
        refine wr (rp_pickT rfl rfl (u := .bool true) rfl) ?_; simp only [N]
        refine wr (rp_pickT rfl rfl (u := .bool true) rfl) ?_; simp only [N]
        refine wr (rp_nilCheck rfl rfl) ?_; simp only [N]
        refine wr (rp_fieldAddr rfl Tryz.underlying129 rfl 2 rfl sz4 rfl 2 rfl) ?_; simp only [N]
        refine wl_store1 H 2 rfl rfl rfl (cs := #[.string s, iv (((spanF digitsP s a) : Nat) : Int), .bool op, iv (41 : Int)]) rfl (v := .bool true) rfl rfl sz4 (Nat.le_of_ble_eq_true rfl) ?_
        clear H; intro w40 H; simp only [Ms] at H
        simp only [N]
        refine wpList_nil ?_
        refine wsr ?_
        refine wr (rp_loadN H 0 rfl rfl rfl Tryz.underlying107 rfl sz107 (Nat.le_of_ble_eq_true rfl) (cs' := [bv (2 : UInt8), .string (s.extract a (spanF digitsP s a)), iv (a : Int)]) rfl) ?_; simp only [N]
        refine wl_storeW H 1 rfl rfl rfl rfl (vs := #[bv (2 : UInt8), .string (s.extract a (spanF digitsP s a)), iv (a : Int)]) rfl (by simp [Value.oneCell']) (by first | exact sz107 | (rw [sz107]; congr 1; first | omega | simp [LN, enc_length, putAt_length, localF_length] <;> omega)) (by first | rfl | first | omega | simp [LN, enc_length, putAt_length, localF_length] <;> omega) ?_
        clear H; intro w41 H; simp only [M] at H
        simp only [N]
        refine wpList_nil ?_
        refine wp_ret ?_
        try simp only [Exit.inBlock, Exit.then]
        refine bodyPost_ret (results1 rfl (rv_agg H 1 rfl rfl Tryz.underlying107 rfl (by first | exact sz107 | (rw [sz107]; congr 1; first | omega | simp [LN, enc_length, putAt_length, localF_length] <;> omega)))) rfl ?_
        have HC := H.chg
        have HB := H.blk (i := 2) rfl
        clear H
        have q1 : ((nextAt s a : Nat) : Int) = (((spanF digitsP s a) : Nat) : Int) := by simp only [nextAt, hc1, hc2, hc3, hc5, hc7, hc8, hg6, Bool.false_eq_true, if_true, if_false]; try rfl
        have q2 : nextOpen true (nextTok s a true).kind = true := by simp only [nextTok, hc1, hc2, hc3, hc5, hc7, hc8, hg6, Bool.false_eq_true, if_true, if_false]; simp [nextOpen]
        have q3 : nextE s a e = (41 : Int) := by simp only [nextE, hc1, hc2, hc3, hc5, hc7, hc8, hg6, Bool.false_eq_true, if_true, if_false]
        refine ⟨?_, HC, by rw [q1, q2, q3]; exact HB⟩
        simp only [nextTok, Tok.cells, hc1, hc2, hc3, hc5, hc7, hc8, hg6, Bool.false_eq_true, if_true, if_false]; try rfl
      · --F 8
       have hc8n : (numF (s.extract a (spanF digitsP s a))).2 = true := by simpa using hc8
       refine wp_skip ?_
       refine wsr ?_
       refine wmv (.pointer (some ⟨b, 0, none⟩)) ?_; simp only [N]
       refine wr (rp_fieldAddr rfl Tryz.underlying107 rfl 0 rfl sz105 rfl 0 rfl) ?_; simp only [N]
       refine wr (rp_load1 H 0 rfl rfl rfl Tryz.underlying105 rfl (v := bv (2 : UInt8)) rfl) ?_; simp only [N]
       refine wr (rp_bconv (rp_u8_neq rfl (2 : UInt8) (4 : UInt8) rfl rfl) (c := true) (by decide)) ?_; simp only [N]
       refine wmv (.bool true) ?_; simp only [N]
       refine wmv (.pointer (some ⟨b, 0, none⟩)) ?_; simp only [N]
       refine wr (rp_nilCheck rfl rfl) ?_; simp only [N]
       refine wr (rp_fieldAddr rfl Tryz.underlying129 rfl 2 rfl sz4 rfl 2 rfl) ?_; simp only [N]
       refine wr (rp_load1 H 2 rfl rfl rfl Tryz.underlying4 rfl (v := .bool op) rfl) ?_; simp only [N]
       refine wmv (.bool op) ?_; simp only [N]
       cases hg7 : op
       · --false
        refine wr (rp_fieldAddr rfl Tryz.underlying107 rfl 0 rfl sz105 rfl 0 rfl) ?_; simp only [N]
        refine wr (rp_load1 H 0 rfl rfl rfl Tryz.underlying105 rfl (v := bv (2 : UInt8)) rfl) ?_; simp only [N]
        refine wr (rp_bconv (rp_u8_gtr rfl (2 : UInt8) (0 : UInt8) rfl rfl) (c := true) (by decide)) ?_; simp only [N]
        refine wr (rp_pickF rfl rfl (v := .bool true) rfl) ?_; simp only [N]
        refine wr (rp_pickT rfl rfl (u := .bool true) rfl) ?_; simp only [N]
        refine wr (rp_nilCheck rfl rfl) ?_; simp only [N]
        refine wr (rp_fieldAddr rfl Tryz.underlying129 rfl 2 rfl sz4 rfl 2 rfl) ?_; simp only [N]
        refine wl_store1 H 2 rfl rfl rfl (cs := #[.string s, iv (((spanF digitsP s a) : Nat) : Int), .bool op, iv e]) rfl (v := .bool true) rfl rfl sz4 (Nat.le_of_ble_eq_true rfl) ?_
        clear H; intro w42 H; simp only [Ms] at H
        simp only [N]
        refine wpList_nil ?_
        refine wsr ?_
        refine wr (rp_loadN H 0 rfl rfl rfl Tryz.underlying107 rfl sz107 (Nat.le_of_ble_eq_true rfl) (cs' := [bv (2 : UInt8), .string (s.extract a (spanF digitsP s a)), iv (a : Int)]) rfl) ?_; simp only [N]
        refine wl_storeW H 1 rfl rfl rfl rfl (vs := #[bv (2 : UInt8), .string (s.extract a (spanF digitsP s a)), iv (a : Int)]) rfl (by simp [Value.oneCell']) (by first | exact sz107 | (rw [sz107]; congr 1; first | omega | simp [LN, enc_length, putAt_length, localF_length] <;> omega)) (by first | rfl | first | omega | simp [LN, enc_length, putAt_length, localF_length] <;> omega) ?_
        clear H; intro w43 H; simp only [M] at H
        simp only [N]
        refine wpList_nil ?_
        refine wp_ret ?_
        try simp only [Exit.inBlock, Exit.then]
        refine bodyPost_ret (results1 rfl (rv_agg H 1 rfl rfl Tryz.underlying107 rfl (by first | exact sz107 | (rw [sz107]; congr 1; first | omega | simp [LN, enc_length, putAt_length, localF_length] <;> omega)))) rfl ?_
        have HC := H.chg
        have HB := H.blk (i := 2) rfl
        clear H
        have q1 : ((nextAt s a : Nat) : Int) = (((spanF digitsP s a) : Nat) : Int) := by simp only [nextAt, hc1, hc2, hc3, hc5, hc7, hc8, hg7, Bool.false_eq_true, if_true, if_false]; try rfl
        have q2 : nextOpen false (nextTok s a false).kind = true := by simp only [nextTok, hc1, hc2, hc3, hc5, hc7, hc8, hg7, Bool.false_eq_true, if_true, if_false]; simp [nextOpen]
        have q3 : nextE s a e = e := by simp only [nextE, hc1, hc2, hc3, hc5, hc7, hc8, hg7, Bool.false_eq_true, if_true, if_false]
        refine ⟨?_, HC, by rw [q1, q2, q3]; exact HB⟩
        simp only [nextTok, Tok.cells, hc1, hc2, hc3, hc5, hc7, hc8, hg7, Bool.false_eq_true, if_true, if_false]; try rfl
       · --true
        refine wskt ?_; simp only [N]
        refine wskt ?_; simp only [N]
        refine wskt ?_; simp only [N]
        refine wr (rp_pickT rfl rfl (u := .bool true) rfl) ?_; simp only [N]
        refine wr (rp_pickT rfl rfl (u := .bool true) rfl) ?_; simp only [N]
        refine wr (rp_nilCheck rfl rfl) ?_; simp only [N]
        refine wr (rp_fieldAddr rfl Tryz.underlying129 rfl 2 rfl sz4 rfl 2 rfl) ?_; simp only [N]
        refine wl_store1 H 2 rfl rfl rfl (cs := #[.string s, iv (((spanF digitsP s a) : Nat) : Int), .bool op, iv e]) rfl (v := .bool true) rfl rfl sz4 (Nat.le_of_ble_eq_true rfl) ?_
        clear H; intro w44 H; simp only [Ms] at H
        simp only [N]
        refine wpList_nil ?_
        refine wsr ?_
        refine wr (rp_loadN H 0 rfl rfl rfl Tryz.underlying107 rfl sz107 (Nat.le_of_ble_eq_true rfl) (cs' := [bv (2 : UInt8), .string (s.extract a (spanF digitsP s a)), iv (a : Int)]) rfl) ?_; simp only [N]
        refine wl_storeW H 1 rfl rfl rfl rfl (vs := #[bv (2 : UInt8), .string (s.extract a (spanF digitsP s a)), iv (a : Int)]) rfl (by simp [Value.oneCell']) (by first | exact sz107 | (rw [sz107]; congr 1; first | omega | simp [LN, enc_length, putAt_length, localF_length] <;> omega)) (by first | rfl | first | omega | simp [LN, enc_length, putAt_length, localF_length] <;> omega) ?_
        clear H; intro w45 H; simp only [M] at H
        simp only [N]
        refine wpList_nil ?_
        refine wp_ret ?_
        try simp only [Exit.inBlock, Exit.then]
        refine bodyPost_ret (results1 rfl (rv_agg H 1 rfl rfl Tryz.underlying107 rfl (by first | exact sz107 | (rw [sz107]; congr 1; first | omega | simp [LN, enc_length, putAt_length, localF_length] <;> omega)))) rfl ?_
        have HC := H.chg
        have HB := H.blk (i := 2) rfl
        clear H
        have q1 : ((nextAt s a : Nat) : Int) = (((spanF digitsP s a) : Nat) : Int) := by simp only [nextAt, hc1, hc2, hc3, hc5, hc7, hc8, hg7, Bool.false_eq_true, if_true, if_false]; try rfl
        have q2 : nextOpen true (nextTok s a true).kind = true := by simp only [nextTok, hc1, hc2, hc3, hc5, hc7, hc8, hg7, Bool.false_eq_true, if_true, if_false]; simp [nextOpen]
        have q3 : nextE s a e = e := by simp only [nextE, hc1, hc2, hc3, hc5, hc7, hc8, hg7, Bool.false_eq_true, if_true, if_false]
        refine ⟨?_, HC, by rw [q1, q2, q3]; exact HB⟩
        simp only [nextTok, Tok.cells, hc1, hc2, hc3, hc5, hc7, hc8, hg7, Bool.false_eq_true, if_true, if_false]; try rfl
     · --F 7
      have hc7N : (clsF (sat s a)) ≠ (4 : Int) := by simpa using hc7
      refine wsr ?_
      refine wr (rp_int_eql rfl (clsF (sat s a)) (7 : Int) rfl rfl) ?_; simp only [N]
      refine wasg (.bool ((clsF (sat s a)) == (7 : Int))) ?_; simp only [N]
      refine wpList_nil ?_
      refine wp_cond_split rfl (fun hc9 => ?_) (fun hc9 => ?_)
      · --T 9
       have hc9N : (clsF (sat s a)) = (7 : Int) := by simpa using hc9
       refine wp_region_lit ?_; refine wmv (.pointer (some ⟨b, 0, none⟩)) ?_; simp only [N]
       refine wr (rp_nilCheck rfl rfl) ?_; simp only [N]
       refine wr (rp_fieldAddr rfl Tryz.underlying129 rfl 0 rfl sz127 rfl 0 rfl) ?_; simp only [N]
       refine wl_callP H 2 rfl (rc_go Tryz.func107 (by kernel_rfl) rfl) rfl (sign_spec _ _ s a ([.bool op, iv e]) _ (by omega) (by omega) (H.blk (i := 2) rfl)) ?_
       clear H; intro w46 H; simp only [M] at H
       simp only [N]
       refine wr (rp_fieldAddr rfl Tryz.underlying107 rfl 0 rfl sz105 rfl 0 rfl) ?_; simp only [N]
       refine wl_store1 H 0 rfl rfl rfl (cs := #[bv (0 : UInt8), .string (⟨#[]⟩ : ByteArray), iv (a : Int)]) rfl (v := bv (3 : UInt8)) rfl rfl sz105 (Nat.le_of_ble_eq_true rfl) ?_
       clear H; intro w47 H; simp only [Ms] at H
       simp only [N]
       refine wr (rp_fieldAddr rfl Tryz.underlying107 rfl 1 rfl sz9 rfl 1 rfl) ?_; simp only [N]
       refine wl_store1 H 0 rfl rfl rfl (cs := #[bv (3 : UInt8), .string (⟨#[]⟩ : ByteArray), iv (a : Int)]) rfl (v := .string (s.extract a (a + signF s a))) rfl rfl sz9 (Nat.le_of_ble_eq_true rfl) ?_
       clear H; intro w48 H; simp only [Ms] at H
       simp only [N]
       refine wpList_nil ?_
       refine wsr ?_
       refine wmv (.pointer (some ⟨b, 0, none⟩)) ?_; simp only [N]
       refine wr (rp_fieldAddr rfl Tryz.underlying107 rfl 0 rfl sz105 rfl 0 rfl) ?_; simp only [N]
       refine wr (rp_load1 H 0 rfl rfl rfl Tryz.underlying105 rfl (v := bv (3 : UInt8)) rfl) ?_; simp only [N]
       refine wr (rp_bconv (rp_u8_neq rfl (3 : UInt8) (4 : UInt8) rfl rfl) (c := true) (by decide)) ?_; simp only [N]
       refine wmv (.bool true) ?_; simp only [N]
       refine wmv (.pointer (some ⟨b, 0, none⟩)) ?_; simp only [N]
       refine wr (rp_nilCheck rfl rfl) ?_; simp only [N]
       refine wr (rp_fieldAddr rfl Tryz.underlying129 rfl 2 rfl sz4 rfl 2 rfl) ?_; simp only [N]
       refine wr (rp_load1 H 2 rfl rfl rfl Tryz.underlying4 rfl (v := .bool op) rfl) ?_; simp only [N]
       refine wmv (.bool op) ?_; simp only [N]
       cases hg8 : op
       · --false
        refine wr (rp_fieldAddr rfl Tryz.underlying107 rfl 0 rfl sz105 rfl 0 rfl) ?_; simp only [N]
        refine wr (rp_load1 H 0 rfl rfl rfl Tryz.underlying105 rfl (v := bv (3 : UInt8)) rfl) ?_; simp only [N]
        refine wr (rp_bconv (rp_u8_gtr rfl (3 : UInt8) (0 : UInt8) rfl rfl) (c := true) (by decide)) ?_; simp only [N]
        refine wr (rp_pickF rfl rfl (v := .bool true) rfl) ?_; simp only [N]
        refine wr (rp_pickT rfl rfl (u := .bool true) rfl) ?_; simp only [N]
        refine wr (rp_nilCheck rfl rfl) ?_; simp only [N]
        refine wr (rp_fieldAddr rfl Tryz.underlying129 rfl 2 rfl sz4 rfl 2 rfl) ?_; simp only [N]
        refine wl_store1 H 2 rfl rfl rfl (cs := #[.string s, iv (((a + signF s a) : Nat) : Int), .bool op, iv e]) rfl (v := .bool true) rfl rfl sz4 (Nat.le_of_ble_eq_true rfl) ?_
        clear H; intro w49 H; simp only [Ms] at H
        simp only [N]
        refine wpList_nil ?_
        refine wsr ?_
        refine wr (rp_loadN H 0 rfl rfl rfl Tryz.underlying107 rfl sz107 (Nat.le_of_ble_eq_true rfl) (cs' := [bv (3 : UInt8), .string (s.extract a (a + signF s a)), iv (a : Int)]) rfl) ?_; simp only [N]
        refine wl_storeW H 1 rfl rfl rfl rfl (vs := #[bv (3 : UInt8), .string (s.extract a (a + signF s a)), iv (a : Int)]) rfl (by simp [Value.oneCell']) (by first | exact sz107 | (rw [sz107]; congr 1; first | omega | simp [LN, enc_length, putAt_length, localF_length] <;> omega)) (by first | rfl | first | omega | simp [LN, enc_length, putAt_length, localF_length] <;> omega) ?_
        clear H; intro w50 H; simp only [M] at H
        simp only [N]
        refine wpList_nil ?_
        refine wp_ret ?_
        try simp only [Exit.inBlock, Exit.then]
        refine bodyPost_ret (results1 rfl (rv_agg H 1 rfl rfl Tryz.underlying107 rfl (by first | exact sz107 | (rw [sz107]; congr 1; first | omega | simp [LN, enc_length, putAt_length, localF_length] <;> omega)))) rfl ?_
        have HC := H.chg
        have HB := H.blk (i := 2) rfl
        clear H
        have q1 : ((nextAt s a : Nat) : Int) = (((a + signF s a) : Nat) : Int) := by simp only [nextAt, hc1, hc2, hc3, hc5, hc7, hc9, hg8, Bool.false_eq_true, if_true, if_false]; try rfl
        have q2 : nextOpen false (nextTok s a false).kind = true := by simp only [nextTok, hc1, hc2, hc3, hc5, hc7, hc9, hg8, Bool.false_eq_true, if_true, if_false]; simp [nextOpen]
        have q3 : nextE s a e = e := by simp only [nextE, hc1, hc2, hc3, hc5, hc7, hc9, hg8, Bool.false_eq_true, if_true, if_false]
        refine ⟨?_, HC, by rw [q1, q2, q3]; exact HB⟩
        simp only [nextTok, Tok.cells, hc1, hc2, hc3, hc5, hc7, hc9, hg8, Bool.false_eq_true, if_true, if_false]; try rfl
       · --true
        refine wskt ?_; simp only [N]
        refine wskt ?_; simp only [N]
        refine wskt ?_; simp only [N]
        refine wr (rp_pickT rfl rfl (u := .bool true) rfl) ?_; simp only [N]
        refine wr (rp_pickT rfl rfl (u := .bool true) rfl) ?_; simp only [N]
        refine wr (rp_nilCheck rfl rfl) ?_; simp only [N]
        refine wr (rp_fieldAddr rfl Tryz.underlying129 rfl 2 rfl sz4 rfl 2 rfl) ?_; simp only [N]
        refine wl_store1 H 2 rfl rfl rfl (cs := #[.string s, iv (((a + signF s a) : Nat) : Int), .bool op, iv e]) rfl (v := .bool true) rfl rfl sz4 (Nat.le_of_ble_eq_true rfl) ?_
        clear H; intro w51 H; simp only [Ms] at H
        simp only [N]
        refine wpList_nil ?_
        refine wsr ?_
        refine wr (rp_loadN H 0 rfl rfl rfl Tryz.underlying107 rfl sz107 (Nat.le_of_ble_eq_true rfl) (cs' := [bv (3 : UInt8), .string (s.extract a (a + signF s a)), iv (a : Int)]) rfl) ?_; simp only [N]
        refine wl_storeW H 1 rfl rfl rfl rfl (vs := #[bv (3 : UInt8), .string (s.extract a (a + signF s a)), iv (a : Int)]) rfl (by simp [Value.oneCell']) (by first | exact sz107 | (rw [sz107]; congr 1; first | omega | simp [LN, enc_length, putAt_length, localF_length] <;> omega)) (by first | rfl | first | omega | simp [LN, enc_length, putAt_length, localF_length] <;> omega) ?_
        clear H; intro w52 H; simp only [M] at H
        simp only [N]
        refine wpList_nil ?_
        refine wp_ret ?_
        try simp only [Exit.inBlock, Exit.then]
        refine bodyPost_ret (results1 rfl (rv_agg H 1 rfl rfl Tryz.underlying107 rfl (by first | exact sz107 | (rw [sz107]; congr 1; first | omega | simp [LN, enc_length, putAt_length, localF_length] <;> omega)))) rfl ?_
        have HC := H.chg
        have HB := H.blk (i := 2) rfl
        clear H
        have q1 : ((nextAt s a : Nat) : Int) = (((a + signF s a) : Nat) : Int) := by simp only [nextAt, hc1, hc2, hc3, hc5, hc7, hc9, hg8, Bool.false_eq_true, if_true, if_false]; try rfl
        have q2 : nextOpen true (nextTok s a true).kind = true := by simp only [nextTok, hc1, hc2, hc3, hc5, hc7, hc9, hg8, Bool.false_eq_true, if_true, if_false]; simp [nextOpen]
        have q3 : nextE s a e = e := by simp only [nextE, hc1, hc2, hc3, hc5, hc7, hc9, hg8, Bool.false_eq_true, if_true, if_false]
        refine ⟨?_, HC, by rw [q1, q2, q3]; exact HB⟩
        simp only [nextTok, Tok.cells, hc1, hc2, hc3, hc5, hc7, hc9, hg8, Bool.false_eq_true, if_true, if_false]; try rfl
      · --F 9
       have hc9N : (clsF (sat s a)) ≠ (7 : Int) := by simpa using hc9
       refine wp_region_lit ?_; refine wmv (.pointer (some ⟨b, 0, none⟩)) ?_; simp only [N]
       refine wr (rp_nilCheck rfl rfl) ?_; simp only [N]
       refine wr (rp_fieldAddr rfl Tryz.underlying129 rfl 3 rfl sz46 rfl 3 rfl) ?_; simp only [N]
       refine wl_store1 H 2 rfl rfl rfl (cs := #[.string s, iv (a : Int), .bool op, iv e]) rfl (v := iv (40 : Int)) rfl rfl sz46 (Nat.le_of_ble_eq_true rfl) ?_
       clear H; intro w53 H; simp only [Ms] at H
       simp only [N]
       refine wpList_nil ?_
       refine wsr ?_
       refine wmv (.pointer (some ⟨b, 0, none⟩)) ?_; simp only [N]
       refine wr (rp_fieldAddr rfl Tryz.underlying107 rfl 0 rfl sz105 rfl 0 rfl) ?_; simp only [N]
       refine wr (rp_load1 H 0 rfl rfl rfl Tryz.underlying105 rfl (v := bv (0 : UInt8)) rfl) ?_; simp only [N]
       refine wr (rp_bconv (rp_u8_neq rfl (0 : UInt8) (4 : UInt8) rfl rfl) (c := true) (by decide)) ?_; simp only [N]
       refine wmv (.bool true) ?_; simp only [N]
       refine wmv (.pointer (some ⟨b, 0, none⟩)) ?_; simp only [N]
       refine wr (rp_nilCheck rfl rfl) ?_; simp only [N]
       refine wr (rp_fieldAddr rfl Tryz.underlying129 rfl 2 rfl sz4 rfl 2 rfl) ?_; simp only [N]
       refine wr (rp_load1 H 2 rfl rfl rfl Tryz.underlying4 rfl (v := .bool op) rfl) ?_; simp only [N]
       refine wmv (.bool op) ?_; simp only [N]
       cases hg9 : op
       · --false
        refine wr (rp_fieldAddr rfl Tryz.underlying107 rfl 0 rfl sz105 rfl 0 rfl) ?_; simp only [N]
        refine wr (rp_load1 H 0 rfl rfl rfl Tryz.underlying105 rfl (v := bv (0 : UInt8)) rfl) ?_; simp only [N]
        refine wr (rp_bconv (rp_u8_gtr rfl (0 : UInt8) (0 : UInt8) rfl rfl) (c := false) (by decide)) ?_; simp only [N]
        refine wr (rp_pickF rfl rfl (v := .bool false) rfl) ?_; simp only [N]
        refine wr (rp_pickT rfl rfl (u := .bool false) rfl) ?_; simp only [N]
        refine wr (rp_nilCheck rfl rfl) ?_; simp only [N]
        refine wr (rp_fieldAddr rfl Tryz.underlying129 rfl 2 rfl sz4 rfl 2 rfl) ?_; simp only [N]
        refine wl_store1 H 2 rfl rfl rfl (cs := #[.string s, iv (a : Int), .bool op, iv (40 : Int)]) rfl (v := .bool false) rfl rfl sz4 (Nat.le_of_ble_eq_true rfl) ?_
        clear H; intro w54 H; simp only [Ms] at H
        simp only [N]
        refine wpList_nil ?_
        refine wsr ?_
        refine wr (rp_loadN H 0 rfl rfl rfl Tryz.underlying107 rfl sz107 (Nat.le_of_ble_eq_true rfl) (cs' := [bv (0 : UInt8), .string (⟨#[]⟩ : ByteArray), iv (a : Int)]) rfl) ?_; simp only [N]
        refine wl_storeW H 1 rfl rfl rfl rfl (vs := #[bv (0 : UInt8), .string (⟨#[]⟩ : ByteArray), iv (a : Int)]) rfl (by simp [Value.oneCell']) (by first | exact sz107 | (rw [sz107]; congr 1; first | omega | simp [LN, enc_length, putAt_length, localF_length] <;> omega)) (by first | rfl | first | omega | simp [LN, enc_length, putAt_length, localF_length] <;> omega) ?_
        clear H; intro w55 H; simp only [M] at H
        simp only [N]
        refine wpList_nil ?_
        refine wp_ret ?_
        try simp only [Exit.inBlock, Exit.then]
        refine bodyPost_ret (results1 rfl (rv_agg H 1 rfl rfl Tryz.underlying107 rfl (by first | exact sz107 | (rw [sz107]; congr 1; first | omega | simp [LN, enc_length, putAt_length, localF_length] <;> omega)))) rfl ?_
        have HC := H.chg
        have HB := H.blk (i := 2) rfl
        clear H
        have q1 : ((nextAt s a : Nat) : Int) = (a : Int) := by simp only [nextAt, hc1, hc2, hc3, hc5, hc7, hc9, hg9, Bool.false_eq_true, if_true, if_false]; try rfl
        have q2 : nextOpen false (nextTok s a false).kind = false := by simp only [nextTok, hc1, hc2, hc3, hc5, hc7, hc9, hg9, Bool.false_eq_true, if_true, if_false]; simp [nextOpen]
        have q3 : nextE s a e = (40 : Int) := by simp only [nextE, hc1, hc2, hc3, hc5, hc7, hc9, hg9, Bool.false_eq_true, if_true, if_false]
        refine ⟨?_, HC, by rw [q1, q2, q3]; exact HB⟩
        simp only [nextTok, Tok.cells, hc1, hc2, hc3, hc5, hc7, hc9, hg9, Bool.false_eq_true, if_true, if_false]; try rfl
       · --true
        refine wskt ?_; simp only [N]
        refine wskt ?_; simp only [N]
        refine wskt ?_; simp only [N]
        refine wr (rp_pickT rfl rfl (u := .bool true) rfl) ?_; simp only [N]
        refine wr (rp_pickT rfl rfl (u := .bool true) rfl) ?_; simp only [N]
        refine wr (rp_nilCheck rfl rfl) ?_; simp only [N]
        refine wr (rp_fieldAddr rfl Tryz.underlying129 rfl 2 rfl sz4 rfl 2 rfl) ?_; simp only [N]
        refine wl_store1 H 2 rfl rfl rfl (cs := #[.string s, iv (a : Int), .bool op, iv (40 : Int)]) rfl (v := .bool true) rfl rfl sz4 (Nat.le_of_ble_eq_true rfl) ?_
        clear H; intro w56 H; simp only [Ms] at H
        simp only [N]
        refine wpList_nil ?_
        refine wsr ?_
        refine wr (rp_loadN H 0 rfl rfl rfl Tryz.underlying107 rfl sz107 (Nat.le_of_ble_eq_true rfl) (cs' := [bv (0 : UInt8), .string (⟨#[]⟩ : ByteArray), iv (a : Int)]) rfl) ?_; simp only [N]
        refine wl_storeW H 1 rfl rfl rfl rfl (vs := #[bv (0 : UInt8), .string (⟨#[]⟩ : ByteArray), iv (a : Int)]) rfl (by simp [Value.oneCell']) (by first | exact sz107 | (rw [sz107]; congr 1; first | omega | simp [LN, enc_length, putAt_length, localF_length] <;> omega)) (by first | rfl | first | omega | simp [LN, enc_length, putAt_length, localF_length] <;> omega) ?_
        clear H; intro w57 H; simp only [M] at H
        simp only [N]
        refine wpList_nil ?_
        refine wp_ret ?_
        try simp only [Exit.inBlock, Exit.then]
        refine bodyPost_ret (results1 rfl (rv_agg H 1 rfl rfl Tryz.underlying107 rfl (by first | exact sz107 | (rw [sz107]; congr 1; first | omega | simp [LN, enc_length, putAt_length, localF_length] <;> omega)))) rfl ?_
        have HC := H.chg
        have HB := H.blk (i := 2) rfl
        clear H
        have q1 : ((nextAt s a : Nat) : Int) = (a : Int) := by simp only [nextAt, hc1, hc2, hc3, hc5, hc7, hc9, hg9, Bool.false_eq_true, if_true, if_false]; try rfl
        have q2 : nextOpen true (nextTok s a true).kind = true := by simp only [nextTok, hc1, hc2, hc3, hc5, hc7, hc9, hg9, Bool.false_eq_true, if_true, if_false]; simp [nextOpen]
        have q3 : nextE s a e = (40 : Int) := by simp only [nextE, hc1, hc2, hc3, hc5, hc7, hc9, hg9, Bool.false_eq_true, if_true, if_false]
        refine ⟨?_, HC, by rw [q1, q2, q3]; exact HB⟩
        simp only [nextTok, Tok.cells, hc1, hc2, hc3, hc5, hc7, hc9, hg9, Bool.false_eq_true, if_true, if_false]; try rfl

end Go.Proofs.YtimonjemjhecoaaGreatDoor
