/- Walks, printed by a program of this repository (wip/tool). -/
import Derived.Lib.ItoaMem
import Derived.Lib.SmallJoins
import Derived.Stop.IfaceNil
import Derived.Test.YtimonjemjhecoaaGreatDoorShelf
import Derived.Test.YtimonjemjhecoaaGreatDoorDec
namespace Go.Proofs.YtimonjemjhecoaaGreatDoor
open Go.RowKit
open Go
attribute [local irreducible] wpList wpQuiet wpX Code.wp
set_option maxHeartbeats 1000000
set_option maxRecDepth 100000
set_option linter.unusedSimpArgs false
set_option linter.unusedVariables false

structure Glob (w : World) : Prop where
  tab : Lib.TabIs Tryz.prog w "internal/strconv.uint64pow10" .u64 Lib.pow10Tab
  syn : ∃ t p, w.var? Tryz.prog "strconv.ErrSyntax" = some #[.iface t p]
  ran : ∃ t p, w.var? Tryz.prog "strconv.ErrRange" = some #[.iface t p]
theorem var_same {w w' : World} {n : String} {cs : Array Value} (h : w.var? Tryz.prog n = some cs) (hs : ∀ b, b < w.heap.size → w'.heap[b]? = w.heap[b]?) : w'.var? Tryz.prog n = some cs := by
  unfold World.var? at h ⊢
  cases hg : Tryz.prog.globalNamed n with
  | none => simp [hg] at h
  | some g =>
    simp only [hg, Option.bind_some] at h ⊢
    cases hb : w.heap[g]? with
    | none => simp [hb] at h
    | some o => rw [hs g (Array.getElem?_eq_some_iff.1 hb).1]; exact h
theorem Glob.keep {w w' : World} (h : Glob w) (hs : ∀ b, b < w.heap.size → w'.heap[b]? = w.heap[b]?) : Glob w' :=
  ⟨var_same h.tab hs, let ⟨t, p, e⟩ := h.syn; ⟨t, p, var_same e hs⟩, let ⟨t, p, e⟩ := h.ran; ⟨t, p, var_same e hs⟩⟩
theorem ext_bytes (w : World) (e : TypeId) (s : ByteArray) : Ext w (Lib.bytesWorld w e s) := Joins.below_bytesWorld _ w e s (Nat.le_refl _)
def numF (s : ByteArray) : UInt8 × Bool :=
  match Lib.parseUintB 8 s.data.toList with
  | .ok u => bif decide (⟨(Lib.decDigits u).toArray⟩ = s) then (UInt8.ofNat u, true) else (0, false)
  | _ => (0, false)
section
variable {P : Program} {o : Oper} {a : Act} {w : World}
theorem rp_u64_lss {T T' : TypeId} {x y : Operand} (ho : o.op = .binOp .lss T x y T') (p q : Int) (hx : a.eval x = .int .u64 p) (hy : a.eval y = .int .u64 q) :
    (execOp a.eval o).run P w = .ok (.value (.bool (decide (p < q)))) w := by unfold execOp; rw [ho]; simp only [hx, hy]; rfl
theorem rp_u64_int {T T' : TypeId} {x : Operand} (ho : o.op = .convert T T' x) {k : IntKind} (hT : P.underlying T = some (.int k)) (hT' : P.underlying T' = some (.int .i64)) (p : Nat) (hp : p < 9223372036854775808) (hx : a.eval x = .int .u64 (p : Int)) :
    (execOp a.eval o).run P w = .ok (.value (iv (p : Int))) w := by
  unfold execOp; rw [ho]; simp only [hx]
  simp only [convert, Sem.run_bind, run_underlying hT w, run_underlying hT' w, Result.andThen_ok]
  show Result.ok (Next.value (.int .i64 (IntKind.i64.wrap (p : Int)))) w = _
  rw [i64_fit (by omega)]
theorem rp_u64_u8 {T T' : TypeId} {x : Operand} (ho : o.op = .convert T T' x) {k : IntKind} (hT : P.underlying T = some (.int k)) (hT' : P.underlying T' = some (.int .u8)) (p : Nat) (hx : a.eval x = .int .u64 (p : Int)) :
    (execOp a.eval o).run P w = .ok (.value (bv (UInt8.ofNat p))) w := by
  unfold execOp; rw [ho]; simp only [hx]
  simp only [convert, Sem.run_bind, run_underlying hT w, run_underlying hT' w, Result.andThen_ok]
  show Result.ok (Next.value (.int .u8 (IntKind.u8.wrap (p : Int)))) w = _
  rw [IntKind.wrap_u8]
  congr 3
theorem rp_slice_arr_h {T : TypeId} {x hi : Operand} (ho : o.op = .slice T x none (some hi) none) {len e : Nat} (hT : P.underlying T = some (.array len e)) {n : Nat} (hn : (P.info? e).map (·.size) = some n) {b : Nat} (hx : a.eval x = .pointer (some ⟨b, 0, none⟩)) (h : Nat) (hh : a.eval hi = iv (h : Int)) (hlt : h ≤ len) :
    (execOp a.eval o).run P w = .ok (.value (.slice (some ⟨b, 0, none⟩) h len)) w := by
  obtain ⟨i, hi', hs⟩ := Option.map_eq_some_iff.1 hn
  have hl : P.arrayLen T = len := by simp [Program.arrayLen, hT]
  have he : P.elem T = e := by simp [Program.elem, hT]
  have hsz : (sizeOf e).run P w = .ok n w := by simp [sizeOf, typeInfo, hi', hs]
  have := run_sliceAt_array_h (P := P) w T ⟨b, 0, none⟩ (by rw [hT, hl, he]) .i64 (h : Int) (by omega) (by rw [hl]; omega)
  rw [he, hsz, Result.andThen_ok, hl] at this
  unfold execOp; rw [ho]
  simp only [hx, hh, Option.map_none, Option.map_some, Sem.run_bind, this, Result.andThen_ok]
  simp [slicedAt, Addr.add_mid]
theorem rp_bytes_str (l : List UInt8) {n : Nat} (hn : l.length = n) {T T' e : TypeId} {x : Operand} (ho : o.op = .convert T T' x) (hT : P.underlying T = some (.slice e)) (he : P.underlying e = some (.int .u8)) (hT' : P.underlying T' = some .string) {b cap : Nat} (hx : a.eval x = .slice (some ⟨b, 0, none⟩) n cap)
    {r : List UInt8} {E : TypeId} {fr : Nat × Nat} (hb : w.heap[b]? = some (.cells (enc (l ++ r)).toArray E fr)) : (execOp a.eval o).run P w = .ok (.value (.string ⟨l.toArray⟩)) w := by
  subst hn
  have h := run_convert_bytes_back (P := P) w T T' e ⟨b, 0, none⟩ cap l hT he hT' (fun j hj => by
    rw [Addr.add_mid, cell_of_row w b _ _ E fr hb]
    have h2 := enc_get (l := l ++ r) (i := j) (by simp; omega)
    simp only [Nat.zero_add, List.getElem?_toArray]
    rw [h2]
    simp [List.getD, List.getElem?_append_left hj, List.getElem?_eq_getElem hj])
  unfold execOp; rw [ho]; simp only [hx]
  simp only [Sem.run_bind, h, Result.andThen_ok]
  rfl
end
theorem put3 {dk : Array UInt8} {u v' : Nat} (hF : Lib.FmtInv (Lib.nDigits u) u 0 v' dk) (hn : Lib.nDigits u = 3) :
    Sort.putCells (fun b : UInt8 => Value.int .u8 (b.toNat : Int)) 0 dk (enc (List.replicate 24 (0 : UInt8))).toArray = (enc (Lib.decDigits u ++ List.replicate 21 0)).toArray := by
  have hs : dk.size = 3 := by rw [hF.size, hn]
  have hd : Lib.decDigits u = dk.toList := by
    refine List.ext_getElem (by rw [Lib.decDigits_length, hn]; simp [hs]) fun j h1 h2 => ?_
    rw [Lib.row_is_numeral hF j h1]
    have : j < dk.size := by simpa using h2
    rw [getElem!_pos dk j this]
    simp
  rw [hd]
  obtain ⟨l⟩ := dk
  match l, hs with
  | [x, y, z], _ =>
    apply Array.ext
    · simp [Sort.putCells]
    · intro k h1 h2
      have hk : k < 24 := by simpa [Sort.putCells] using h1
      simp only [Sort.putCells, Array.getElem_mapIdx]
      match k, hk with
      | 0, _ => rfl
      | 1, _ => rfl
      | 2, _ => rfl
      | 3, _ => rfl
      | 4, _ => rfl
      | 5, _ => rfl
      | 6, _ => rfl
      | 7, _ => rfl
      | 8, _ => rfl
      | 9, _ => rfl
      | 10, _ => rfl
      | 11, _ => rfl
      | 12, _ => rfl
      | 13, _ => rfl
      | 14, _ => rfl
      | 15, _ => rfl
      | 16, _ => rfl
      | 17, _ => rfl
      | 18, _ => rfl
      | 19, _ => rfl
      | 20, _ => rfl
      | 21, _ => rfl
      | 22, _ => rfl
      | 23, _ => rfl
      | k + 24, hk => omega
theorem dec3 (u : Nat) (h1 : 100 ≤ u) (h2 : u < 1000) : (Lib.decDigits u).length = 3 := by rw [Lib.decDigits_length, Lib.nDigits_unique 2 u h1 h2]
theorem fb10_spec (b T u : Nat) (h1 : 100 ≤ u) (h2 : u < 1000) (w : World) (hb : w.heap[b]? = some (.cells (enc (List.replicate 24 (0 : UInt8))).toArray T (0, 0))) :
    Calls Tryz.prog 125 #[.slice (some ⟨b, 0, none⟩) 3 24, .int .u64 (u : Int)] w fun e w' => e = .returned (.tuple #[]) ∧ Chg [b] w w' ∧ w'.heap[b]? = some (.cells (enc (Lib.decDigits u ++ List.replicate 21 0)).toArray T (0, 0)) := by
  have hn : Lib.nDigits u = 3 := Lib.nDigits_unique 2 u h1 h2
  have hH : Sort.Holds (fun b : UInt8 => Value.int .u8 (b.toNat : Int)) w b 0 (Array.replicate 3 (0 : UInt8)) := by
    intro j hj
    have hj : j < 3 := by simpa using hj
    refine ⟨?_, by simp [World.frozen?, hb]⟩
    rw [cell_of_row w b _ _ T (0, 0) hb]
    match j, hj with
    | 0, _ => rfl
    | 1, _ => rfl
    | 2, _ => rfl
  refine (Tryz.internal_strconv_formatBase10 b 0 24 u (Array.replicate 3 0) w hH (by simp; omega) (by omega) (by simp)).mono fun e w' ⟨he, n, v', dk, hw, hF⟩ => ⟨he, ?_⟩
  subst hw
  have hF : Lib.FmtInv (Lib.nDigits u) u 0 v' dk := by rw [hn]; simpa using hF
  have hlt : b < w.heap.size := (Array.getElem?_eq_some_iff.1 hb).1
  refine ⟨⟨rfl, rfl, rfl, by simp [Sort.putRow, Sort.mapBlock, World.drewN], fun c hc hne => ?_⟩, ?_⟩
  · simp only [Sort.putRow, Sort.mapBlock, World.drewN, Array.getElem?_modify]
    rw [if_neg (by intro e; exact hne (by simp [e]))]
  · simp only [Sort.putRow, Sort.mapBlock, World.drewN, Array.getElem?_modify, if_pos, hb, Option.map_some, Sort.onCells, put3 hF hn]
theorem small_spec (u : Nat) (h : u < 100) (w : World) : Calls Tryz.prog 123 #[iv (u : Int)] w fun e w' => e = .returned (.string ⟨(Lib.decDigits u).toArray⟩) ∧ Ext w w' :=
  (Tryz.internal_strconv_small u h w).mono fun e w' ⟨he, hw⟩ => ⟨he, by subst hw; exact Ext.refl _⟩
theorem nd_spec (u : Nat) (h1 : 100 ≤ u) (h2 : u < 1000) (w : World) (hg : Glob w) : Calls Tryz.prog 124 #[.int .u64 (u : Int)] w fun e w' => e = .returned (iv ((3 : Nat) : Int)) ∧ Ext w w' :=
  (Tryz.internal_strconv_numDigits u (by omega) (by omega) w hg.tab).mono fun e w' ⟨he, hw⟩ => ⟨by rw [he, Lib.nDigits_unique 2 u h1 h2], by subst hw; exact Ext.refl _⟩

theorem fmt_spec (u : Nat) (hu : u < 1000) (w : World) (hg : Glob w) :
    Calls Tryz.prog 115 #[.int .u64 (u : Int), iv 10] w fun e w' => e = .returned (.string ⟨(Lib.decDigits u).toArray⟩) ∧ Ext w w' := by
 have H := Own.start_ro w [Glob] (List.forall_mem_cons.2 ⟨fun w' hw => hg.keep hw, fun _ h => by cases h⟩)
 go_enter Tryz.func115, Tryz.ntmps115
 refine wsr ?_
 refine wasg (.string (⟨#[]⟩ : ByteArray)) ?_; simp only [N]
 refine wpList_nil ?_
 refine wp_seq ?_; refine wsr ?_
 refine wmv (iv (10 : Int)) ?_; simp only [N]
 refine wr (rp_bconv (rp_int_eql rfl (10 : Int) (10 : Int) rfl rfl) (c := true) (by decide)) ?_; simp only [N]
 refine wpList_nil ?_
 refine wp_cond_true rfl ?_
 refine wp_seq ?_; refine wsr ?_
 refine wmv (.int .u64 (u : Int)) ?_; simp only [N]
 refine wr (rp_u64_lss rfl (u : Int) (100 : Int) rfl rfl) ?_; simp only [N]
 refine wpList_nil ?_
 refine wp_cond_split rfl (fun hc1 => ?_) (fun hc1 => ?_)
 · --T 1
  have hc1N1 : (u : Int) < (100 : Int) := (by simpa using hc1)
  refine wsr ?_
  refine wmv (.int .u64 (u : Int)) ?_; simp only [N]
  refine wr (rp_u64_int rfl Tryz.underlying161 Tryz.underlying3 u (by omega) rfl) ?_; simp only [N]
  refine wl_callE H rfl (rc_go Tryz.func123 (by kernel_rfl) rfl) (small_spec u (by omega) _) ?_
  clear H; intro w1 H
  simp only [N]
  refine wasg (.string (⟨(Lib.decDigits u).toArray⟩ : ByteArray)) ?_; simp only [N]
  refine wpList_nil ?_
  refine wp_ret ?_
  try simp only [Exit.inBlock, Exit.then]
  refine bodyPost_ret (results1 rfl (rv_tmp rfl)) rfl ?_
  exact ⟨rfl, H.ext⟩
 · --F 1
  have hc1N2 : (100 : Int) ≤ (u : Int) := (by simpa using hc1)
  refine wp_skip ?_
  refine wsr ?_
  refine wl_alloc H rfl rfl zv175 ?_
  clear H; intro b1 w2 hnb1 H; dsimp only [Value.cells] at H
  simp only [N]
  simp only [enc_replicate] at H
  refine wpList_nil ?_
  refine wsr ?_
  refine wmv (.int .u64 (u : Int)) ?_; simp only [N]
  refine wl_callE H rfl (rc_go Tryz.func124 (by kernel_rfl) rfl) (nd_spec u (by omega) (by omega) _ (H.ro_at 0 rfl)) ?_
  clear H; intro w3 H
  simp only [N]
  refine wasg (iv ((3 : Nat) : Int)) ?_; simp only [N]
  refine wpList_nil ?_
  refine wsr ?_
  refine wmv (iv ((3 : Nat) : Int)) ?_; simp only [N]
  refine wr (rp_slice_arr_h rfl Tryz.underlying175 sz5 rfl 3 rfl (by omega)) ?_; simp only [N]
  refine wmv (.int .u64 (u : Int)) ?_; simp only [N]
  refine wl_callP H 0 rfl (rc_go Tryz.func125 (by kernel_rfl) rfl) rfl (fb10_spec _ _ u (by omega) (by omega) _ (H.blk (i := 0) rfl)) ?_
  clear H; intro w4 H; simp only [M] at H
  simp only [N]
  refine wpList_nil ?_
  refine wsr ?_
  refine wmv (iv ((3 : Nat) : Int)) ?_; simp only [N]
  refine wr (rp_slice_arr_h rfl Tryz.underlying175 sz5 rfl 3 rfl (by omega)) ?_; simp only [N]
  refine wr (rp_bytes_str (Lib.decDigits u) (dec3 u (by omega) (by omega)) rfl Tryz.underlying23 Tryz.underlying5 Tryz.underlying9 rfl (H.blk (i := 0) rfl)) ?_; simp only [N]
  refine wasg (.string (⟨(Lib.decDigits u).toArray⟩ : ByteArray)) ?_; simp only [N]
  refine wpList_nil ?_
  refine wp_ret ?_
  try simp only [Exit.inBlock, Exit.then]
  refine bodyPost_ret (results1 rfl (rv_tmp rfl)) rfl ?_
  exact ⟨rfl, H.ext⟩

section
variable {P : Program} {o : Oper} {a : Act} {w : World}
theorem rp_nil_neq {T T' : TypeId} {x : Operand} (ho : o.op = .binOp .neq T x (.const .nilIface) T') (hT : P.isIface T = true) (hx : a.eval x = .nilIface) :
    (execOp a.eval o).run P w = .ok (.value (.bool false)) w := by
  have g : (eqGuard .neq T x (.const .nilIface) .nilIface .nilIface).run P w = .ok () w := by
    unfold eqGuard
    simp
  unfold execOp; rw [ho]; simp only [hx, show a.eval (.const .nilIface) = .nilIface from rfl, Sem.run_bind, g, Result.andThen_ok, run_neq_nil_nil_at w T hT]
  rfl
theorem rp_iface_neq {T T' t : TypeId} {v : Value} {x : Operand} (ho : o.op = .binOp .neq T x (.const .nilIface) T') (hT : P.isIface T = true) (hx : a.eval x = .iface t v) :
    (execOp a.eval o).run P w = .ok (.value (.bool true)) w := by
  have g : (eqGuard .neq T x (.const .nilIface) (.iface t v) .nilIface).run P w = .ok () w := by
    unfold eqGuard
    simp
  unfold execOp; rw [ho]; simp only [hx, show a.eval (.const .nilIface) = .nilIface from rfl, Sem.run_bind, g, Result.andThen_ok, run_neq_iface_nil w T hT t v]
  rfl
end
theorem pu_ok (s : ByteArray) (hs : s.size ≤ 140737488355328) (u : Nat) (h : Lib.parseUintB 8 s.data.toList = .ok u) (w : World) :
    Calls Tryz.prog 109 #[.string s, iv 10, iv 8] w fun e w' => e = .returned (.tuple #[.int .u64 u, .nilIface]) ∧ Ext w w' :=
  (Tryz.strconv_ParseUint_10_at8_ok s (by omega) u h w).mono fun e w' ⟨he, hw⟩ => ⟨he, by rcases hw with rfl | rfl; exact Ext.refl _; exact ext_bytes _ _ _⟩
theorem pu_err (s : ByteArray) (hs : s.size ≤ 140737488355328) (h : ∀ u, Lib.parseUintB 8 s.data.toList ≠ .ok u) (w : World) (hg : Glob w) :
    Calls Tryz.prog 109 #[.string s, iv 10, iv 8] w fun e w' => ∃ x : Nat × Nat, e = .returned (.tuple #[.int .u64 (x.1 : Int), .iface 171 (.pointer (some ⟨x.2, 0, none⟩))]) ∧ Ext w w' ∧ Fresh w w' (fun _ => True) := by
  cases hp : Lib.parseUintB 8 s.data.toList with
  | ok u => exact absurd hp (h u)
  | range =>
    obtain ⟨t, p, hv⟩ := hg.ran
    exact (Tryz.strconv_ParseUint_10_at8_range_var s (by omega) hp t p w hv).mono fun e w' ⟨N, he, _, _, hB⟩ => ⟨(255, N), he, hB, fun _ _ => trivial⟩
  | _ =>
    obtain ⟨t, p, hv⟩ := hg.syn
    exact (Go.Proofs.Any.strconv_ParseUint_10_at8_syntax_var Tryz.laysPu14 s (by omega) hp t p w hv).mono fun e w' ⟨N, he, _, _, hB⟩ => ⟨(0, N), he, hB, fun _ _ => trivial⟩
theorem parseM_le (M : Nat) : ∀ (l : List UInt8) (acc u : Nat), acc ≤ M → Lib.parseUintM M acc l = .ok u → u ≤ M
  | [], acc, u, h, e => by simp [Lib.parseUintM] at e; omega
  | c :: r, acc, u, h, e => by
    unfold Lib.parseUintM at e
    split at e
    · split at e
      · cases e
      · split at e
        · cases e
        · exact parseM_le M r _ u (by omega) e
    · cases e
theorem parse8_lt {s : ByteArray} {u : Nat} (h : Lib.parseUintB 8 s.data.toList = .ok u) : u < 256 := by
  unfold Lib.parseUintB at h
  split at h
  · cases h
  · have := parseM_le _ _ _ _ (by omega) h; omega

theorem fmtp_spec (u : Nat) (hu : u < 1000) (w : World) (hg : Glob w) :
    Calls Tryz.prog 110 #[.int .u64 (u : Int), iv 10] w fun e w' => e = .returned (.string ⟨(Lib.decDigits u).toArray⟩) ∧ Ext w w' := by
 have H := Own.start_ro w [Glob] (List.forall_mem_cons.2 ⟨fun w' hw => hg.keep hw, fun _ h => by cases h⟩)
 go_enter Tryz.func110, Tryz.ntmps110
 refine wsr ?_
 refine wasg (.string (⟨#[]⟩ : ByteArray)) ?_; simp only [N]
 refine wpList_nil ?_
 refine wsr ?_
 refine wmv (.int .u64 (u : Int)) ?_; simp only [N]
 refine wmv (iv (10 : Int)) ?_; simp only [N]
 refine wl_callE H rfl (rc_go Tryz.func115 (by kernel_rfl) rfl) (fmt_spec u (by omega) _ (H.ro_at 0 rfl)) ?_
 clear H; intro w1 H
 simp only [N]
 refine wasg (.string (⟨(Lib.decDigits u).toArray⟩ : ByteArray)) ?_; simp only [N]
 refine wpList_nil ?_
 refine wp_ret ?_
 try simp only [Exit.inBlock, Exit.then]
 refine bodyPost_ret (results1 rfl (rv_tmp rfl)) rfl ?_
 exact ⟨rfl, H.ext⟩

theorem num_ok (s : ByteArray) (hs : s.size ≤ 140737488355328) (u : Nat) (hp : Lib.parseUintB 8 s.data.toList = .ok u) (w : World) (hg : Glob w) :
    Calls Tryz.prog 106 #[.string s] w fun e w' => e = .returned (.tuple #[bv (numF s).1, .bool (numF s).2]) ∧ Ext w w' := by
 have hu := parse8_lt hp
 have H := Own.start_ro w [Glob] (List.forall_mem_cons.2 ⟨fun w' hw => hg.keep hw, fun _ h => by cases h⟩)
 go_enter Tryz.func106, Tryz.ntmps106
 refine wsr ?_
 refine wasg (bv (0 : UInt8)) ?_; simp only [N]
 refine wasg (.bool false) ?_; simp only [N]
 refine wpList_nil ?_
 refine wsr ?_
 refine wmv (.string s) ?_; simp only [N]
 refine wl_callE H rfl (rc_go Tryz.func109 (by kernel_rfl) rfl) (pu_ok s hs u hp _) ?_
 clear H; intro w1 H
 simp only [N]
 refine wmv (.tuple #[.int .u64 (u : Int), .nilIface]) ?_; simp only [N]
 refine wr (rp_extract rfl rfl (v := .int .u64 (u : Int)) rfl) ?_; simp only [N]
 refine wr (rp_extract rfl rfl (v := .nilIface) rfl) ?_; simp only [N]
 refine wasg (.int .u64 (u : Int)) ?_; simp only [N]
 refine wasg (.nilIface) ?_; simp only [N]
 refine wpList_nil ?_
 refine wp_seq ?_; refine wsr ?_
 refine wmv (.nilIface) ?_; simp only [N]
 refine wr (rp_nil_neq rfl (by kernel_rfl) rfl) ?_; simp only [N]
 refine wmv (.bool false) ?_; simp only [N]
 refine wmv (.int .u64 (u : Int)) ?_; simp only [N]
 refine wl_callE H rfl (rc_go Tryz.func110 (by kernel_rfl) rfl) (fmtp_spec u (by omega) _ (H.ro_at 0 rfl)) ?_
 clear H; intro w2 H
 simp only [N]
 refine wmv (.string s) ?_; simp only [N]
 refine wr (rp_str_neq rfl (⟨(Lib.decDigits u).toArray⟩ : ByteArray) s rfl rfl) ?_; simp only [N]
 refine wr (rp_pickF rfl rfl (v := .bool (!(decide ((⟨(Lib.decDigits u).toArray⟩ : ByteArray) = s)))) rfl) ?_; simp only [N]
 refine wpList_nil ?_
 refine wp_cond_split rfl (fun hc1 => ?_) (fun hc1 => ?_)
 · --T 1
  have hx := hc1
  refine wsr ?_
  refine wasg (bv (0 : UInt8)) ?_; simp only [N]
  refine wasg (.bool false) ?_; simp only [N]
  refine wpList_nil ?_
  refine wp_ret ?_
  try simp only [Exit.inBlock, Exit.then]
  refine bodyPost_ret (results2 rfl (rv_tmp rfl) (rv_tmp rfl)) rfl ?_
  exact ⟨by unfold numF; simp only [hp]; simp_all, H.ext⟩
 · --F 1
  refine wp_skip ?_
  refine wsr ?_
  refine wmv (.int .u64 (u : Int)) ?_; simp only [N]
  refine wr (rp_u64_u8 rfl Tryz.underlying161 Tryz.underlying5 u rfl) ?_; simp only [N]
  refine wasg (bv (UInt8.ofNat u)) ?_; simp only [N]
  refine wasg (.bool true) ?_; simp only [N]
  refine wpList_nil ?_
  refine wp_ret ?_
  try simp only [Exit.inBlock, Exit.then]
  refine bodyPost_ret (results2 rfl (rv_tmp rfl) (rv_tmp rfl)) rfl ?_
  exact ⟨by unfold numF; simp only [hp]; simp_all, H.ext⟩

theorem num_no (s : ByteArray) (hs : s.size ≤ 140737488355328) (hp : ∀ u, Lib.parseUintB 8 s.data.toList ≠ .ok u) (w : World) (hg : Glob w) :
    Calls Tryz.prog 106 #[.string s] w fun e w' => e = .returned (.tuple #[bv (numF s).1, .bool (numF s).2]) ∧ Ext w w' := by
 have H := Own.start_ro w [Glob] (List.forall_mem_cons.2 ⟨fun w' hw => hg.keep hw, fun _ h => by cases h⟩)
 go_enter Tryz.func106, Tryz.ntmps106
 refine wsr ?_
 refine wasg (bv (0 : UInt8)) ?_; simp only [N]
 refine wasg (.bool false) ?_; simp only [N]
 refine wpList_nil ?_
 refine wsr ?_
 refine wmv (.string s) ?_; simp only [N]
 refine wl_callF H rfl (rc_go Tryz.func109 (by kernel_rfl) rfl) (pu_err s hs hp _ (H.ro_at 0 rfl)) ?_
 clear H; intro x1 w1 H
 simp only [N]
 refine wmv (.tuple #[.int .u64 (x1.1 : Int), (.iface 171 (.pointer (some ⟨x1.2, 0, none⟩)))]) ?_; simp only [N]
 refine wr (rp_extract rfl rfl (v := .int .u64 (x1.1 : Int)) rfl) ?_; simp only [N]
 refine wr (rp_extract rfl rfl (v := (.iface 171 (.pointer (some ⟨x1.2, 0, none⟩)))) rfl) ?_; simp only [N]
 refine wasg (.int .u64 (x1.1 : Int)) ?_; simp only [N]
 refine wasg ((.iface 171 (.pointer (some ⟨x1.2, 0, none⟩)))) ?_; simp only [N]
 refine wpList_nil ?_
 refine wp_seq ?_; refine wsr ?_
 refine wmv ((.iface 171 (.pointer (some ⟨x1.2, 0, none⟩)))) ?_; simp only [N]
 refine wr (rp_iface_neq rfl (by kernel_rfl) rfl) ?_; simp only [N]
 refine wmv (.bool true) ?_; simp only [N]
 refine wskt ?_; simp only [N]
 refine wskt ?_; simp only [N]
 refine wskt ?_; simp only [N]
 refine wskt ?_; simp only [N]
 refine wr (rp_pickT rfl rfl (u := .bool true) rfl) ?_; simp only [N]
 refine wpList_nil ?_
 refine wp_cond_true rfl ?_
 refine wsr ?_
 refine wasg (bv (0 : UInt8)) ?_; simp only [N]
 refine wasg (.bool false) ?_; simp only [N]
 refine wpList_nil ?_
 refine wp_ret ?_
 try simp only [Exit.inBlock, Exit.then]
 refine bodyPost_ret (results2 rfl (rv_tmp rfl) (rv_tmp rfl)) rfl ?_
 have e0 : numF s = (0, false) := by
     unfold numF
     split
     · exact absurd (by assumption) (hp _)
     · rfl
 exact ⟨by rw [e0]; rfl, H.ext⟩

theorem num_spec (s : ByteArray) (w : World) (hs : s.size ≤ 140737488355328) (hg : Glob w) :
    Calls Tryz.prog 106 #[.string s] w fun e w' => e = .returned (.tuple #[bv (numF s).1, .bool (numF s).2]) ∧ Ext w w' := by
  cases hp : Lib.parseUintB 8 s.data.toList with
  | ok u => exact num_ok s hs u hp w hg
  | range => exact num_no s hs (fun u h => by rw [hp] at h; cases h) w hg
  | _ => exact num_no s hs (fun u h => by rw [hp] at h; cases h) w hg

end Go.Proofs.YtimonjemjhecoaaGreatDoor
