/- The bits of a field, one by one; put. -/
import Derived.Test.YteabcdmgklhijaaFa
namespace Go.Proofs.Yteabcdmgklhijaa
open Go.RowKit
set_option linter.unusedSimpArgs false
set_option linter.unusedVariables false

theorem prefix_take {α : Type} {l : List α} {j : Nat} {x : α} (h : l[j]? = some x) : (l.take j ++ [x]) <+: l := by
  have hj : j < l.length := (List.getElem?_eq_some_iff.1 h).1
  have hx : l[j] = x := (List.getElem?_eq_some_iff.1 h).2
  rw [← hx, ← List.take_succ_eq_append_getElem hj]
  exact List.take_prefix _ _
theorem take_snoc {α : Type} {l : List α} {j : Nat} {x : α} (h : l[j]? = some x) : l.take j ++ [x] = l.take (j + 1) := by
  have hj : j < l.length := (List.getElem?_eq_some_iff.1 h).1
  have hx : l[j] = x := (List.getElem?_eq_some_iff.1 h).2
  rw [← hx, ← List.take_succ_eq_append_getElem hj]

theorem shr_at (v wd j : Nat) (hj : j < wd) (hw : wd ≤ 64) : (v : Int).fdiv (2 ^ (min ((wd : Int) - 1 - (j : Int)).toNat IntKind.u64.bits)) = ((v / 2 ^ (wd - 1 - j) : Nat) : Int) := by
  have e : min ((wd : Int) - 1 - (j : Int)).toNat IntKind.u64.bits = wd - 1 - j := by
    have : IntKind.u64.bits = 64 := rfl
    omega
  rw [e, Int.fdiv_eq_ediv_of_nonneg _ (Int.le_of_lt (Int.pow_pos (by decide)))]
  push_cast
  rfl
theorem and_one (v i : Nat) (hv : v < 18446744073709551616) : IntKind.u64.wrap ((BitVec.ofInt IntKind.u64.bits ((v / 2 ^ i : Nat) : Int) &&& BitVec.ofInt IntKind.u64.bits 1).toNat : Int) = bi (v.testBit i) := by
  have h1 : v / 2 ^ i < 18446744073709551616 := Nat.lt_of_le_of_lt (Nat.div_le_self _ _) hv
  have e1 : (BitVec.ofInt 64 ((v / 2 ^ i : Nat) : Int)).toNat = v / 2 ^ i := by rw [BitVec.ofInt_natCast, BitVec.toNat_ofNat]; exact Nat.mod_eq_of_lt (by omega)
  have e2 : (BitVec.ofInt 64 (1 : Int)).toNat = 1 := by decide
  have e3 : ((BitVec.ofInt 64 ((v / 2 ^ i : Nat) : Int)) &&& (BitVec.ofInt 64 (1 : Int))).toNat = v / 2 ^ i % 2 := by rw [BitVec.toNat_and, e1, e2, Nat.and_one_is_mod]
  show IntKind.u64.wrap (((BitVec.ofInt 64 ((v / 2 ^ i : Nat) : Int)) &&& (BitVec.ofInt 64 (1 : Int))).toNat : Int) = _
  rw [e3, testBit_bi]
  exact Z.wu64 (by omega)
theorem u8_bi (b : Bool) : IntKind.u8.wrap (bi b) = bi b := by cases b <;> decide
def BitA (b : Bool) (args : Array Value) (Lx : List SX.Ent) : Prop := args = #[.int .u8 (bi b)] ∧ Lx = []

set_option maxRecDepth 100000 in
theorem bits_seq (gv gw Tv Tw : Nat) (v wd : Nat) (hv : v < 18446744073709551616) (hw : wd ≤ 64) :
    SX.SeqC Try.prog 67 #[.pointer (some ⟨gw, 0, none⟩), .pointer (some ⟨gv, 0, none⟩)] BitA [SX.Ent.blk gw Tw #[.int .i64 (wd : Int)], SX.Ent.blk gv Tv #[.int .u64 (v : Int)]] (fun _ _ => True) (fld v wd) := by
  intro l w0 M I Ix W L0 _ hY hI hs
  have hfl := fld_length v wd
  refine Z.enter Try.func67 rfl Try.ntmps67 rfl rfl ?_
  refine Z.scope ?_
  refine Z.seq ?_
  refine Z.label ?_
  refine Z.nthen ?_
  refine Z.seq ?_
  refine Z.region ?_
  refine Z.l rfl rfl (by rfl) (Z.keepS hs) (by first | exact Z.Yd.load rfl Try.isAgg3 (fun _ => Z.cellB (by first | ((repeat (first | exact List.mem_cons_self | refine List.mem_cons_of_mem _ ?_ | refine List.mem_append_right _ ?_)); done) | fail) rfl) | exact Z.Yd.load rfl Try.isAgg3 (fun _ => Z.cellO (by assumption) (by simp) (by assumption)) | fail "load 0.0") ?_
  refine Z.l rfl rfl (by rfl) (Z.keepS hs) (Z.Yd.sub rfl rfl (fun hG => Z.wi64 (by first | omega | (have hG' := Z.gh rfl hG; simp at hG'; omega)))) ?_
  refine Z.lb 1 rfl ?_
  refine Z.lnil ?_
  refine Z.only [0, 2, 4] rfl ?_
  refine Z.nthen ?_
  refine Z.block ?_
  refine Z.loopk (ι := Nat × List SX.Ent) [0, 2] rfl (fun j => [(4, [], .int .i64 ((wd : Int) - 1 - (j.1 : Int)))]) (fun j wr => j.1 ≤ wd ∧ I ((fld v wd).take j.1) j.2 ∧ SX.St w0 M wr (j.2 ++ [SX.Ent.blk gw Tw #[.int .i64 (wd : Int)], SX.Ent.blk gv Tv #[.int .u64 (v : Int)]])) (fun j => wd - j.1) (0, L0) (by refine ⟨?_, trivial⟩ <;> (first | rfl | (refine Z.lookv rfl ?_; simp; done) | (refine Z.lookv rfl ?_; simp; omega))) ⟨by omega, hI, hs⟩ ?_
  clear hs
  rintro ⟨j, L1⟩ w1 ⟨hj, hi, hs⟩
  refine Z.only [0, 2, 4] rfl ?_
  dsimp only at hs
  refine Z.seq ?_
  refine Z.seq ?_
  refine Z.region ?_
  refine Z.lb 2 rfl ?_
  refine Z.lnil ?_
  refine Z.only [0, 2, 4, 8] rfl ?_
  refine Z.nthen ?_
  refine Z.cond rfl (fun hc1 => ?_) (fun hc1 => ?_)
  · first
      | (exfalso; simp at hc1 <;> omega)
      | (
        (try simp at hc1)
        have hlt : j < wd := by omega
        have hg := fld_get v wd j hlt
        refine Z.skip ?_
        refine Z.nthen ?_
        refine Z.seq ?_
        refine Z.block ?_
        refine Z.seq ?_
        refine Z.region ?_
        refine Z.lb 1 rfl ?_
        refine Z.l rfl rfl (by rfl) (Z.keepS hs) (by first | exact Z.Yd.load rfl Try.isAgg40 (fun _ => Z.cellB (by first | ((repeat (first | exact List.mem_cons_self | refine List.mem_cons_of_mem _ ?_ | refine List.mem_append_right _ ?_)); done) | fail) rfl) | exact Z.Yd.load rfl Try.isAgg40 (fun _ => Z.cellO (by assumption) (by simp) (by assumption)) | fail "load 3.1") ?_
        refine Z.lb 1 rfl ?_
        refine Z.l rfl rfl (by rfl) (Z.keepS hs) (Z.Yd.shr rfl rfl (by intro hG; first | decide | omega) (fun _ => shr_at v wd j hlt hw)) ?_
        refine Z.l rfl rfl (by rfl) (Z.keepS hs) (Z.Yd.and rfl rfl (fun _ => and_one v (wd - 1 - j) hv)) ?_
        refine Z.l rfl rfl (by rfl) (Z.keepS hs) (Z.Yd.convI rfl ⟨_, Try.underlying40⟩ Try.underlying5 (fun _ => u8_bi _)) ?_
        refine Z.le rfl trivial ?_
        refine Z.ZO.yield rfl rfl (by rfl) rfl rfl rfl (hY _ ((fld v wd).take j) (v.testBit (wd - 1 - j)) _ _ L1 [] hi (prefix_take hg) ⟨rfl, rfl⟩ hs) ?_
        clear hs
        rintro e wy3_6 (⟨rfl, Ly3_6, hiy3_6, hs⟩ | ⟨rfl, Ly3_6, hiy3_6, hs⟩)
        · refine ⟨_, rfl, ?_⟩
          refine Z.lb 1 rfl ?_
          refine Z.lnil ?_
          refine Z.only [0, 2, 4, 18] rfl ?_
          refine Z.nthen ?_
          refine Z.cond rfl (fun hc3 => ?_) (fun hc3 => ?_)
          · first
              | (exfalso; simp at hc3 <;> omega)
              | (
                (try simp at hc3)
                refine Z.exit ?_
                refine Z.xblockn rfl ?_
                refine Z.xthen ?_
                refine Z.xthen ?_
                refine Z.xblock ?_
                refine Z.nscope ?_
                -- ret#0
                refine Z.out0n trivial ?_
                first
                | exact ⟨⟨_, rfl⟩, Ly3_6, .inr hiy3_6, hs⟩
                | exact ⟨⟨_, rfl⟩, L1, .inl (by rwa [List.take_of_length_le (by omega)] at hi), hs⟩
                )
          · first
              | (exfalso; simp at hc3 <;> omega)
              | (
                (try simp at hc3)
                refine Z.skip ?_
                refine Z.nblock ?_
                refine Z.nthen ?_
                refine Z.region ?_
                refine Z.lb 1 rfl ?_
                refine Z.l rfl rfl (by rfl) (Z.keepS hs) (Z.Yd.sub rfl rfl (fun hG => Z.wi64 (by first | omega | (have hG' := Z.gh rfl hG; simp at hG'; omega)))) ?_
                refine Z.lb 1 rfl ?_
                refine Z.lnil ?_
                refine Z.only [0, 2, 4] rfl ?_
                refine Z.nthen ?_
                exact Z.again (j + 1, Ly3_6) (by refine ⟨?_, ?_, ?_, trivial⟩ <;> (first | rfl | (refine Z.lookv rfl ?_; simp; done) | (refine Z.lookv rfl ?_; simp; omega))) ⟨by omega, by rw [← take_snoc hg]; exact hiy3_6, hs⟩ (by simp only; omega)
                )
        · refine ⟨_, rfl, ?_⟩
          refine Z.lb 1 rfl ?_
          refine Z.lnil ?_
          refine Z.only [0, 2, 4, 18] rfl ?_
          refine Z.nthen ?_
          refine Z.cond rfl (fun hc3 => ?_) (fun hc3 => ?_)
          · first
              | (exfalso; simp at hc3 <;> omega)
              | (
                (try simp at hc3)
                refine Z.exit ?_
                refine Z.xblockn rfl ?_
                refine Z.xthen ?_
                refine Z.xthen ?_
                refine Z.xblock ?_
                refine Z.nscope ?_
                -- ret#1
                refine Z.out0n trivial ?_
                first
                | exact ⟨⟨_, rfl⟩, Ly3_6, .inr hiy3_6, hs⟩
                | exact ⟨⟨_, rfl⟩, L1, .inl (by rwa [List.take_of_length_le (by omega)] at hi), hs⟩
                )
          · first
              | (exfalso; simp at hc3 <;> omega)
              | (
                (try simp at hc3)
                refine Z.skip ?_
                refine Z.nblock ?_
                refine Z.nthen ?_
                refine Z.region ?_
                refine Z.lb 1 rfl ?_
                refine Z.l rfl rfl (by rfl) (Z.keepS hs) (Z.Yd.sub rfl rfl (fun hG => Z.wi64 (by first | omega | (have hG' := Z.gh rfl hG; simp at hG'; omega)))) ?_
                refine Z.lb 1 rfl ?_
                refine Z.lnil ?_
                refine Z.only [0, 2, 4] rfl ?_
                refine Z.nthen ?_
                exact Z.again (j + 1, Ly3_6) (by refine ⟨?_, ?_, ?_, trivial⟩ <;> (first | rfl | (refine Z.lookv rfl ?_; simp; done) | (refine Z.lookv rfl ?_; simp; omega))) ⟨by omega, by rw [← take_snoc hg]; exact hiy3_6, hs⟩ (by simp only; omega)
                )
        )
  · first
      | (exfalso; simp at hc1 <;> omega)
      | (
        (try simp at hc1)
        refine Z.exit ?_
        refine Z.xthen ?_
        refine Z.xthen ?_
        refine Z.xblock ?_
        refine Z.nscope ?_
        -- ret#2
        refine Z.out0n trivial ?_
        first
        | exact ⟨⟨_, rfl⟩, Ly3_6, .inr hiy3_6, hs⟩
        | exact ⟨⟨_, rfl⟩, L1, .inl (by rwa [List.take_of_length_le (by omega)] at hi), hs⟩
        )

theorem bits_any (v wd : Nat) (w : World) :
    Calls Try.prog 65 #[.int .u64 (v : Int), .int .i64 (wd : Int)] w (SX.Ret fun r w' => ∃ gv gw, r = .func (.func 67) #[] #[.pointer (some ⟨gw, 0, none⟩), .pointer (some ⟨gv, 0, none⟩)] ∧
      SX.St w [] w' [SX.Ent.blk gw 3 #[.int .i64 (wd : Int)], SX.Ent.blk gv 40 #[.int .u64 (v : Int)]]) := by
  have hs := SX.St.start w
  refine Z.enter Try.func65 rfl Try.ntmps65 rfl rfl ?_
  refine Z.seq ?_
  refine Z.region ?_
  refine Z.le rfl trivial ?_
  refine Z.ZO.box rfl rfl (by rfl) rfl rfl hs ?_
  clear hs; intro g2 w2 hs
  refine Z.le rfl trivial ?_
  refine Z.ZO.box rfl rfl (by rfl) rfl rfl hs ?_
  clear hs; intro g3 w3 hs
  refine Z.lb 1 rfl ?_
  refine Z.lnil ?_
  refine Z.only [2, 3] rfl ?_
  refine Z.nthen ?_
  refine Z.seq ?_
  refine Z.region ?_
  refine Z.lb 2 rfl ?_
  refine Z.lnil ?_
  refine Z.only [4] rfl ?_
  refine Z.nthen ?_
  refine Z.ret ?_
  -- ret#0
  refine Z.out1 (by exact ⟨rfl, trivial⟩) ?_
  exact ⟨_, rfl, _, _, rfl, hs⟩

set_option maxRecDepth 100000 in
theorem put_any (g T : Nat) (sv : Value) (bs : List Bool) (v wd : Nat) (w : World) (hs : SX.St w (SX.idsOf (WrL g T sv bs)) w (WrL g T sv bs)) (hb : bs.length ≤ 9000000) (hv : v < 18446744073709551616) (hw : wd ≤ 64) :
    Calls Try.prog 62 #[.pointer (some ⟨g, 0, none⟩), .int .u64 (v : Int), .int .i64 (wd : Int)] w (SX.Ret fun r w' => ∃ sv', r = .tuple #[] ∧ SX.St w (SX.idsOf (WrL g T sv bs)) w' (WrL g T sv' (bs ++ fld v wd))) := by
  generalize hM : SX.idsOf (WrL g T sv bs) = M at *
  refine Z.enterM Try.func62 rfl Try.ntmps62 rfl rfl ?_
  refine Z.seq ?_
  refine Z.region ?_
  refine Z.le rfl trivial ?_
  refine Z.ZO.box rfl rfl (by rfl) rfl rfl hs ?_
  clear hs; intro g3 w3 hs
  refine Z.lnil ?_
  refine Z.only [1, 2, 3, 10] rfl ?_
  refine Z.nthen ?_
  refine Z.seq ?_
  refine Z.region ?_
  refine Z.lb 2 rfl ?_
  refine Z.le rfl trivial ?_
  refine Z.ZO.call rfl rfl (by rfl) rfl rfl Try.call65 rfl (bits_any v wd _) ?_
  rintro v1_2 w1_2 ⟨gv, gw, rfl, hy⟩
  replace hs := hs.call hy
  clear hy
  try simp only [List.cons_append, List.nil_append, List.append_nil] at hs
  refine Z.lnil ?_
  refine Z.only [3, 9, 10] rfl ?_
  refine Z.nthen ?_
  refine Z.block ?_
  refine Z.rangeFunc (ps := [10]) (L0 := SX.Ent.blk g3 100 #[.pointer (some ⟨g, 0, none⟩)] :: WrL g T sv bs) (bits_seq gv gw _ _ v wd hv hw) rfl Try.call67 (hs.rot (L1 := [_, _])) trivial (by rintro x args Lx ⟨rfl, rfl⟩; rfl) rfl (fun pre L => ∃ sv', L = SX.Ent.blk g3 100 #[.pointer (some ⟨g, 0, none⟩)] :: WrL g T sv' (bs ++ pre)) (fun _ _ => False) ⟨sv, by simp⟩ ?_ ?_ ?_
  · clear hs
    rintro l0 Z0 pre x args W0 L0 Lx ⟨sv', rfl⟩ hpre ⟨rfl, rfl⟩ hs
    refine ⟨_, rfl, ?_⟩
    refine Z.region ?_
    refine Z.lb 1 rfl ?_
    refine Z.lnil ?_
    refine Z.only [3, 6] rfl ?_
    refine Z.nthen ?_
    refine Z.assigned (SX.Ent.blk g3 100 #[.pointer (some ⟨g, 0, none⟩)] :: WrL g T sv' (bs ++ pre)) hs ?_
    clear hs
    intro Wb0 Zb0 hs
    refine Z.block ?_
    refine Z.region ?_
    refine Z.l rfl rfl (by rfl) (Z.keepS hs) (by first | exact Z.Yd.load rfl Try.isAgg100 (fun _ => Z.cellB (by first | ((repeat (first | exact List.mem_cons_self | refine List.mem_cons_of_mem _ ?_ | refine List.mem_append_right _ ?_)); done) | fail) rfl) | exact Z.Yd.load rfl Try.isAgg100 (fun _ => Z.cellO (by assumption) (by simp) (by assumption)) | fail "load 3.0") ?_
    refine Z.l rfl rfl (by rfl) (Z.keepS hs) (Z.Yd.nilc rfl rfl) ?_
    refine Z.l rfl rfl (by rfl) (Z.keepS hs) (Z.Yd.fieldA (m := 0) rfl (by kernel_rfl)) ?_
    refine Z.lb 1 rfl ?_
    have hpl := hpre.length_le
    have hfl := fld_length v wd
    simp only [List.length_append, List.length_cons, List.length_nil] at hpl
    replace hs := SX.St.unmid (L1 := WrL g T sv' (bs ++ pre)) hs
    refine Z.le rfl trivial ?_
    refine Z.ZO.call rfl rfl (by rfl) rfl rfl Try.call66 rfl (add_any g T sv' (bs ++ pre) x _ hs.lend (by simp; omega)) ?_
    rintro v3_4 w3_4 ⟨sv2, rfl, hz⟩
    replace hs := (hs.regain hz).mid
    refine Z.lnil ?_
    refine Z.only [] rfl ?_
    refine Z.nblock ?_
    exact Z.rnorm _ ⟨sv2, by rw [← List.append_assoc]⟩ hs
  · clear hs
    rintro Dd W0 L0 hi hs
    obtain ⟨sv', rfl⟩ := hi
    refine Z.nblock ?_
    -- ret#0
    refine Z.outM1n (vs := []) hs (fun _ _ => trivial) trivial ?_
    clear hs
    intro wr hs
    exact ⟨_, rfl, sv', rfl, hs.tl.sub (List.sublist_append_left _ _)⟩
  · clear hs
    rintro Dd c W0 L0 hi hs
    exact hi.elim
end Go.Proofs.Yteabcdmgklhijaa
