/- Part 2 of the proofs that lead to the statement. -/
import Derived.Test.YtcieclifabbkjaaY1
import Derived.ProofKit
import Derived.OpenShut
import Derived.ShutString
import Derived.ChangeOld
import Derived.Below
/- The bits of a field, one by one; put. -/
namespace Go.Proofs.Ytcieclifabbkjaa
open Go.RowKit
set_option linter.unusedSimpArgs false
set_option linter.unusedVariables false

theorem prefix_take {α : Type} {l : List α} {j : Nat} {x : α} (h : l[j]? = some x) : (l.take j ++ [x]) <+: l := by
  have hj : j < l.length := (List.getElem?_eq_some_iff.1 h).1
  have hx : l[j] = x := (List.getElem?_eq_some_iff.1 h).2
  rw [← hx, ← List.take_succ_eq_append_getElem hj]
  exact List.take_prefix _ _
theorem take_snoc {α : Type} {l : List α} {j : Nat} {x : α} (h : l[j]? = some x) : l.take j ++ [x] = l.take (j + 1) := by
  have hj : j < l.length := (List.getElem?_eq_some_iff.1 h).1
  have hx : l[j] = x := (List.getElem?_eq_some_iff.1 h).2
  rw [← hx, ← List.take_succ_eq_append_getElem hj]

theorem shr_at (v wd j : Nat) (hj : j < wd) (hw : wd ≤ 64) : (v : Int).fdiv (2 ^ (min ((wd : Int) - 1 - (j : Int)).toNat IntKind.u64.bits)) = ((v / 2 ^ (wd - 1 - j) : Nat) : Int) := by
  have e : min ((wd : Int) - 1 - (j : Int)).toNat IntKind.u64.bits = wd - 1 - j := by
    have : IntKind.u64.bits = 64 := rfl
    omega
  rw [e, Int.fdiv_eq_ediv_of_nonneg _ (Int.le_of_lt (Int.pow_pos (by decide)))]
  push_cast
  rfl
theorem and_one (v i : Nat) (hv : v < 18446744073709551616) : IntKind.u64.wrap ((BitVec.ofInt IntKind.u64.bits ((v / 2 ^ i : Nat) : Int) &&& BitVec.ofInt IntKind.u64.bits 1).toNat : Int) = bi (v.testBit i) := by
  have h1 : v / 2 ^ i < 18446744073709551616 := Nat.lt_of_le_of_lt (Nat.div_le_self _ _) hv
  have e1 : (BitVec.ofInt 64 ((v / 2 ^ i : Nat) : Int)).toNat = v / 2 ^ i := by rw [BitVec.ofInt_natCast, BitVec.toNat_ofNat]; exact Nat.mod_eq_of_lt (by omega)
  have e2 : (BitVec.ofInt 64 (1 : Int)).toNat = 1 := by decide
  have e3 : ((BitVec.ofInt 64 ((v / 2 ^ i : Nat) : Int)) &&& (BitVec.ofInt 64 (1 : Int))).toNat = v / 2 ^ i % 2 := by rw [BitVec.toNat_and, e1, e2, Nat.and_one_is_mod]
  show IntKind.u64.wrap (((BitVec.ofInt 64 ((v / 2 ^ i : Nat) : Int)) &&& (BitVec.ofInt 64 (1 : Int))).toNat : Int) = _
  rw [e3, testBit_bi]
  exact Z.wu64 (by omega)
theorem u8_bi (b : Bool) : IntKind.u8.wrap (bi b) = bi b := by cases b <;> decide
def BitA (b : Bool) (args : Array Value) (Lx : List SX.Ent) : Prop := args = #[.int .u8 (bi b)] ∧ Lx = []

set_option maxRecDepth 100000 in
theorem bits_seq (gv gw Tv Tw : Nat) (v wd : Nat) (hv : v < 18446744073709551616) (hw : wd ≤ 64) :
    SX.SeqC Try.prog 81 #[.pointer (some ⟨gw, 0, none⟩), .pointer (some ⟨gv, 0, none⟩)] BitA [SX.Ent.blk gw Tw #[.int .i64 (wd : Int)], SX.Ent.blk gv Tv #[.int .u64 (v : Int)]] (fun _ _ => True) (fld v wd) := by
  intro l w0 M I Ix W L0 _ hY hI hs
  have hfl := fld_length v wd
  refine Z.enter Try.func81 rfl Try.ntmps81 rfl rfl ?_
  refine Z.scope ?_
  refine Z.seq ?_
  refine Z.label ?_
  refine Z.nthen ?_
  refine Z.seq ?_
  refine Z.region ?_
  refine Z.l rfl rfl (by rfl) (Z.keepS hs) (by first | exact Z.Yd.load rfl Try.isAgg3 (fun _ => Z.cellB (by first | ((repeat (first | exact List.mem_cons_self | refine List.mem_cons_of_mem _ ?_ | refine List.mem_append_right _ ?_)); done) | fail) rfl) | exact Z.Yd.load rfl Try.isAgg3 (fun _ => Z.cellO (by assumption) (by simp) (by assumption)) | fail "load 0.0") ?_
  refine Z.l rfl rfl (by rfl) (Z.keepS hs) (Z.Yd.sub rfl rfl (fun hG => Z.wi64 (by first | omega | (have hG' := Z.gh rfl hG; simp at hG'; omega)))) ?_
  refine Z.lb 1 rfl ?_
  refine Z.lnil ?_
  refine Z.only [0, 2, 4] rfl ?_
  refine Z.nthen ?_
  refine Z.block ?_
  refine Z.loopk (ι := Nat × List SX.Ent) [0, 2] rfl (fun j => [(4, [], .int .i64 ((wd : Int) - 1 - (j.1 : Int)))]) (fun j wr => j.1 ≤ wd ∧ I ((fld v wd).take j.1) j.2 ∧ SX.St w0 M wr (j.2 ++ [SX.Ent.blk gw Tw #[.int .i64 (wd : Int)], SX.Ent.blk gv Tv #[.int .u64 (v : Int)]])) (fun j => wd - j.1) (0, L0) (by refine ⟨?_, trivial⟩ <;> (first | rfl | (refine Z.lookv rfl ?_; simp; done) | (refine Z.lookv rfl ?_; simp; omega))) ⟨by omega, hI, hs⟩ ?_
  clear hs
  rintro ⟨j, L1⟩ w1 ⟨hj, hi, hs⟩
  refine Z.only [0, 2, 4] rfl ?_
  (try dsimp only at hs)
  refine Z.seq ?_
  refine Z.seq ?_
  refine Z.region ?_
  refine Z.lb 2 rfl ?_
  refine Z.lnil ?_
  refine Z.only [0, 2, 4, 8] rfl ?_
  refine Z.nthen ?_
  refine Z.cond rfl (fun hc1 => ?_) (fun hc1 => ?_)
  · first
      | (exfalso; simp at hc1 <;> omega)
      | (
        (try simp at hc1)
        have hlt : j < wd := by omega
        have hg := fld_get v wd j hlt
        refine Z.skip ?_
        refine Z.nthen ?_
        refine Z.seq ?_
        refine Z.block ?_
        refine Z.seq ?_
        refine Z.region ?_
        refine Z.lb 1 rfl ?_
        refine Z.l rfl rfl (by rfl) (Z.keepS hs) (by first | exact Z.Yd.load rfl Try.isAgg62 (fun _ => Z.cellB (by first | ((repeat (first | exact List.mem_cons_self | refine List.mem_cons_of_mem _ ?_ | refine List.mem_append_right _ ?_)); done) | fail) rfl) | exact Z.Yd.load rfl Try.isAgg62 (fun _ => Z.cellO (by assumption) (by simp) (by assumption)) | fail "load 3.1") ?_
        refine Z.lb 1 rfl ?_
        refine Z.l rfl rfl (by rfl) (Z.keepS hs) (Z.Yd.shr rfl rfl (by intro hG; first | decide | omega) (fun _ => shr_at v wd j hlt hw)) ?_
        refine Z.l rfl rfl (by rfl) (Z.keepS hs) (Z.Yd.and rfl rfl (fun _ => and_one v (wd - 1 - j) hv)) ?_
        refine Z.l rfl rfl (by rfl) (Z.keepS hs) (Z.Yd.convI rfl ⟨_, Try.underlying62⟩ Try.underlying5 (fun _ => u8_bi _)) ?_
        refine Z.le rfl trivial ?_
        refine Z.ZO.yield rfl rfl (by rfl) rfl rfl rfl (hY _ ((fld v wd).take j) (v.testBit (wd - 1 - j)) _ _ L1 [] hi (prefix_take hg) ⟨rfl, rfl⟩ hs) ?_
        clear hs
        rintro e wy3_6 (⟨rfl, Ly3_6, hiy3_6, hs⟩ | ⟨rfl, Ly3_6, hiy3_6, hs⟩)
        · refine ⟨_, rfl, ?_⟩
          refine Z.lb 1 rfl ?_
          refine Z.lnil ?_
          refine Z.only [0, 2, 4, 18] rfl ?_
          refine Z.nthen ?_
          refine Z.cond rfl (fun hc3 => ?_) (fun hc3 => ?_)
          · first
              | (exfalso; simp at hc3 <;> omega)
              | (
                (try simp at hc3)
                refine Z.exit ?_
                refine Z.xblockn rfl ?_
                refine Z.xthen ?_
                refine Z.xthen ?_
                refine Z.xblock ?_
                refine Z.nscope ?_
                -- ret#0
                refine Z.out0n trivial ?_
                first
                | exact ⟨⟨_, rfl⟩, Ly3_6, .inr hiy3_6, hs⟩
                | exact ⟨⟨_, rfl⟩, L1, .inl (by rwa [List.take_of_length_le (by omega)] at hi), hs⟩
                )
          · first
              | (exfalso; simp at hc3 <;> omega)
              | (
                (try simp at hc3)
                refine Z.skip ?_
                refine Z.nblock ?_
                refine Z.nthen ?_
                refine Z.region ?_
                refine Z.lb 1 rfl ?_
                refine Z.l rfl rfl (by rfl) (Z.keepS hs) (Z.Yd.sub rfl rfl (fun hG => Z.wi64 (by first | omega | (have hG' := Z.gh rfl hG; simp at hG'; omega)))) ?_
                refine Z.lb 1 rfl ?_
                refine Z.lnil ?_
                refine Z.only [0, 2, 4] rfl ?_
                refine Z.nthen ?_
                exact Z.again (j + 1, Ly3_6) (by refine ⟨?_, ?_, ?_, trivial⟩ <;> (first | rfl | (refine Z.lookv rfl ?_; simp; done) | (refine Z.lookv rfl ?_; simp; omega))) ⟨by omega, by rw [← take_snoc hg]; exact hiy3_6, hs⟩ (by simp only; omega)
                )
        · refine ⟨_, rfl, ?_⟩
          refine Z.lb 1 rfl ?_
          refine Z.lnil ?_
          refine Z.only [0, 2, 4, 18] rfl ?_
          refine Z.nthen ?_
          refine Z.cond rfl (fun hc3 => ?_) (fun hc3 => ?_)
          · first
              | (exfalso; simp at hc3 <;> omega)
              | (
                (try simp at hc3)
                refine Z.exit ?_
                refine Z.xblockn rfl ?_
                refine Z.xthen ?_
                refine Z.xthen ?_
                refine Z.xblock ?_
                refine Z.nscope ?_
                -- ret#1
                refine Z.out0n trivial ?_
                first
                | exact ⟨⟨_, rfl⟩, Ly3_6, .inr hiy3_6, hs⟩
                | exact ⟨⟨_, rfl⟩, L1, .inl (by rwa [List.take_of_length_le (by omega)] at hi), hs⟩
                )
          · first
              | (exfalso; simp at hc3 <;> omega)
              | (
                (try simp at hc3)
                refine Z.skip ?_
                refine Z.nblock ?_
                refine Z.nthen ?_
                refine Z.region ?_
                refine Z.lb 1 rfl ?_
                refine Z.l rfl rfl (by rfl) (Z.keepS hs) (Z.Yd.sub rfl rfl (fun hG => Z.wi64 (by first | omega | (have hG' := Z.gh rfl hG; simp at hG'; omega)))) ?_
                refine Z.lb 1 rfl ?_
                refine Z.lnil ?_
                refine Z.only [0, 2, 4] rfl ?_
                refine Z.nthen ?_
                exact Z.again (j + 1, Ly3_6) (by refine ⟨?_, ?_, ?_, trivial⟩ <;> (first | rfl | (refine Z.lookv rfl ?_; simp; done) | (refine Z.lookv rfl ?_; simp; omega))) ⟨by omega, by rw [← take_snoc hg]; exact hiy3_6, hs⟩ (by simp only; omega)
                )
        )
  · first
      | (exfalso; simp at hc1 <;> omega)
      | (
        (try simp at hc1)
        refine Z.exit ?_
        refine Z.xthen ?_
        refine Z.xthen ?_
        refine Z.xblock ?_
        refine Z.nscope ?_
        -- ret#2
        refine Z.out0n trivial ?_
        first
        | exact ⟨⟨_, rfl⟩, Ly3_6, .inr hiy3_6, hs⟩
        | exact ⟨⟨_, rfl⟩, L1, .inl (by rwa [List.take_of_length_le (by omega)] at hi), hs⟩
        )

theorem bits_any (v wd : Nat) (w : World) :
    Calls Try.prog 73 #[.int .u64 (v : Int), .int .i64 (wd : Int)] w (SX.Ret fun r w' => ∃ gv gw, r = .func (.func 81) #[] #[.pointer (some ⟨gw, 0, none⟩), .pointer (some ⟨gv, 0, none⟩)] ∧
      SX.St w [] w' [SX.Ent.blk gw 3 #[.int .i64 (wd : Int)], SX.Ent.blk gv 62 #[.int .u64 (v : Int)]]) := by
  have hs := SX.St.start w
  refine Z.enter Try.func73 rfl Try.ntmps73 rfl rfl ?_
  refine Z.seq ?_
  refine Z.region ?_
  refine Z.le rfl trivial ?_
  refine Z.ZO.box rfl rfl (by rfl) rfl rfl hs ?_
  clear hs; intro g2 w2 hs
  refine Z.le rfl trivial ?_
  refine Z.ZO.box rfl rfl (by rfl) rfl rfl hs ?_
  clear hs; intro g3 w3 hs
  refine Z.lb 1 rfl ?_
  refine Z.lnil ?_
  refine Z.only [2, 3] rfl ?_
  refine Z.nthen ?_
  refine Z.seq ?_
  refine Z.region ?_
  refine Z.lb 2 rfl ?_
  refine Z.lnil ?_
  refine Z.only [4] rfl ?_
  refine Z.nthen ?_
  refine Z.ret ?_
  -- ret#0
  refine Z.out1 (by exact ⟨rfl, trivial⟩) ?_
  exact ⟨_, rfl, _, _, rfl, hs⟩

set_option maxRecDepth 100000 in
theorem put_any (g T : Nat) (sv : Value) (bs : List Bool) (v wd : Nat) (w : World) (hs : SX.St w (SX.idsOf (WrL g T sv bs)) w (WrL g T sv bs)) (hb : bs.length ≤ 9000000) (hv : v < 18446744073709551616) (hw : wd ≤ 64) :
    Calls Try.prog 54 #[.pointer (some ⟨g, 0, none⟩), .int .u64 (v : Int), .int .i64 (wd : Int)] w (SX.Ret fun r w' => ∃ sv', r = .tuple #[] ∧ SX.St w (SX.idsOf (WrL g T sv bs)) w' (WrL g T sv' (bs ++ fld v wd))) := by
  generalize hM : SX.idsOf (WrL g T sv bs) = M at *
  refine Z.enterM Try.func54 rfl Try.ntmps54 rfl rfl ?_
  refine Z.seq ?_
  refine Z.region ?_
  refine Z.le rfl trivial ?_
  refine Z.ZO.box rfl rfl (by rfl) rfl rfl hs ?_
  clear hs; intro g3 w3 hs
  refine Z.lnil ?_
  refine Z.only [1, 2, 3] rfl ?_
  refine Z.nthen ?_
  refine Z.seq ?_
  refine Z.region ?_
  refine Z.lb 2 rfl ?_
  refine Z.le rfl trivial ?_
  refine Z.ZO.call rfl rfl (by rfl) rfl rfl Try.call73 rfl (bits_any v wd _) ?_
  rintro v1_2 w1_2 ⟨gv, gw, rfl, hy⟩
  replace hs := hs.call hy
  clear hy
  try simp only [List.cons_append, List.nil_append, List.append_nil] at hs
  refine Z.lnil ?_
  refine Z.only [3, 9] rfl ?_
  refine Z.nthen ?_
  refine Z.block ?_
  refine Z.rangeFunc (ps := [10]) (L0 := SX.Ent.blk g3 99 #[.pointer (some ⟨g, 0, none⟩)] :: WrL g T sv bs) (bits_seq gv gw _ _ v wd hv hw) rfl Try.call81 (hs.rot (L1 := [_, _])) trivial (by rintro x args Lx ⟨rfl, rfl⟩; rfl) rfl (fun pre L => ∃ sv', L = SX.Ent.blk g3 99 #[.pointer (some ⟨g, 0, none⟩)] :: WrL g T sv' (bs ++ pre)) (fun _ _ => False) ⟨sv, by simp⟩ ?_ ?_ ?_
  · clear hs
    rintro l0 Z0 pre x args W0 L0 Lx ⟨sv', rfl⟩ hpre ⟨rfl, rfl⟩ hs
    refine ⟨_, rfl, ?_⟩
    refine Z.region ?_
    refine Z.lb 1 rfl ?_
    refine Z.lnil ?_
    refine Z.only [3, 6] rfl ?_
    refine Z.nthen ?_
    refine Z.assigned (SX.Ent.blk g3 99 #[.pointer (some ⟨g, 0, none⟩)] :: WrL g T sv' (bs ++ pre)) hs ?_
    clear hs
    intro Wb0 Zb0 hs
    refine Z.block ?_
    refine Z.region ?_
    refine Z.l rfl rfl (by rfl) (Z.keepS hs) (by first | exact Z.Yd.load rfl Try.isAgg99 (fun _ => Z.cellB (by first | ((repeat (first | exact List.mem_cons_self | refine List.mem_cons_of_mem _ ?_ | refine List.mem_append_right _ ?_)); done) | fail) rfl) | exact Z.Yd.load rfl Try.isAgg99 (fun _ => Z.cellO (by assumption) (by simp) (by assumption)) | fail "load 3.0") ?_
    refine Z.l rfl rfl (by rfl) (Z.keepS hs) (Z.Yd.nilc rfl rfl) ?_
    refine Z.l rfl rfl (by rfl) (Z.keepS hs) (Z.Yd.fieldA (m := 0) rfl (by kernel_rfl)) ?_
    refine Z.lb 1 rfl ?_
    have hpl := hpre.length_le
    have hfl := fld_length v wd
    simp only [List.length_append, List.length_cons, List.length_nil] at hpl
    replace hs := SX.St.unmid (L1 := WrL g T sv' (bs ++ pre)) hs
    refine Z.le rfl trivial ?_
    refine Z.ZO.call rfl rfl (by rfl) rfl rfl Try.call74 rfl (add_any g T sv' (bs ++ pre) x _ hs.lend (by simp; omega)) ?_
    rintro v3_4 w3_4 ⟨sv2, rfl, hz⟩
    replace hs := (hs.regain hz).mid
    refine Z.lnil ?_
    refine Z.only [] rfl ?_
    refine Z.nblock ?_
    exact Z.rnorm _ ⟨sv2, by rw [← List.append_assoc]⟩ hs
  · clear hs
    rintro Dd W0 L0 hi hs
    obtain ⟨sv', rfl⟩ := hi
    refine Z.nblock ?_
    -- ret#0
    refine Z.outM1n (vs := []) hs (fun _ _ => trivial) trivial ?_
    clear hs
    intro wr hs
    exact ⟨_, rfl, sv', rfl, hs.tl.sub (List.sublist_append_left _ _)⟩
  · clear hs
    rintro Dd c W0 L0 hi hs
    exact hi.elim
end Go.Proofs.Ytcieclifabbkjaa

/- Copies of bytes; comparisons; the document's bits. -/
namespace Go.Proofs.Ytcieclifabbkjaa
open Go.RowKit
set_option linter.unusedSimpArgs false
set_option linter.unusedVariables false

theorem clone8 (M : List Nat) (A : Option Addr) (n c : Nat) (l : List Int) (w : World) (hx : Sx w M A (ints .u8 l)) (hl : l.length = n) (hn : n ≤ 100000000) (hz : A = none → n = 0) :
    Calls Try.prog 55 #[.slice A n c] w (SX.Ret fun v w' => SX.St w [] w' [SX.Ent.row v 5 1 n (ints .u8 l)]) := by
  have hs := SX.St.start w
  cases A with
  | none =>
    obtain rfl := hz rfl
    have hl0 : l = [] := List.eq_nil_of_length_eq_zero hl
    subst hl0
    refine Z.enter Try.func55 rfl Try.ntmps55 rfl rfl ?_
    refine Z.seq ?_
    refine Z.region ?_
    refine Z.lb 1 rfl ?_
    refine Z.lnil ?_
    refine Z.only [0] rfl ?_
    refine Z.nthen ?_
    refine Z.seq ?_
    refine Z.seq ?_
    refine Z.region ?_
    refine Z.lb 1 rfl ?_
    refine Z.l rfl rfl (by rfl) (Z.keepS hs) (Z.Yd.sliceNil rfl rfl Try.underlying26) ?_
    refine Z.lnil ?_
    refine Z.only [0, 4] rfl ?_
    refine Z.nthen ?_
    refine Z.cond rfl (fun hc1 => ?_) (fun h => absurd h (by simp))
    refine Z.seq ?_
    refine Z.region ?_
    refine Z.lb 1 rfl ?_
    refine Z.lnil ?_
    refine Z.only [2] rfl ?_
    refine Z.nthen ?_
    refine Z.ret ?_
    repeat (first | refine Z.rthen ?_ | refine Z.rblock ?_ | refine Z.rscope ?_)
    -- ret#0
    refine Z.out1 (by exact ⟨rfl, trivial⟩) ?_
    exact ⟨_, rfl, hs.nil _ _⟩
  | some ad =>
    refine Z.enter Try.func55 rfl Try.ntmps55 rfl rfl ?_
    refine Z.seq ?_
    refine Z.region ?_
    refine Z.lb 1 rfl ?_
    refine Z.lnil ?_
    refine Z.only [0] rfl ?_
    refine Z.nthen ?_
    refine Z.seq ?_
    refine Z.seq ?_
    refine Z.region ?_
    refine Z.lb 1 rfl ?_
    refine Z.l rfl rfl (by rfl) (Z.keepS hs) (Z.Yd.sliceNil rfl rfl Try.underlying26) ?_
    refine Z.lnil ?_
    refine Z.only [0, 4] rfl ?_
    refine Z.nthen ?_
    refine Z.cond rfl (fun h => absurd h (by simp)) (fun hc1 => ?_)
    refine Z.skip ?_
    refine Z.nthen ?_
    refine Z.seq ?_
    refine Z.region ?_
    refine Z.le rfl trivial ?_
    refine Z.ZO.empty rfl rfl (by rfl) Try.underlying26 Try.sizeOf5 hs ?_
    clear hs; intro g5 w5 hs
    refine Z.lb 1 rfl ?_
    refine Z.le rfl trivial ?_
    refine Z.ZO.appendG (i0 := Try.t5) (size := 1) (bytes := 1) rfl rfl (by rfl) hs Try.underlying26 (by kernel_rfl) rfl rfl rfl rfl (by decide) rfl rfl (by first | exact SX.at0 | exact SX.at1 | exact SX.at2 | exact SX.at3 | exact SX.at4 | exact SX.at5 | exact Z.at6 | exact Z.at7 | exact Z.at8 | exact Z.at9 | exact Z.at10 | exact Z.at11 | exact Z.at12) (hx.sl.st hs) (by first | rfl | assumption | (simp [ints_length]; done) | (simp [ints_length]; omega)) (by first | exact Z.ints_one | assumption | simp [Value.oneCell']) (by unfold maxLen; omega) (by omega) ?_
    clear hs; intro v7 w7 hs
    simp only [List.set_cons_zero, List.set_cons_succ] at hs
    refine Z.lb 1 rfl ?_
    refine Z.lnil ?_
    refine Z.only [2] rfl ?_
    refine Z.nthen ?_
    refine Z.ret ?_
    -- ret#0
    refine Z.out1 (by exact ⟨rfl, trivial⟩) ?_
    exact ⟨_, rfl, by simpa using hs⟩

theorem bits_bd {bs : List Bool} {x : Int} (h : x ∈ bits bs) : 0 ≤ x ∧ x ≤ 1 := by
  simp only [bits, List.mem_map] at h
  obtain ⟨b, _, rfl⟩ := h
  exact bi_bd b
theorem elt_bits {bs : List Bool} {i : Nat} (h : i < bs.length) : elt (bits bs) (i : Int) = bi (bt bs i) := by
  simp [elt, bits, bt, h]

/-- the document's check of a list of bits -/
theorem valid01 (A : Option Addr) (n c : Nat) (bs : List Bool) (w : World) (hx : Sl w A (ints .u8 (bits bs))) (hl : bs.length = n) (hn : n ≤ 100000000) :
    Calls Try.prog 76 #[.slice A n c] w (SX.Ret fun v w' => v = .bool true ∧ SX.St w [] w' []) := by
  have hs := SX.St.start w
  have hlb := bits_length bs
  refine Z.enter Try.func76 rfl Try.ntmps76 rfl rfl ?_
  refine Z.seq ?_
  refine Z.region ?_
  refine Z.lb 1 rfl ?_
  refine Z.lnil ?_
  refine Z.only [0] rfl ?_
  refine Z.nthen ?_
  refine Z.seq ?_
  refine Z.seq ?_
  refine Z.region ?_
  refine Z.lb 1 rfl ?_
  refine Z.lnil ?_
  refine Z.only [0, 3] rfl ?_
  refine Z.nthen ?_
  refine Z.block ?_
  refine Z.loopk (ι := Nat) [0] rfl (fun k => [(3, [], .int .i64 (k : Int))]) (fun k wr => k ≤ n ∧ SX.St w [] wr []) (fun k => n - k) 0 (by refine ⟨?_, trivial⟩ <;> (first | rfl | (refine Z.lookv rfl ?_; simp; done) | (refine Z.lookv rfl ?_; simp; omega))) ⟨by omega, hs⟩ ?_
  clear hs
  rintro k w1 ⟨hkn, hs⟩
  refine Z.only [0, 3] rfl ?_
  refine Z.seq ?_
  refine Z.seq ?_
  refine Z.region ?_
  refine Z.lb 2 rfl ?_
  refine Z.l rfl rfl (by rfl) (Z.keepS hs) (Z.Yd.lenS rfl Try.underlying26) ?_
  refine Z.lb 1 rfl ?_
  refine Z.lnil ?_
  refine Z.only [0, 3, 7] rfl ?_
  refine Z.nthen ?_
  refine Z.cond rfl (fun hc2 => ?_) (fun hc2 => ?_)
  · first
      | (exfalso; simp at hc2 <;> omega)
      | (
        (try simp at hc2)
        obtain ⟨b, off, rfl, hb, hx⟩ := Z.Sl.some hx (by simp [ints]; omega)
        have he := elt_bits (bs := bs) (i := k) (by omega)
        have hbb := bi_bd (bt bs k)
        refine Z.skip ?_
        refine Z.nthen ?_
        refine Z.seq ?_
        refine Z.block ?_
        refine Z.seq ?_
        refine Z.region ?_
        refine Z.lb 2 rfl ?_
        refine Z.l rfl rfl (by rfl) (Z.keepS hs) (Z.Yd.elem rfl rfl Try.underlying26 Try.sizeOf5 (fun hG => ⟨(by first | omega | (have hG' := Z.gh rfl hG; simp at hG'; omega)), (by first | omega | (have hG' := Z.gh rfl hG; simp at hG'; omega))⟩)) ?_
        refine Z.l rfl rfl (by rfl) (Z.keepS hs) (by first | exact Z.Yd.load rfl Try.isAgg5 (fun hG => Z.cellR (by first | ((repeat (first | exact List.mem_cons_self | refine List.mem_cons_of_mem _ ?_ | refine List.mem_append_right _ ?_)); done) | fail) (Z.ints_at (by first | omega | (have hG' := Z.gh rfl hG; simp at hG'; omega)) (by first | omega | (have hG' := Z.gh rfl hG; simp at hG'; omega)))) | exact Z.Yd.load rfl Try.isAgg5 (fun hG => Z.cellXi (by assumption) (by first | omega | (have hG' := Z.gh rfl hG; simp at hG'; omega)) (by first | omega | (have hG' := Z.gh rfl hG; simp at hG'; omega))) | exact Z.Yd.load rfl Try.isAgg5 (fun hG => Z.cellS (by assumption) rfl (by first | omega | (have hG' := Z.gh rfl hG; simp at hG'; omega)) (by first | omega | (have hG' := Z.gh rfl hG; simp at hG'; omega))) | fail "load 4.3") ?_
        refine Z.lb 1 rfl ?_
        refine Z.lnil ?_
        refine Z.only [0, 3, 14] rfl ?_
        refine Z.nthen ?_
        refine Z.cond rfl (fun hc4 => ?_) (fun hc4 => ?_)
        · first
            | (exfalso; simp at hc4 <;> omega)
            | (
              (try simp at hc4)
              refine Z.seq ?_
              refine Z.region ?_
              refine Z.lb 1 rfl ?_
              refine Z.lnil ?_
              refine Z.only [2] rfl ?_
              refine Z.nthen ?_
              refine Z.ret ?_
              repeat (first | refine Z.rthen ?_ | refine Z.rblock ?_ | refine Z.rscope ?_)
              -- ret#0
              refine Z.out1 (by exact ⟨rfl, trivial⟩) ?_
              first | exact ⟨_, rfl, rfl, hs⟩ | exact ⟨_, rfl, rfl, hs.sub (List.nil_sublist _)⟩
              )
        · first
            | (exfalso; simp at hc4 <;> omega)
            | (
              (try simp at hc4)
              refine Z.skip ?_
              refine Z.nblock ?_
              refine Z.nthen ?_
              refine Z.region ?_
              refine Z.lb 1 rfl ?_
              refine Z.l rfl rfl (by rfl) (Z.keepS hs) (Z.Yd.add rfl rfl (fun hG => Z.wi64 (by first | omega | (have hG' := Z.gh rfl hG; simp at hG'; omega)))) ?_
              refine Z.lb 1 rfl ?_
              refine Z.lnil ?_
              refine Z.only [0, 3] rfl ?_
              refine Z.nthen ?_
              exact Z.again (k + 1) (by refine ⟨?_, ?_, trivial⟩ <;> (first | rfl | (refine Z.lookv rfl ?_; simp; done) | (refine Z.lookv rfl ?_; simp; omega))) ⟨by omega, hs⟩ (by omega)
              )
        )
  · first
      | (exfalso; simp at hc2 <;> omega)
      | (
        (try simp at hc2)
        refine Z.exit ?_
        refine Z.xthen ?_
        refine Z.xthen ?_
        refine Z.xblock ?_
        refine Z.nthen ?_
        refine Z.seq ?_
        refine Z.region ?_
        refine Z.lb 1 rfl ?_
        refine Z.lnil ?_
        refine Z.only [2] rfl ?_
        refine Z.nthen ?_
        refine Z.ret ?_
        -- ret#1
        refine Z.out1 (by exact ⟨rfl, trivial⟩) ?_
        first | exact ⟨_, rfl, rfl, hs⟩ | exact ⟨_, rfl, rfl, hs.sub (List.nil_sublist _)⟩
        )
end Go.Proofs.Ytcieclifabbkjaa

/- The document's FromUint, Pack, Unpack. -/
namespace Go.Proofs.Ytcieclifabbkjaa
open Go.RowKit
set_option linter.unusedSimpArgs false
set_option linter.unusedVariables false

def outj (v n j : Nat) : List Int := (List.range n).map fun i => if n - j ≤ i then bi (v.testBit (n - 1 - i)) else 0
@[simp] theorem outj_length (v n j : Nat) : (outj v n j).length = n := by simp [outj]
theorem outj_zero (v n : Nat) : ints .u8 (outj v n 0) = List.replicate n (.int .u8 0) := by
  apply List.ext_getElem?
  intro i
  simp only [ints, outj, List.map_map, List.getElem?_map, List.getElem?_replicate]
  by_cases h : i < n
  · rw [List.getElem?_range h]
    simp [h]
    intro h2
    omega
  · rw [List.getElem?_eq_none (by simpa using h)]
    simp [h]
theorem outj_full (v n : Nat) : outj v n n = bits (fld v n) := by
  apply List.ext_getElem?
  intro i
  simp only [outj, bits, List.getElem?_map]
  by_cases h : i < n
  · rw [List.getElem?_range h, fld_get v n i h]
    simp
  · rw [List.getElem?_eq_none (by simpa using h), List.getElem?_eq_none (by rw [fld_length]; omega)]
    rfl
theorem outj_succ (v n j : Nat) (h : j < n) : (ints .u8 (outj v n j)).set (((n : Int) - 1 - (j : Int)).toNat * 1) (.int .u8 (bi (v.testBit j))) = ints .u8 (outj v n (j + 1)) := by
  have e : (((n : Int) - 1 - (j : Int)).toNat * 1) = n - 1 - j := by omega
  rw [e]
  apply List.ext_getElem?
  intro i
  simp only [ints, outj, List.getElem?_set, List.length_map, List.length_range, List.getElem?_map]
  by_cases hi : n - 1 - j = i
  · subst hi
    have h1 : n - 1 - j < n := by omega
    rw [if_pos rfl, if_pos h1, List.getElem?_range h1]
    simp only [Option.map_some]
    rw [if_pos (by omega), show n - 1 - (n - 1 - j) = j from by omega]
  · rw [if_neg hi]
    by_cases h2 : i < n
    · rw [List.getElem?_range h2]
      simp only [Option.map_some]
      congr 2
      by_cases h3 : n - j ≤ i
      · rw [if_pos h3, if_pos (by omega)]
      · rw [if_neg h3, if_neg (by omega)]
    · rw [List.getElem?_eq_none (by simpa using h2)]
      rfl
theorem conv_bit (v j : Nat) : IntKind.u8.wrap (((v / 2 ^ j : Nat) : Int) % 2) = bi (v.testBit j) := by
  rw [testBit_bi]
  have : (((v / 2 ^ j : Nat) : Int) % 2) = ((v / 2 ^ j % 2 : Nat) : Int) := by omega
  rw [this]
  exact Z.wu8 (by omega)
theorem half (v j : Nat) (hv : v < 18446744073709551616) : IntKind.u64.wrap (((v / 2 ^ j : Nat) : Int).tdiv 2) = ((v / 2 ^ (j + 1) : Nat) : Int) := by
  have h1 : v / 2 ^ j ≤ v := Nat.div_le_self _ _
  rw [Nat.pow_succ, ← Nat.div_div_eq_div_mul]
  generalize v / 2 ^ j = q at *
  rw [Z.qu64 (by omega) (by omega)]
  omega

theorem fromUint_bad (v n : Int) (w : World) (h : n < 0 ∨ 64 < n) :
    Calls Try.prog 75 #[.int .u64 v, .int .i64 n] w (SX.Ret fun r w' => r = .tuple #[.slice none 0 0, .int .i64 2] ∧ SX.St w [] w' []) := by
  have hs := SX.St.start w
  refine Z.enter Try.func75 rfl Try.ntmps75 rfl rfl ?_
  refine Z.seq ?_
  refine Z.region ?_
  refine Z.lb 2 rfl ?_
  refine Z.lnil ?_
  refine Z.only [0, 1] rfl ?_
  refine Z.nthen ?_
  refine Z.seq ?_
  refine Z.seq ?_
  refine Z.region ?_
  refine Z.lb 6 rfl ?_
  refine Z.lnil ?_
  refine Z.only [0, 1, 13] rfl ?_
  refine Z.nthen ?_
  refine Z.cond rfl (fun hc1 => ?_) (fun h => absurd h (by simp; omega))
  refine Z.seq ?_
  refine Z.region ?_
  refine Z.lb 2 rfl ?_
  refine Z.lnil ?_
  refine Z.only [4, 5] rfl ?_
  refine Z.nthen ?_
  refine Z.ret ?_
  repeat (first | refine Z.rthen ?_ | refine Z.rblock ?_ | refine Z.rscope ?_)
  -- ret#0
  refine Z.out2 (by exact ⟨rfl, rfl, trivial⟩) ?_
  first | exact ⟨_, rfl, rfl, hs⟩ | exact ⟨_, rfl, rfl, hs.sub (List.nil_sublist _)⟩
set_option maxRecDepth 100000 in
theorem fromUint_ok (v n : Nat) (w : World) (hn : n ≤ 64) (hv : v < 18446744073709551616) (h0 : v / 2 ^ n = 0) :
    Calls Try.prog 75 #[.int .u64 (v : Int), .int .i64 (n : Int)] w (SX.Ret fun r w' => ∃ sv, r = .tuple #[sv, .int .i64 0] ∧ SX.St w [] w' [SX.Ent.row sv 5 1 n (ints .u8 (bits (fld v n)))]) := by
  have hs := SX.St.start w
  refine Z.enter Try.func75 rfl Try.ntmps75 rfl rfl ?_
  refine Z.seq ?_
  refine Z.region ?_
  refine Z.lb 2 rfl ?_
  refine Z.lnil ?_
  refine Z.only [0, 1] rfl ?_
  refine Z.nthen ?_
  refine Z.seq ?_
  refine Z.seq ?_
  refine Z.region ?_
  refine Z.lb 6 rfl ?_
  refine Z.lnil ?_
  refine Z.only [0, 1, 13] rfl ?_
  refine Z.nthen ?_
  refine Z.cond rfl (fun h => absurd h (by simp; omega)) (fun hc1 => ?_)
  refine Z.skip ?_
  refine Z.nthen ?_
  refine Z.seq ?_
  refine Z.region ?_
  refine Z.lb 1 rfl ?_
  refine Z.le rfl trivial ?_
  refine Z.ZO.make1 (i0 := Try.t5) (bytes := 1) rfl rfl (by rfl) hs Try.underlying26 (by kernel_rfl) rfl rfl rfl rfl rfl rfl (by omega) (by unfold maxLen; omega) ?_
  clear hs; intro g15 w15 hs
  refine Z.lb 1 rfl ?_
  refine Z.lnil ?_
  refine Z.only [0, 1, 6] rfl ?_
  have e0 := outj_zero v n
  rw [← e0] at hs
  refine Z.nthen ?_
  refine Z.seq ?_
  refine Z.seq ?_
  refine Z.region ?_
  refine Z.lb 1 rfl ?_
  refine Z.l rfl rfl (by rfl) (Z.keepS hs) (Z.Yd.sub rfl rfl (fun hG => Z.wi64 (by first | omega | (have hG' := Z.gh rfl hG; simp at hG'; omega)))) ?_
  refine Z.lb 1 rfl ?_
  refine Z.lnil ?_
  refine Z.only [0, 6, 7] rfl ?_
  refine Z.nthen ?_
  refine Z.block ?_
  refine Z.loopk (ι := Nat) [6] rfl (fun j => [(0, [], .int .u64 ((v / 2 ^ j : Nat) : Int)), (7, [], .int .i64 ((n : Int) - 1 - (j : Int)))]) (fun j wr => j ≤ n ∧ SX.St w [] wr [SX.Ent.row (.slice (some ⟨g15, 0, none⟩) n n) 5 1 n (ints .u8 (outj v n j))]) (fun j => n - j) 0 (by refine ⟨?_, ?_, trivial⟩ <;> (first | rfl | (refine Z.lookv rfl ?_; simp; done) | (refine Z.lookv rfl ?_; simp; omega))) ⟨by omega, hs⟩ ?_
  clear hs
  rintro j w1 ⟨hj, hs⟩
  refine Z.only [0, 6, 7] rfl ?_
  refine Z.seq ?_
  refine Z.seq ?_
  refine Z.region ?_
  refine Z.lb 2 rfl ?_
  refine Z.lnil ?_
  refine Z.only [0, 6, 7, 19] rfl ?_
  refine Z.nthen ?_
  refine Z.cond rfl (fun hc5 => ?_) (fun hc5 => ?_)
  · first
      | (exfalso; simp at hc5 <;> omega)
      | (
        (try simp at hc5)
        refine Z.skip ?_
        refine Z.nthen ?_
        refine Z.seq ?_
        refine Z.block ?_
        refine Z.seq ?_
        refine Z.region ?_
        refine Z.lb 3 rfl ?_
        refine Z.l rfl rfl (by rfl) (Z.keepS hs) (Z.Yd.rem rfl rfl (by intro hG; first | decide | omega) (fun _ => Z.tmodn (Int.natCast_nonneg _))) ?_
        refine Z.l rfl rfl (by rfl) (Z.keepS hs) (Z.Yd.convI rfl ⟨_, Try.underlying62⟩ Try.underlying5 (fun _ => conv_bit v j)) ?_
        refine Z.l rfl rfl (by rfl) (Z.keepS hs) (Z.Yd.elem rfl rfl Try.underlying26 Try.sizeOf5 (fun hG => ⟨(by first | omega | (have hG' := Z.gh rfl hG; simp at hG'; omega)), (by first | omega | (have hG' := Z.gh rfl hG; simp at hG'; omega))⟩)) ?_
        refine Z.le rfl trivial ?_
        first | refine Z.ZO.store rfl rfl hs Try.sizeOf5 rfl rfl rfl (by first | exact SX.at0 | exact SX.at1 | exact SX.at2 | exact SX.at3 | exact SX.at4 | exact SX.at5 | exact Z.at6 | exact Z.at7 | exact Z.at8 | exact Z.at9 | exact Z.at10 | exact Z.at11 | exact Z.at12) (by first | (simp; done) | (simp; omega)) ?_ | refine Z.ZO.storeR rfl rfl hs Try.sizeOf5 rfl rfl rfl (by first | exact SX.at0 | exact SX.at1 | exact SX.at2 | exact SX.at3 | exact SX.at4 | exact SX.at5 | exact Z.at6 | exact Z.at7 | exact Z.at8 | exact Z.at9 | exact Z.at10 | exact Z.at11 | exact Z.at12) (by first | omega | (simp [ints_length]; done) | (simp [ints_length]; omega)) ?_
        clear hs; intro ws hs
        simp only [Nat.zero_add, Nat.add_zero, Nat.reduceAdd, Int.reduceToNat, Nat.reduceMul, List.set_cons_zero, List.set_cons_succ, List.setIfInBounds_toArray] at hs
        refine Z.lnil ?_
        refine Z.only [0, 6, 7] rfl ?_
        refine Z.nthen ?_
        refine Z.region ?_
        refine Z.lb 1 rfl ?_
        refine Z.l rfl rfl (by rfl) (Z.keepS hs) (Z.Yd.quo rfl rfl (by intro hG; first | decide | omega) (fun _ => half v j hv)) ?_
        refine Z.lb 1 rfl ?_
        refine Z.lnil ?_
        refine Z.only [0, 6, 7] rfl ?_
        refine Z.nblock ?_
        refine Z.nthen ?_
        refine Z.region ?_
        refine Z.lb 1 rfl ?_
        refine Z.l rfl rfl (by rfl) (Z.keepS hs) (Z.Yd.sub rfl rfl (fun hG => Z.wi64 (by first | omega | (have hG' := Z.gh rfl hG; simp at hG'; omega)))) ?_
        refine Z.lb 1 rfl ?_
        refine Z.lnil ?_
        refine Z.only [0, 6, 7] rfl ?_
        refine Z.nthen ?_
        exact Z.again (j + 1) (by refine ⟨?_, ?_, ?_, trivial⟩ <;> (first | rfl | (refine Z.lookv rfl ?_; simp; done) | (refine Z.lookv rfl ?_; simp; omega))) ⟨by omega, by rw [outj_succ v n j (by omega)] at hs; exact hs⟩ (by omega)
        )
  · first
      | (exfalso; simp at hc5 <;> omega)
      | (
        (try simp at hc5)
        refine Z.exit ?_
        refine Z.xthen ?_
        refine Z.xthen ?_
        refine Z.xblock ?_
        refine Z.nthen ?_
        refine Z.seq ?_
        refine Z.seq ?_
        refine Z.region ?_
        obtain rfl : j = n := by omega
        rw [outj_full] at hs
        refine Z.l rfl rfl (by rfl) (Z.keepS hs) (Z.Yd.pure rfl) ?_
        refine Z.lb 1 rfl ?_
        refine Z.lnil ?_
        refine Z.only [6, 31] rfl ?_
        refine Z.nthen ?_
        refine Z.cond rfl (fun h => absurd h (by rw [h0]; simp)) (fun hc9 => ?_)
        refine Z.skip ?_
        refine Z.nthen ?_
        refine Z.seq ?_
        refine Z.region ?_
        refine Z.lb 3 rfl ?_
        refine Z.lnil ?_
        refine Z.only [4, 5] rfl ?_
        refine Z.nthen ?_
        refine Z.ret ?_
        -- ret#0
        refine Z.out2 (by exact ⟨rfl, rfl, trivial⟩) ?_
        exact ⟨_, rfl, _, rfl, hs⟩
        )
set_option maxRecDepth 100000 in
theorem fromUint_long (v n : Nat) (w : World) (hn : n ≤ 64) (hv : v < 18446744073709551616) (h0 : v / 2 ^ n ≠ 0) :
    Calls Try.prog 75 #[.int .u64 (v : Int), .int .i64 (n : Int)] w (SX.Ret fun r w' => r = .tuple #[.slice none 0 0, .int .i64 4] ∧ SX.St w [] w' []) := by
  have hs := SX.St.start w
  refine Z.enter Try.func75 rfl Try.ntmps75 rfl rfl ?_
  refine Z.seq ?_
  refine Z.region ?_
  refine Z.lb 2 rfl ?_
  refine Z.lnil ?_
  refine Z.only [0, 1] rfl ?_
  refine Z.nthen ?_
  refine Z.seq ?_
  refine Z.seq ?_
  refine Z.region ?_
  refine Z.lb 6 rfl ?_
  refine Z.lnil ?_
  refine Z.only [0, 1, 13] rfl ?_
  refine Z.nthen ?_
  refine Z.cond rfl (fun h => absurd h (by simp; omega)) (fun hc1 => ?_)
  refine Z.skip ?_
  refine Z.nthen ?_
  refine Z.seq ?_
  refine Z.region ?_
  refine Z.lb 1 rfl ?_
  refine Z.le rfl trivial ?_
  refine Z.ZO.make1 (i0 := Try.t5) (bytes := 1) rfl rfl (by rfl) hs Try.underlying26 (by kernel_rfl) rfl rfl rfl rfl rfl rfl (by omega) (by unfold maxLen; omega) ?_
  clear hs; intro g15 w15 hs
  refine Z.lb 1 rfl ?_
  refine Z.lnil ?_
  refine Z.only [0, 1, 6] rfl ?_
  have e0 := outj_zero v n
  rw [← e0] at hs
  refine Z.nthen ?_
  refine Z.seq ?_
  refine Z.seq ?_
  refine Z.region ?_
  refine Z.lb 1 rfl ?_
  refine Z.l rfl rfl (by rfl) (Z.keepS hs) (Z.Yd.sub rfl rfl (fun hG => Z.wi64 (by first | omega | (have hG' := Z.gh rfl hG; simp at hG'; omega)))) ?_
  refine Z.lb 1 rfl ?_
  refine Z.lnil ?_
  refine Z.only [0, 6, 7] rfl ?_
  refine Z.nthen ?_
  refine Z.block ?_
  refine Z.loopk (ι := Nat) [6] rfl (fun j => [(0, [], .int .u64 ((v / 2 ^ j : Nat) : Int)), (7, [], .int .i64 ((n : Int) - 1 - (j : Int)))]) (fun j wr => j ≤ n ∧ SX.St w [] wr [SX.Ent.row (.slice (some ⟨g15, 0, none⟩) n n) 5 1 n (ints .u8 (outj v n j))]) (fun j => n - j) 0 (by refine ⟨?_, ?_, trivial⟩ <;> (first | rfl | (refine Z.lookv rfl ?_; simp; done) | (refine Z.lookv rfl ?_; simp; omega))) ⟨by omega, hs⟩ ?_
  clear hs
  rintro j w1 ⟨hj, hs⟩
  refine Z.only [0, 6, 7] rfl ?_
  refine Z.seq ?_
  refine Z.seq ?_
  refine Z.region ?_
  refine Z.lb 2 rfl ?_
  refine Z.lnil ?_
  refine Z.only [0, 6, 7, 19] rfl ?_
  refine Z.nthen ?_
  refine Z.cond rfl (fun hc5 => ?_) (fun hc5 => ?_)
  · first
      | (exfalso; simp at hc5 <;> omega)
      | (
        (try simp at hc5)
        refine Z.skip ?_
        refine Z.nthen ?_
        refine Z.seq ?_
        refine Z.block ?_
        refine Z.seq ?_
        refine Z.region ?_
        refine Z.lb 3 rfl ?_
        refine Z.l rfl rfl (by rfl) (Z.keepS hs) (Z.Yd.rem rfl rfl (by intro hG; first | decide | omega) (fun _ => Z.tmodn (Int.natCast_nonneg _))) ?_
        refine Z.l rfl rfl (by rfl) (Z.keepS hs) (Z.Yd.convI rfl ⟨_, Try.underlying62⟩ Try.underlying5 (fun _ => conv_bit v j)) ?_
        refine Z.l rfl rfl (by rfl) (Z.keepS hs) (Z.Yd.elem rfl rfl Try.underlying26 Try.sizeOf5 (fun hG => ⟨(by first | omega | (have hG' := Z.gh rfl hG; simp at hG'; omega)), (by first | omega | (have hG' := Z.gh rfl hG; simp at hG'; omega))⟩)) ?_
        refine Z.le rfl trivial ?_
        first | refine Z.ZO.store rfl rfl hs Try.sizeOf5 rfl rfl rfl (by first | exact SX.at0 | exact SX.at1 | exact SX.at2 | exact SX.at3 | exact SX.at4 | exact SX.at5 | exact Z.at6 | exact Z.at7 | exact Z.at8 | exact Z.at9 | exact Z.at10 | exact Z.at11 | exact Z.at12) (by first | (simp; done) | (simp; omega)) ?_ | refine Z.ZO.storeR rfl rfl hs Try.sizeOf5 rfl rfl rfl (by first | exact SX.at0 | exact SX.at1 | exact SX.at2 | exact SX.at3 | exact SX.at4 | exact SX.at5 | exact Z.at6 | exact Z.at7 | exact Z.at8 | exact Z.at9 | exact Z.at10 | exact Z.at11 | exact Z.at12) (by first | omega | (simp [ints_length]; done) | (simp [ints_length]; omega)) ?_
        clear hs; intro ws hs
        simp only [Nat.zero_add, Nat.add_zero, Nat.reduceAdd, Int.reduceToNat, Nat.reduceMul, List.set_cons_zero, List.set_cons_succ, List.setIfInBounds_toArray] at hs
        refine Z.lnil ?_
        refine Z.only [0, 6, 7] rfl ?_
        refine Z.nthen ?_
        refine Z.region ?_
        refine Z.lb 1 rfl ?_
        refine Z.l rfl rfl (by rfl) (Z.keepS hs) (Z.Yd.quo rfl rfl (by intro hG; first | decide | omega) (fun _ => half v j hv)) ?_
        refine Z.lb 1 rfl ?_
        refine Z.lnil ?_
        refine Z.only [0, 6, 7] rfl ?_
        refine Z.nblock ?_
        refine Z.nthen ?_
        refine Z.region ?_
        refine Z.lb 1 rfl ?_
        refine Z.l rfl rfl (by rfl) (Z.keepS hs) (Z.Yd.sub rfl rfl (fun hG => Z.wi64 (by first | omega | (have hG' := Z.gh rfl hG; simp at hG'; omega)))) ?_
        refine Z.lb 1 rfl ?_
        refine Z.lnil ?_
        refine Z.only [0, 6, 7] rfl ?_
        refine Z.nthen ?_
        exact Z.again (j + 1) (by refine ⟨?_, ?_, ?_, trivial⟩ <;> (first | rfl | (refine Z.lookv rfl ?_; simp; done) | (refine Z.lookv rfl ?_; simp; omega))) ⟨by omega, by rw [outj_succ v n j (by omega)] at hs; exact hs⟩ (by omega)
        )
  · first
      | (exfalso; simp at hc5 <;> omega)
      | (
        (try simp at hc5)
        refine Z.exit ?_
        refine Z.xthen ?_
        refine Z.xthen ?_
        refine Z.xblock ?_
        refine Z.nthen ?_
        refine Z.seq ?_
        refine Z.seq ?_
        refine Z.region ?_
        obtain rfl : j = n := by omega
        refine Z.l rfl rfl (by rfl) (Z.keepS hs) (Z.Yd.pure rfl) ?_
        refine Z.lb 1 rfl ?_
        refine Z.lnil ?_
        refine Z.only [6, 31] rfl ?_
        refine Z.nthen ?_
        refine Z.cond rfl (fun hc9 => ?_) (fun h => absurd h (by rw [decide_eq_false_iff_not, Decidable.not_not]; exact Int.natCast_pos.2 (Nat.pos_of_ne_zero h0)))
        refine Z.seq ?_
        refine Z.region ?_
        refine Z.lb 2 rfl ?_
        refine Z.lnil ?_
        refine Z.only [4, 5] rfl ?_
        refine Z.nthen ?_
        refine Z.ret ?_
        repeat (first | refine Z.rthen ?_ | refine Z.rblock ?_ | refine Z.rscope ?_)
        -- ret#0
        refine Z.out2 (by exact ⟨rfl, rfl, trivial⟩) ?_
        exact ⟨_, rfl, rfl, hs.sub (List.nil_sublist _)⟩
        )

theorem pkn_false {bs : List Bool} {m : Nat} (h : bs.length / 8 < m) : pkn (bs ++ [false]) m = pkn bs m := by
  rw [← pkn_set (b := false) h]
  have e := (byt_snoc (bs := bs) (b := false)).1
  simp at e
  rw [e]
  apply List.ext_getElem?
  intro i
  simp only [pkn, List.getElem?_set, List.length_map, List.length_range, List.getElem?_map]
  by_cases hi : bs.length / 8 = i
  · subst hi
    rw [if_pos rfl, if_pos h, List.getElem?_range h]
    rfl
  · rw [if_neg hi]
theorem pkn_nil (m : Nat) : ints .u8 (pkn [] m) = List.replicate m (.int .u8 0) := by
  apply List.ext_getElem?
  intro i
  simp only [ints, pkn, List.map_map, List.getElem?_map, List.getElem?_replicate]
  by_cases h : i < m
  · rw [List.getElem?_range h]
    simp [h, byt_out]
  · rw [List.getElem?_eq_none (by simpa using h)]
    simp [h]
theorem take_bt {bs : List Bool} {k : Nat} (h : k < bs.length) : bs.take (k + 1) = bs.take k ++ [bt bs k] := by
  rw [List.take_succ_eq_append_getElem h]
  simp [bt, h]
theorem shl_one (r : Nat) (hr : r < 8) : IntKind.u8.wrap (1 * 2 ^ (min ((7 : Int) - (r : Int)).toNat IntKind.u8.bits)) = ((2 ^ (7 - r) : Nat) : Int) := by
  have h8 : r = 0 ∨ r = 1 ∨ r = 2 ∨ r = 3 ∨ r = 4 ∨ r = 5 ∨ r = 6 ∨ r = 7 := by omega
  rcases h8 with rfl | rfl | rfl | rfl | rfl | rfl | rfl | rfl <;> decide
theorem add_byt {bs : List Bool} {k : Nat} (hk : k = bs.length) : IntKind.u8.wrap ((byt bs (k / 8) : Int) + ((2 ^ (7 - k % 8) : Nat) : Int)) = ((byt (bs ++ [true]) (k / 8) : Nat) : Int) := by
  subst hk
  have h1 := (byt_snoc (bs := bs) (b := true)).1
  have h2 := byt_lt (bs ++ [true]) (bs.length / 8)
  simp only [Bool.toNat_true, Nat.one_mul] at h1
  rw [← Int.natCast_add, ← h1]
  exact Z.wu8 (by omega)

set_option maxRecDepth 100000 in
theorem pack_any (A : Option Addr) (n c : Nat) (bs : List Bool) (w : World) (hx : Sl w A (ints .u8 (bits bs))) (hl : bs.length = n) (hn : n ≤ 100000000) :
    Calls Try.prog 57 #[.slice A n c] w (SX.Ret fun v w' => ∃ sv, v = .tuple #[sv, .int .i64 0] ∧ SX.St w [] w' [SX.Ent.row sv 5 1 (pk bs).length (ints .u8 (pk bs))]) := by
  have hs := SX.St.start w
  have hlb := bits_length bs
  refine Z.enter Try.func57 rfl Try.ntmps57 rfl rfl ?_
  refine Z.seq ?_
  refine Z.region ?_
  refine Z.lb 2 rfl ?_
  refine Z.lnil ?_
  refine Z.only [0] rfl ?_
  refine Z.nthen ?_
  refine Z.seq ?_
  refine Z.seq ?_
  refine Z.region ?_
  refine Z.lb 1 rfl ?_
  refine Z.le rfl trivial ?_
  refine Z.ZO.call rfl rfl (by rfl) rfl rfl Try.call76 rfl (valid01 A n c bs _ hx hl hn) ?_
  rintro v1_1 w1_1 ⟨rfl, hy⟩
  replace hs := hs.call hy
  clear hy
  try simp only [List.cons_append, List.nil_append, List.append_nil] at hs
  refine Z.lb 1 rfl ?_
  refine Z.lnil ?_
  refine Z.only [0, 8] rfl ?_
  refine Z.nthen ?_
  refine Z.cond rfl (fun h => absurd h (by simp)) (fun hc1 => ?_)
  refine Z.skip ?_
  refine Z.nthen ?_
  refine Z.seq ?_
  refine Z.region ?_
  refine Z.lb 1 rfl ?_
  refine Z.l rfl rfl (by rfl) (Z.keepS hs) (Z.Yd.lenS rfl Try.underlying26) ?_
  refine Z.l rfl rfl (by rfl) (Z.keepS hs) (Z.Yd.add rfl rfl (fun hG => Z.wi64 (by first | omega | (have hG' := Z.gh rfl hG; simp at hG'; omega)))) ?_
  refine Z.l rfl rfl (by rfl) (Z.keepS hs) (Z.Yd.quo rfl rfl (by intro hG; first | decide | omega) (by intro hG; first | exact Z.qi64 ⟨by omega, by omega⟩ (by omega) | exact rfl)) ?_
  refine Z.le rfl trivial ?_
  refine Z.ZO.make1 (m := (n + 7) / 8) (i0 := Try.t5) (bytes := 1) rfl rfl (by rfl) hs Try.underlying26 (by kernel_rfl) rfl rfl rfl rfl rfl rfl (by omega) (by unfold maxLen; omega) ?_
  clear hs; intro g13 w13 hs
  refine Z.lb 1 rfl ?_
  refine Z.lnil ?_
  refine Z.only [0, 4] rfl ?_
  have e0 := pkn_nil ((n + 7) / 8)
  rw [← e0] at hs
  refine Z.nthen ?_
  refine Z.seq ?_
  refine Z.seq ?_
  refine Z.region ?_
  refine Z.lb 1 rfl ?_
  refine Z.lnil ?_
  refine Z.only [0, 4, 5] rfl ?_
  refine Z.nthen ?_
  refine Z.block ?_
  refine Z.loopk (ι := Nat) [0, 4] rfl (fun k => [(5, [], .int .i64 (k : Int))]) (fun k wr => k ≤ n ∧ SX.St w [] wr [SX.Ent.row (.slice (some ⟨g13, 0, none⟩) ((n + 7) / 8) ((n + 7) / 8)) 5 1 ((n + 7) / 8) (ints .u8 (pkn (bs.take k) ((n + 7) / 8)))]) (fun k => n - k) 0 (by refine ⟨?_, trivial⟩ <;> (first | rfl | (refine Z.lookv rfl ?_; simp; done) | (refine Z.lookv rfl ?_; simp; omega))) ⟨by omega, hs⟩ ?_
  clear hs
  rintro k w1 ⟨hkn, hs⟩
  refine Z.only [0, 4, 5] rfl ?_
  refine Z.seq ?_
  refine Z.seq ?_
  refine Z.region ?_
  refine Z.lb 2 rfl ?_
  refine Z.l rfl rfl (by rfl) (Z.keepS hs) (Z.Yd.lenS rfl Try.underlying26) ?_
  refine Z.lb 1 rfl ?_
  refine Z.lnil ?_
  refine Z.only [0, 4, 5, 17] rfl ?_
  refine Z.nthen ?_
  refine Z.cond rfl (fun hc5 => ?_) (fun hc5 => ?_)
  · first
      | (exfalso; simp at hc5 <;> omega)
      | (
        (try simp at hc5)
        obtain ⟨b, off, rfl, hb, hx⟩ := Z.Sl.some hx (by simp [ints]; omega)
        have he := elt_bits (bs := bs) (i := k) (by omega)
        have ht := take_bt (bs := bs) (k := k) (by omega)
        have htl : (bs.take k).length = k := by simp; omega
        refine Z.skip ?_
        refine Z.nthen ?_
        refine Z.seq ?_
        refine Z.block ?_
        refine Z.seq ?_
        refine Z.region ?_
        refine Z.lb 2 rfl ?_
        refine Z.l rfl rfl (by rfl) (Z.keepS hs) (Z.Yd.elem rfl rfl Try.underlying26 Try.sizeOf5 (fun hG => ⟨(by first | omega | (have hG' := Z.gh rfl hG; simp at hG'; omega)), (by first | omega | (have hG' := Z.gh rfl hG; simp at hG'; omega))⟩)) ?_
        refine Z.l rfl rfl (by rfl) (Z.keepS hs) (by first | exact Z.Yd.load rfl Try.isAgg5 (fun hG => Z.cellR (by first | ((repeat (first | exact List.mem_cons_self | refine List.mem_cons_of_mem _ ?_ | refine List.mem_append_right _ ?_)); done) | fail) (Z.ints_at (by first | omega | (have hG' := Z.gh rfl hG; simp at hG'; omega)) (by first | omega | (have hG' := Z.gh rfl hG; simp at hG'; omega)))) | exact Z.Yd.load rfl Try.isAgg5 (fun hG => Z.cellXi (by assumption) (by first | omega | (have hG' := Z.gh rfl hG; simp at hG'; omega)) (by first | omega | (have hG' := Z.gh rfl hG; simp at hG'; omega))) | exact Z.Yd.load rfl Try.isAgg5 (fun hG => Z.cellS (by assumption) rfl (by first | omega | (have hG' := Z.gh rfl hG; simp at hG'; omega)) (by first | omega | (have hG' := Z.gh rfl hG; simp at hG'; omega))) | fail "load 7.3") ?_
        refine Z.lb 1 rfl ?_
        refine Z.lnil ?_
        refine Z.only [0, 4, 5, 24] rfl ?_
        refine Z.nthen ?_
        refine Z.cond rfl (fun hc7 => ?_) (fun hc7 => ?_)
        · first
            | (exfalso; simp at hc7 <;> omega)
            | (
              (try simp at hc7)
              refine Z.drawK (fun j => j != 14) mixed hs ?_
              clear hs; intro wd8 hs
              refine Z.tb [0, 1] (by kernel_rfl) rfl ⟨_, hs, by first | (simp; done) | exact fun e he => List.mem_append_right _ he⟩ rfl ?_
              refine Z.t 2 rfl rfl rfl (by rfl) (by kernel_rfl) ⟨_, hs, by first | (simp; done) | exact fun e he => List.mem_append_right _ he⟩ (Z.Yd.quo rfl rfl (by intro hG; first | decide | omega) (by intro hG; first | exact Z.qi64 ⟨by omega, by omega⟩ (by omega) | exact rfl)) ?_
              refine Z.tb [3, 4] (by kernel_rfl) rfl ⟨_, hs, by first | (simp; done) | exact fun e he => List.mem_append_right _ he⟩ rfl ?_
              refine Z.t 5 rfl rfl rfl (by rfl) (by kernel_rfl) ⟨_, hs, by first | (simp; done) | exact fun e he => List.mem_append_right _ he⟩ (Z.Yd.quo rfl rfl (by intro hG; first | decide | omega) (by intro hG; first | exact Z.qi64 ⟨by omega, by omega⟩ (by omega) | exact rfl)) ?_
              refine Z.t 6 rfl rfl rfl (by rfl) (by kernel_rfl) ⟨_, hs, by first | (simp; done) | exact fun e he => List.mem_append_right _ he⟩ (Z.Yd.elem rfl rfl Try.underlying26 Try.sizeOf5 (fun hG => ⟨(by first | omega | (have hG' := Z.gh rfl hG; simp at hG'; omega)), (by first | omega | (have hG' := Z.gh rfl hG; simp at hG'; omega))⟩)) ?_
              refine Z.t 7 rfl rfl rfl (by rfl) (by kernel_rfl) ⟨_, hs, by first | (simp; done) | exact fun e he => List.mem_append_right _ he⟩ (Z.Yd.load rfl Try.isAgg5 (fun _ => Z.cellR (by first | ((repeat (first | exact List.mem_cons_self | refine List.mem_cons_of_mem _ ?_ | refine List.mem_append_right _ ?_)); done) | fail) (pkn_at (j := k / 8) (by omega) (by omega)))) ?_
              refine Z.tb [8] (by kernel_rfl) rfl ⟨_, hs, by first | (simp; done) | exact fun e he => List.mem_append_right _ he⟩ rfl ?_
              refine Z.t 9 rfl rfl rfl (by rfl) (by kernel_rfl) ⟨_, hs, by first | (simp; done) | exact fun e he => List.mem_append_right _ he⟩ (Z.Yd.rem rfl rfl (by intro hG; first | decide | omega) (by intro hG; first | exact Z.tmodn (by omega) | exact rfl)) ?_
              refine Z.t 10 rfl rfl rfl (by rfl) (by kernel_rfl) ⟨_, hs, by first | (simp; done) | exact fun e he => List.mem_append_right _ he⟩ (Z.Yd.sub rfl rfl (fun hG => Z.wi64 (by first | omega | (have hG' := Z.gh rfl hG; simp at hG'; omega)))) ?_
              refine Z.t 11 rfl rfl rfl (by rfl) (by kernel_rfl) ⟨_, hs, by first | (simp; done) | exact fun e he => List.mem_append_right _ he⟩ (Z.Yd.shl rfl rfl (by intro hG; first | decide | omega) (fun _ => shl_one (k % 8) (by omega))) ?_
              refine Z.t 12 rfl rfl rfl (by rfl) (by kernel_rfl) ⟨_, hs, by first | (simp; done) | exact fun e he => List.mem_append_right _ he⟩ (Z.Yd.add rfl rfl (fun _ => add_byt htl.symm)) ?_
              refine Z.t 13 rfl rfl rfl (by rfl) (by kernel_rfl) ⟨_, hs, by first | (simp; done) | exact fun e he => List.mem_append_right _ he⟩ (Z.Yd.elem rfl rfl Try.underlying26 Try.sizeOf5 (fun hG => ⟨(by first | omega | (have hG' := Z.gh rfl hG; simp at hG'; omega)), (by first | omega | (have hG' := Z.gh rfl hG; simp at hG'; omega))⟩)) ?_
              refine Z.tn 14 rfl rfl (by kernel_rfl) rfl trivial ?_
              first | refine Z.ZO.store rfl rfl hs Try.sizeOf5 rfl rfl rfl (by first | exact SX.at0 | exact SX.at1 | exact SX.at2 | exact SX.at3 | exact SX.at4 | exact SX.at5 | exact Z.at6 | exact Z.at7 | exact Z.at8 | exact Z.at9 | exact Z.at10 | exact Z.at11 | exact Z.at12) (by first | (simp; done) | (simp; omega)) ?_ | refine Z.ZO.storeR rfl rfl hs Try.sizeOf5 rfl rfl rfl (by first | exact SX.at0 | exact SX.at1 | exact SX.at2 | exact SX.at3 | exact SX.at4 | exact SX.at5 | exact Z.at6 | exact Z.at7 | exact Z.at8 | exact Z.at9 | exact Z.at10 | exact Z.at11 | exact Z.at12) (by first | omega | (simp [ints_length]; done) | (simp [ints_length]; omega)) ?_
              clear hs; intro ws hs
              simp only [Nat.zero_add, Nat.add_zero, Nat.reduceAdd, Int.reduceToNat, Nat.reduceMul, List.set_cons_zero, List.set_cons_succ, List.setIfInBounds_toArray] at hs
              refine Z.tk (Dn := fun j => j != 14) (i := 14) (fun h => absurd h (by decide)) ?_
              refine Z.td (by rfl) (by kernel_rfl) ?_
              refine Z.only [0, 4, 5] rfl ?_
              refine Z.nblock ?_
              refine Z.nthen ?_
              refine Z.region ?_
              refine Z.lb 1 rfl ?_
              refine Z.l rfl rfl (by rfl) (Z.keepS hs) (Z.Yd.add rfl rfl (fun hG => Z.wi64 (by first | omega | (have hG' := Z.gh rfl hG; simp at hG'; omega)))) ?_
              refine Z.lb 1 rfl ?_
              refine Z.lnil ?_
              refine Z.only [0, 4, 5] rfl ?_
              refine Z.nthen ?_
              first
              | (have hb1 : bt bs k = true := by cases h : bt bs k with
                   | true => rfl
                   | false => rw [he, h] at hc7; simp [bi] at hc7
                 rw [hb1] at ht
                 have e := pkn_set (bs := bs.take k) (b := true) (m := (n + 7) / 8) (by rw [htl]; omega)
                 rw [htl] at e
                 have e2 : (((k : Int) / 8).toNat * 1) = k / 8 := by omega
                 have e3 : (ints .u8 (pkn (bs.take k) ((n + 7) / 8))).set (((k : Int) / 8).toNat * 1) (.int .u8 ((byt (bs.take k ++ [true]) (k / 8) : Nat) : Int)) = ints .u8 (pkn (bs.take (k + 1)) ((n + 7) / 8)) := by
                   rw [e2, ht, ← e]
                   simp only [ints]
                   rw [List.map_set]
                 rw [e3] at hs
                 exact Z.again (k + 1) (by refine ⟨?_, ?_, ?_, trivial⟩ <;> (first | rfl | (refine Z.lookv rfl ?_; simp; done) | (refine Z.lookv rfl ?_; simp; omega))) ⟨by omega, hs⟩ (by omega))
              | (have hb0 : bt bs k = false := by cases h : bt bs k with
                   | false => rfl
                   | true => rw [he, h] at hc7; simp [bi] at hc7
                 rw [hb0] at ht
                 have e := pkn_false (bs := bs.take k) (m := (n + 7) / 8) (by rw [htl]; omega)
                 rw [← e, ← ht] at hs
                 exact Z.again (k + 1) (by refine ⟨?_, ?_, ?_, trivial⟩ <;> (first | rfl | (refine Z.lookv rfl ?_; simp; done) | (refine Z.lookv rfl ?_; simp; omega))) ⟨by omega, hs⟩ (by omega))
              )
        · first
            | (exfalso; simp at hc7 <;> omega)
            | (
              (try simp at hc7)
              refine Z.skip ?_
              refine Z.nblock ?_
              refine Z.nthen ?_
              refine Z.region ?_
              refine Z.lb 1 rfl ?_
              refine Z.l rfl rfl (by rfl) (Z.keepS hs) (Z.Yd.add rfl rfl (fun hG => Z.wi64 (by first | omega | (have hG' := Z.gh rfl hG; simp at hG'; omega)))) ?_
              refine Z.lb 1 rfl ?_
              refine Z.lnil ?_
              refine Z.only [0, 4, 5] rfl ?_
              refine Z.nthen ?_
              first
              | (have hb1 : bt bs k = true := by cases h : bt bs k with
                   | true => rfl
                   | false => rw [he, h] at hc7; simp [bi] at hc7
                 rw [hb1] at ht
                 have e := pkn_set (bs := bs.take k) (b := true) (m := (n + 7) / 8) (by rw [htl]; omega)
                 rw [htl] at e
                 have e2 : (((k : Int) / 8).toNat * 1) = k / 8 := by omega
                 have e3 : (ints .u8 (pkn (bs.take k) ((n + 7) / 8))).set (((k : Int) / 8).toNat * 1) (.int .u8 ((byt (bs.take k ++ [true]) (k / 8) : Nat) : Int)) = ints .u8 (pkn (bs.take (k + 1)) ((n + 7) / 8)) := by
                   rw [e2, ht, ← e]
                   simp only [ints]
                   rw [List.map_set]
                 rw [e3] at hs
                 exact Z.again (k + 1) (by refine ⟨?_, ?_, ?_, trivial⟩ <;> (first | rfl | (refine Z.lookv rfl ?_; simp; done) | (refine Z.lookv rfl ?_; simp; omega))) ⟨by omega, hs⟩ (by omega))
              | (have hb0 : bt bs k = false := by cases h : bt bs k with
                   | false => rfl
                   | true => rw [he, h] at hc7; simp [bi] at hc7
                 rw [hb0] at ht
                 have e := pkn_false (bs := bs.take k) (m := (n + 7) / 8) (by rw [htl]; omega)
                 rw [← e, ← ht] at hs
                 exact Z.again (k + 1) (by refine ⟨?_, ?_, ?_, trivial⟩ <;> (first | rfl | (refine Z.lookv rfl ?_; simp; done) | (refine Z.lookv rfl ?_; simp; omega))) ⟨by omega, hs⟩ (by omega))
              )
        )
  · first
      | (exfalso; simp at hc5 <;> omega)
      | (
        (try simp at hc5)
        refine Z.exit ?_
        refine Z.xthen ?_
        refine Z.xthen ?_
        refine Z.xblock ?_
        refine Z.nthen ?_
        refine Z.seq ?_
        refine Z.region ?_
        refine Z.lb 3 rfl ?_
        refine Z.lnil ?_
        refine Z.only [2, 3] rfl ?_
        refine Z.nthen ?_
        refine Z.ret ?_
        -- ret#0
        refine Z.out2 (by exact ⟨rfl, rfl, trivial⟩) ?_
        refine ⟨_, rfl, _, rfl, ?_⟩
        rw [List.take_of_length_le (by omega)] at hs
        rw [pk_length, hl]
        unfold pk
        rw [hl]
        exact hs
        )
end Go.Proofs.Ytcieclifabbkjaa

/- The document's Unpack, Put, PutBytes, PutAll, Align, Bytes. -/
namespace Go.Proofs.Ytcieclifabbkjaa
open Go.RowKit
set_option linter.unusedSimpArgs false
set_option linter.unusedVariables false

/-- the bits of bytes -/
def unb (l : List Int) : List Bool := l.flatMap fun x => fld x.toNat 8
theorem unb_length (l : List Int) : (unb l).length = l.length * 8 := Z.flat_length (fun x => fld_length _ 8)
theorem unb_get {l : List Int} {k : Nat} (hk : k < l.length * 8) : (unb l)[k]? = some ((elt l ((k : Int) / 8)).toNat.testBit (7 - k % 8)) := by
  have h1 : k / 8 < l.length := by omega
  have hx : l[k / 8]? = some (l[k / 8]) := List.getElem?_eq_getElem h1
  have := Z.flat_get (enc := fun x : Int => fld x.toNat 8) (s := 8) (fun x => fld_length _ 8) hx (j := k % 8) (by omega)
  rw [show k / 8 * 8 + k % 8 = k from by omega, fld_get _ 8 _ (by omega)] at this
  unfold unb
  rw [this]
  have e : elt l ((k : Int) / 8) = l[k / 8] := by
    have e1 : ((k : Int) / 8).toNat = k / 8 := by omega
    simp [elt, e1, h1]
  rw [e]
theorem rem_bit (x : Int) (k : Nat) (h0 : 0 ≤ x) (hx : x < 256) : (x.fdiv (2 ^ (min ((7 : Int) - (k : Int) % 8).toNat IntKind.u8.bits))).tmod 2 = bi (x.toNat.testBit (7 - k % 8)) := by
  obtain ⟨n, rfl⟩ := Int.eq_ofNat_of_zero_le h0
  have e : min ((7 : Int) - (k : Int) % 8).toNat IntKind.u8.bits = 7 - k % 8 := by
    have : IntKind.u8.bits = 8 := rfl
    omega
  rw [e, Int.fdiv_eq_ediv_of_nonneg _ (Int.le_of_lt (Int.pow_pos (by decide))), testBit_bi, Int.toNat_natCast]
  have e2 : ((n : Int) / 2 ^ (7 - k % 8)) = ((n / 2 ^ (7 - k % 8) : Nat) : Int) := by push_cast; rfl
  rw [e2, Z.tmodn (Int.natCast_nonneg _)]
  omega
theorem bits_snoc (bs : List Bool) (b : Bool) : ints .u8 (bits bs) ++ [.int .u8 (bi b)] = ints .u8 (bits (bs ++ [b])) := by simp [ints, bits]
theorem bits_app (bs cs : List Bool) : ints .u8 (bits bs) ++ ints .u8 (bits cs) = ints .u8 (bits (bs ++ cs)) := by simp [ints, bits]

set_option maxRecDepth 100000 in
theorem unpack_any (A : Option Addr) (n c : Nat) (l : List Int) (w : World) (hx : Sl w A (ints .u8 l)) (hl : l.length = n) (hn : n ≤ 1000000) (hb : ∀ x ∈ l, 0 ≤ x ∧ x < 256) :
    Calls Try.prog 69 #[.slice A n c, .int .i64 (8 * (n : Int))] w (SX.Ret fun v w' => ∃ sv, v = .tuple #[sv, .int .i64 0] ∧ SX.St w [] w' [SX.Ent.row sv 5 1 (n * 8) (ints .u8 (bits (unb l)))]) := by
  have hs := SX.St.start w
  have hul := unb_length l
  refine Z.enter Try.func69 rfl Try.ntmps69 rfl rfl ?_
  refine Z.seq ?_
  refine Z.region ?_
  refine Z.lb 2 rfl ?_
  refine Z.lnil ?_
  refine Z.only [0, 1] rfl ?_
  refine Z.nthen ?_
  refine Z.seq ?_
  refine Z.seq ?_
  refine Z.region ?_
  refine Z.lb 2 rfl ?_
  refine Z.lnil ?_
  refine Z.only [0, 1, 9] rfl ?_
  refine Z.nthen ?_
  refine Z.cond rfl (fun h => absurd h (by simp; omega)) (fun hc1 => ?_)
  refine Z.skip ?_
  refine Z.nthen ?_
  refine Z.seq ?_
  refine Z.seq ?_
  refine Z.region ?_
  refine Z.lb 1 rfl ?_
  refine Z.l rfl rfl (by rfl) (Z.keepS hs) (Z.Yd.quo rfl rfl (by intro hG; first | decide | omega) (by intro hG; first | exact Z.qi64 ⟨by omega, by omega⟩ (by omega) | exact rfl)) ?_
  refine Z.lb 1 rfl ?_
  refine Z.l rfl rfl (by rfl) (Z.keepS hs) (Z.Yd.lenS rfl Try.underlying26) ?_
  refine Z.lb 3 rfl ?_
  refine Z.l rfl rfl (by rfl) (Z.keepS hs) (Z.Yd.quo rfl rfl (by intro hG; first | decide | omega) (by intro hG; first | exact Z.qi64 ⟨by omega, by omega⟩ (by omega) | exact rfl)) ?_
  refine Z.lb 1 rfl ?_
  refine Z.l rfl rfl (by rfl) (Z.keepS hs) (Z.Yd.lenS rfl Try.underlying26) ?_
  refine Z.lb 3 rfl ?_
  refine Z.l rfl rfl (by rfl) (Z.keepS hs) (Z.Yd.rem rfl rfl (by intro hG; first | decide | omega) (by intro hG; first | exact Z.tmodn (by omega) | exact rfl)) ?_
  refine Z.lb 3 rfl ?_
  refine Z.lnil ?_
  refine Z.only [0, 1, 26] rfl ?_
  refine Z.nthen ?_
  refine Z.cond rfl (fun h => absurd h (by first | (simp; done) | (simp; omega))) (fun hc3 => ?_)
  refine Z.skip ?_
  refine Z.nthen ?_
  refine Z.seq ?_
  refine Z.region ?_
  refine Z.lb 1 rfl ?_
  refine Z.lnil ?_
  refine Z.only [0, 1, 6] rfl ?_
  refine Z.nthen ?_
  refine Z.seq ?_
  refine Z.seq ?_
  refine Z.region ?_
  refine Z.lb 1 rfl ?_
  refine Z.lnil ?_
  refine Z.only [0, 1, 6, 7] rfl ?_
  refine Z.nthen ?_
  refine Z.block ?_
  refine Z.loopk (ι := Nat × Value) [0, 1] rfl (fun k => [(6, [], k.2), (7, [], .int .i64 (k.1 : Int))]) (fun k wr => k.1 ≤ n * 8 ∧ SX.St w [] wr [SX.Ent.row k.2 5 1 k.1 (ints .u8 (bits ((unb l).take k.1)))]) (fun k => n * 8 - k.1) (0, .slice none 0 0) (by refine ⟨?_, ?_, trivial⟩ <;> (first | rfl | (refine Z.lookv rfl ?_; simp; done) | (refine Z.lookv rfl ?_; simp; omega))) ⟨by omega, by simpa [ints, bits] using hs.nil _ _⟩ ?_
  clear hs
  rintro ⟨k, sv⟩ w1 ⟨hkn, hs⟩
  refine Z.only [0, 1, 6, 7] rfl ?_
  (try dsimp only at hs)
  refine Z.seq ?_
  refine Z.seq ?_
  refine Z.region ?_
  refine Z.lb 3 rfl ?_
  refine Z.lnil ?_
  refine Z.only [0, 1, 6, 7, 29] rfl ?_
  refine Z.nthen ?_
  refine Z.cond rfl (fun hc7 => ?_) (fun hc7 => ?_)
  · first
      | (exfalso; simp at hc7 <;> omega)
      | (
        (try simp at hc7)
        obtain ⟨b, off, rfl, hbb, hx⟩ := Z.Sl.some hx (by simp [ints]; omega)
        have hg := unb_get (l := l) (k := k) (by omega)
        have he := hb _ (Z.elt_mem (l := l) (z := (k : Int) / 8) (by omega) (by omega))
        refine Z.skip ?_
        refine Z.nthen ?_
        refine Z.seq ?_
        refine Z.block ?_
        refine Z.region ?_
        refine Z.lb 3 rfl ?_
        refine Z.l rfl rfl (by rfl) (Z.keepS hs) (Z.Yd.quo rfl rfl (by intro hG; first | decide | omega) (by intro hG; first | exact Z.qi64 ⟨by omega, by omega⟩ (by omega) | exact rfl)) ?_
        refine Z.l rfl rfl (by rfl) (Z.keepS hs) (Z.Yd.elem rfl rfl Try.underlying26 Try.sizeOf5 (fun hG => ⟨(by first | omega | (have hG' := Z.gh rfl hG; simp at hG'; omega)), (by first | omega | (have hG' := Z.gh rfl hG; simp at hG'; omega))⟩)) ?_
        refine Z.l rfl rfl (by rfl) (Z.keepS hs) (by first | exact Z.Yd.load rfl Try.isAgg5 (fun hG => Z.cellR (by first | ((repeat (first | exact List.mem_cons_self | refine List.mem_cons_of_mem _ ?_ | refine List.mem_append_right _ ?_)); done) | fail) (Z.ints_at (by first | omega | (have hG' := Z.gh rfl hG; simp at hG'; omega)) (by first | omega | (have hG' := Z.gh rfl hG; simp at hG'; omega)))) | exact Z.Yd.load rfl Try.isAgg5 (fun hG => Z.cellXi (by assumption) (by first | omega | (have hG' := Z.gh rfl hG; simp at hG'; omega)) (by first | omega | (have hG' := Z.gh rfl hG; simp at hG'; omega))) | exact Z.Yd.load rfl Try.isAgg5 (fun hG => Z.cellS (by assumption) rfl (by first | omega | (have hG' := Z.gh rfl hG; simp at hG'; omega)) (by first | omega | (have hG' := Z.gh rfl hG; simp at hG'; omega))) | fail "load 9.5") ?_
        refine Z.lb 1 rfl ?_
        refine Z.l rfl rfl (by rfl) (Z.keepS hs) (Z.Yd.rem rfl rfl (by intro hG; first | decide | omega) (by intro hG; first | exact Z.tmodn (by omega) | exact rfl)) ?_
        refine Z.l rfl rfl (by rfl) (Z.keepS hs) (Z.Yd.sub rfl rfl (fun hG => Z.wi64 (by first | omega | (have hG' := Z.gh rfl hG; simp at hG'; omega)))) ?_
        refine Z.l rfl rfl (by rfl) (Z.keepS hs) (Z.Yd.shr rfl rfl (by intro hG; first | decide | omega) (fun _ => rfl)) ?_
        refine Z.l rfl rfl (by rfl) (Z.keepS hs) (Z.Yd.rem rfl rfl (by intro hG; first | decide | omega) (fun _ => rem_bit _ k he.1 he.2)) ?_
        refine Z.le rfl trivial ?_
        refine Z.ZO.lit rfl rfl (by rfl) rfl (by intro W; go_simp; exact rfl) hs ?_
        clear hs; intro g43 w43 hs
        refine Z.le rfl trivial ?_
        refine Z.ZO.append (i0 := Try.t5) (size := 1) (bytes := 1) rfl rfl (by rfl) hs Try.underlying26 (by kernel_rfl) rfl rfl rfl rfl (by decide) rfl rfl (by first | exact SX.at0 | exact SX.at1 | exact SX.at2 | exact SX.at3 | exact SX.at4 | exact SX.at5 | exact Z.at6 | exact Z.at7 | exact Z.at8 | exact Z.at9 | exact Z.at10 | exact Z.at11 | exact Z.at12) (by first | exact SX.at0 | exact SX.at1 | exact SX.at2 | exact SX.at3 | exact SX.at4 | exact SX.at5 | exact Z.at6 | exact Z.at7 | exact Z.at8 | exact Z.at9 | exact Z.at10 | exact Z.at11 | exact Z.at12) (by first | rfl | simp) (by simp [Value.oneCell']) (by decide) (by unfold maxLen; omega) (by omega) ?_
        clear hs; intro g44 cap44 w44 hs
        simp only [List.set_cons_zero, List.set_cons_succ, List.eraseIdx_cons_zero, List.eraseIdx_cons_succ] at hs
        refine Z.lb 1 rfl ?_
        refine Z.lnil ?_
        refine Z.only [0, 1, 6, 7] rfl ?_
        refine Z.nblock ?_
        refine Z.nthen ?_
        refine Z.region ?_
        refine Z.lb 1 rfl ?_
        refine Z.l rfl rfl (by rfl) (Z.keepS hs) (Z.Yd.add rfl rfl (fun hG => Z.wi64 (by first | omega | (have hG' := Z.gh rfl hG; simp at hG'; omega)))) ?_
        refine Z.lb 1 rfl ?_
        refine Z.lnil ?_
        refine Z.only [0, 1, 6, 7] rfl ?_
        refine Z.nthen ?_
        have e : ints .u8 (bits ((unb l).take k)) ++ [.int .u8 (bi ((elt l ((k : Int) / 8)).toNat.testBit (7 - k % 8)))] = ints .u8 (bits ((unb l).take (k + 1))) := by
          rw [bits_snoc, take_snoc hg]
        rw [e] at hs
        exact Z.again (k + 1, _) (by refine ⟨?_, ?_, ?_, ?_, trivial⟩ <;> (first | rfl | (refine Z.lookv rfl ?_; simp; done) | (refine Z.lookv rfl ?_; simp; omega))) ⟨by simp only; omega, hs⟩ (by simp only; omega)
        )
  · first
      | (exfalso; simp at hc7 <;> omega)
      | (
        (try simp at hc7)
        refine Z.exit ?_
        refine Z.xthen ?_
        refine Z.xthen ?_
        refine Z.xblock ?_
        refine Z.nthen ?_
        refine Z.seq ?_
        refine Z.region ?_
        refine Z.lb 3 rfl ?_
        refine Z.lnil ?_
        refine Z.only [4, 5] rfl ?_
        refine Z.nthen ?_
        refine Z.ret ?_
        -- ret#0
        refine Z.out2 (by exact ⟨rfl, rfl, trivial⟩) ?_
        obtain rfl : k = n * 8 := by omega
        rw [List.take_of_length_le (by omega)] at hs
        exact ⟨_, rfl, _, rfl, hs⟩
        )

theorem refput_bad (A : Option Addr) (n c : Nat) (v : Int) (wd : Int) (no : Int) (w : World) (hno : no ≠ 0)
    (h : ∀ W, Calls Try.prog 75 #[.int .u64 v, .int .i64 wd] W (SX.Ret fun r w' => r = .tuple #[.slice none 0 0, .int .i64 no] ∧ SX.St W [] w' [])) :
    Calls Try.prog 56 #[.slice A n c, .int .u64 v, .int .i64 wd] w (SX.Ret fun r w' => r = .tuple #[.slice A n c, .int .i64 no] ∧ SX.St w [] w' []) := by
  have hs := SX.St.start w
  refine Z.enter Try.func56 rfl Try.ntmps56 rfl rfl ?_
  refine Z.seq ?_
  refine Z.region ?_
  refine Z.lb 2 rfl ?_
  refine Z.lnil ?_
  refine Z.only [0, 1, 2] rfl ?_
  refine Z.nthen ?_
  refine Z.seq ?_
  refine Z.region ?_
  refine Z.lb 2 rfl ?_
  refine Z.le rfl trivial ?_
  refine Z.ZO.call rfl rfl (by rfl) rfl rfl Try.call75 rfl (h _) ?_
  rintro v1_2 w1_2 ⟨rfl, hy⟩
  replace hs := hs.call hy
  clear hy
  try simp only [List.cons_append, List.nil_append, List.append_nil] at hs
  refine Z.lb 5 rfl ?_
  refine Z.lnil ?_
  refine Z.only [0, 8, 9] rfl ?_
  refine Z.nthen ?_
  refine Z.seq ?_
  refine Z.seq ?_
  refine Z.region ?_
  refine Z.lb 2 rfl ?_
  refine Z.lnil ?_
  refine Z.only [0, 8, 9, 17] rfl ?_
  refine Z.nthen ?_
  refine Z.cond rfl (fun hc2 => ?_) (fun h => absurd h (by simpa using hno))
  refine Z.seq ?_
  refine Z.region ?_
  refine Z.lb 4 rfl ?_
  refine Z.lnil ?_
  refine Z.only [6, 7] rfl ?_
  refine Z.nthen ?_
  refine Z.ret ?_
  repeat (first | refine Z.rthen ?_ | refine Z.rblock ?_ | refine Z.rscope ?_)
  -- ret#0
  refine Z.out2 (by exact ⟨rfl, rfl, trivial⟩) ?_
  first | exact ⟨_, rfl, rfl, hs⟩ | exact ⟨_, rfl, rfl, hs.sub (List.nil_sublist _)⟩
theorem refput_ok (A : Option Addr) (n c : Nat) (bs : List Bool) (v wd : Nat) (w : World) (hx : Sl w A (ints .u8 (bits bs))) (hl : bs.length = n) (hn : n ≤ 10000000) (hw : wd ≤ 64) (hv : v < 18446744073709551616) (h0 : v / 2 ^ wd = 0) :
    Calls Try.prog 56 #[.slice A n c, .int .u64 (v : Int), .int .i64 (wd : Int)] w (SX.Ret fun r w' => ∃ sv, r = .tuple #[sv, .int .i64 0] ∧ SX.St w [] w' [SX.Ent.row sv 5 1 (n + wd) (ints .u8 (bits (bs ++ fld v wd)))]) := by
  have hs := SX.St.start w
  have hfl := fld_length v wd
  refine Z.enter Try.func56 rfl Try.ntmps56 rfl rfl ?_
  refine Z.seq ?_
  refine Z.region ?_
  refine Z.lb 2 rfl ?_
  refine Z.lnil ?_
  refine Z.only [0, 1, 2] rfl ?_
  refine Z.nthen ?_
  refine Z.seq ?_
  refine Z.region ?_
  refine Z.lb 2 rfl ?_
  refine Z.le rfl trivial ?_
  refine Z.ZO.call rfl rfl (by rfl) rfl rfl Try.call75 rfl (fromUint_ok v wd _ hw hv h0) ?_
  rintro v1_2 w1_2 ⟨sl, rfl, hy⟩
  replace hs := hs.call hy
  clear hy
  try simp only [List.cons_append, List.nil_append, List.append_nil] at hs
  obtain ⟨Al, cl, rfl, hl1, hl2, -⟩ := SX.row_slv hs SX.at0
  refine Z.lb 5 rfl ?_
  refine Z.lnil ?_
  refine Z.only [0, 8, 9] rfl ?_
  refine Z.nthen ?_
  refine Z.seq ?_
  refine Z.seq ?_
  refine Z.region ?_
  refine Z.lb 2 rfl ?_
  refine Z.lnil ?_
  refine Z.only [0, 8, 9, 17] rfl ?_
  refine Z.nthen ?_
  refine Z.cond rfl (fun h => absurd h (by simp)) (fun hc2 => ?_)
  refine Z.skip ?_
  refine Z.nthen ?_
  refine Z.seq ?_
  refine Z.region ?_
  refine Z.le rfl trivial ?_
  refine Z.ZO.empty rfl rfl (by rfl) Try.underlying26 Try.sizeOf5 hs ?_
  clear hs; intro g20 w20 hs
  refine Z.lb 1 rfl ?_
  refine Z.le rfl trivial ?_
  refine Z.ZO.appendG (i0 := Try.t5) (size := 1) (bytes := 1) rfl rfl (by rfl) hs Try.underlying26 (by kernel_rfl) rfl rfl rfl rfl (by decide) rfl rfl (by first | exact SX.at0 | exact SX.at1 | exact SX.at2 | exact SX.at3 | exact SX.at4 | exact SX.at5 | exact Z.at6 | exact Z.at7 | exact Z.at8 | exact Z.at9 | exact Z.at10 | exact Z.at11 | exact Z.at12) (hx.st (hs.sub (List.nil_sublist _))) (by first | rfl | assumption | (simp [ints_length]; done) | (simp [ints_length]; omega)) (by first | exact Z.ints_one | assumption | simp [Value.oneCell']) (by unfold maxLen; omega) (by omega) ?_
  clear hs; intro v22 w22 hs
  simp only [List.set_cons_zero, List.set_cons_succ] at hs
  refine Z.lb 1 rfl ?_
  refine Z.le rfl trivial ?_
  refine Z.ZO.appendG (i0 := Try.t5) (size := 1) (bytes := 1) rfl rfl (by rfl) hs Try.underlying26 (by kernel_rfl) rfl rfl rfl rfl (by decide) rfl rfl (by first | exact SX.at0 | exact SX.at1 | exact SX.at2 | exact SX.at3 | exact SX.at4 | exact SX.at5 | exact Z.at6 | exact Z.at7 | exact Z.at8 | exact Z.at9 | exact Z.at10 | exact Z.at11 | exact Z.at12) (SX.row_slB hs (j := 1) rfl) (by first | rfl | assumption | (simp [ints_length]; done) | (simp [ints_length]; omega)) (by first | exact Z.ints_one | assumption | simp [Value.oneCell']) (by unfold maxLen; omega) (by omega) ?_
  clear hs; intro v24 w24 hs
  simp only [List.set_cons_zero, List.set_cons_succ] at hs
  refine Z.lb 2 rfl ?_
  refine Z.lnil ?_
  refine Z.only [6, 7] rfl ?_
  refine Z.nthen ?_
  refine Z.ret ?_
  -- ret#0
  refine Z.out2 (by exact ⟨rfl, rfl, trivial⟩) ?_
  refine ⟨_, rfl, _, rfl, ?_⟩
  rw [List.nil_append, bits_app, Nat.zero_add] at hs
  exact hs.sub (List.cons_sublist_cons.2 (List.nil_sublist _))

/-- bits up to a whole number of bytes -/
def pad (bs : List Bool) : List Bool := bs ++ List.replicate ((8 - bs.length % 8) % 8) false
theorem pad_length (bs : List Bool) : (pad bs).length = (bs.length + 7) / 8 * 8 := by simp [pad]; omega

theorem refbytes (A : Option Addr) (n c : Nat) (bs : List Bool) (w : World) (hx : Sl w A (ints .u8 (bits bs))) (hl : bs.length = n) (hn : n ≤ 100000000) :
    Calls Try.prog 32 #[.slice A n c] w (SX.Ret fun r w' => SX.St w [] w' [SX.Ent.row r 5 1 (pk bs).length (ints .u8 (pk bs))]) := by
  have hs := SX.St.start w
  refine Z.enter Try.func32 rfl Try.ntmps32 rfl rfl ?_
  refine Z.seq ?_
  refine Z.region ?_
  refine Z.lb 1 rfl ?_
  refine Z.lnil ?_
  refine Z.only [0] rfl ?_
  refine Z.nthen ?_
  refine Z.seq ?_
  refine Z.region ?_
  refine Z.lb 1 rfl ?_
  refine Z.le rfl trivial ?_
  refine Z.ZO.call rfl rfl (by rfl) rfl rfl Try.call57 rfl (pack_any A n c bs _ hx hl hn) ?_
  rintro v1_1 w1_1 ⟨sv, rfl, hy⟩
  replace hs := hs.call hy
  clear hy
  try simp only [List.cons_append, List.nil_append, List.append_nil] at hs
  refine Z.lb 5 rfl ?_
  refine Z.lnil ?_
  refine Z.only [3] rfl ?_
  refine Z.nthen ?_
  refine Z.seq ?_
  refine Z.region ?_
  refine Z.lb 2 rfl ?_
  refine Z.lnil ?_
  refine Z.only [2] rfl ?_
  refine Z.nthen ?_
  refine Z.ret ?_
  -- ret#0
  refine Z.out1 (by exact ⟨rfl, trivial⟩) ?_
  exact ⟨_, rfl, hs⟩
end Go.Proofs.Ytcieclifabbkjaa

/- The writer's calls and the document's PutAll. -/
namespace Go.Proofs.Ytcieclifabbkjaa
open Go.RowKit
set_option linter.unusedSimpArgs false
set_option linter.unusedVariables false

def quoF (f : Int × Int) : Nat := f.1.toNat / 2 ^ f.2.toNat
/-- the error of a field -/
def chkF (f : Int × Int) : Int := if f.2 < 0 ∨ 64 < f.2 then 2 else if quoF f = 0 then 0 else 4
def encF (f : Int × Int) : List Value := [.int .u64 f.1, .int .i64 f.2]
def fldF (f : Int × Int) : List Bool := fld f.1.toNat f.2.toNat
def GoodF (f : Int × Int) : Prop := 0 ≤ f.1 ∧ f.1 < 18446744073709551616 ∧ -9223372036854775808 ≤ f.2 ∧ f.2 ≤ 9223372036854775807
def chkA : List (Int × Int) → Int
  | [] => 0
  | f :: fs => if chkF f = 0 then chkA fs else chkF f
def resA (bs : List Bool) (fs : List (Int × Int)) : List Bool := if chkA fs = 0 then bs ++ fs.flatMap fldF else bs
theorem encF_length (f : Int × Int) : (encF f).length = 2 := rfl
theorem chkA_app : ∀ a b : List (Int × Int), chkA a = 0 → chkA (a ++ b) = chkA b
  | [], b, _ => rfl
  | f :: a, b, h => by
    by_cases hf : chkF f = 0
    · simp only [chkA, if_pos hf, List.cons_append] at h ⊢
      exact chkA_app a b h
    · simp only [chkA, if_neg hf] at h
      exact absurd h hf
theorem chkA_at {fs : List (Int × Int)} {k : Nat} {f : Int × Int} (h : fs[k]? = some f) (h0 : chkA (fs.take k) = 0) (hf : chkF f ≠ 0) : chkA fs = chkF f := by
  have e : fs = fs.take (k + 1) ++ fs.drop (k + 1) := (List.take_append_drop _ _).symm
  rw [← take_snoc h] at e
  rw [e, List.append_assoc, chkA_app _ _ h0]
  simp [chkA, hf]
theorem chkA_snoc {fs : List (Int × Int)} {k : Nat} {f : Int × Int} (h : fs[k]? = some f) (h0 : chkA (fs.take k) = 0) (hf : chkF f = 0) : chkA (fs.take (k + 1)) = 0 := by
  rw [← take_snoc h, chkA_app _ _ h0]
  simp [chkA, hf]
theorem chkA_mem : ∀ {fs : List (Int × Int)}, chkA fs = 0 → ∀ f ∈ fs, chkF f = 0
  | [], _, f, h => by simp at h
  | g :: fs, h0, f, h => by
    by_cases hg : chkF g = 0
    · simp only [chkA, if_pos hg] at h0
      rcases List.mem_cons.1 h with rfl | h
      · exact hg
      · exact chkA_mem h0 f h
    · simp only [chkA, if_neg hg] at h0
      exact absurd h0 hg
theorem chkF_bd {f : Int × Int} (h : chkF f = 0) : 0 ≤ f.2 ∧ f.2 ≤ 64 ∧ quoF f = 0 := by
  unfold chkF at h
  split at h
  · simp at h
  · split at h
    · rename_i h1 h2
      exact ⟨by omega, by omega, h2⟩
    · simp at h
theorem flatF_length {fs : List (Int × Int)} (h : chkA fs = 0) : (fs.flatMap fldF).length ≤ fs.length * 64 := by
  induction fs with
  | nil => simp
  | cons f fs ih =>
    have h1 := chkF_bd (chkA_mem h f (by simp))
    have h2 : chkA fs = 0 := by
      by_cases hf : chkF f = 0
      · simpa only [chkA, if_pos hf] using h
      · simp only [chkA, if_neg hf] at h; exact absurd h hf
    have := ih h2
    simp only [List.flatMap_cons, List.length_append, List.length_cons, fldF, fld_length]
    omega
theorem take_zero {fs : List (Int × Int)} {k : Nat} (h : chkA fs = 0) : chkA (fs.take k) = 0 := by
  induction fs generalizing k with
  | nil => simp [chkA]
  | cons f fs ih =>
    cases k with
    | zero => rfl
    | succ k =>
      by_cases hf : chkF f = 0
      · simp only [chkA, if_pos hf, List.take_succ_cons] at h ⊢
        exact ih h
      · simp only [chkA, if_neg hf] at h; exact absurd h hf
theorem resA_length {bs : List Bool} {fs : List (Int × Int)} : (resA bs fs).length ≤ bs.length + fs.length * 64 := by
  unfold resA
  split
  · rename_i h
    have := flatF_length h
    simp only [List.length_append]
    omega
  · omega

theorem shr_chk (v wd : Int) (h0 : 0 ≤ v) (hw : 0 ≤ wd) (h64 : wd < 64) : v.fdiv (2 ^ (min wd.toNat IntKind.u64.bits)) = (quoF (v, wd) : Int) := by
  obtain ⟨n, rfl⟩ := Int.eq_ofNat_of_zero_le h0
  have e : min wd.toNat IntKind.u64.bits = wd.toNat := by
    have : IntKind.u64.bits = 64 := rfl
    omega
  rw [e, Int.fdiv_eq_ediv_of_nonneg _ (Int.le_of_lt (Int.pow_pos (by decide)))]
  simp [quoF]

theorem quo64 {v wd : Int} (h : wd = 64) (h1 : v < 18446744073709551616) : quoF (v, wd) = 0 := by
  subst h
  exact Nat.div_eq_of_lt (by simp only; have : (2 : Nat) ^ (64 : Int).toNat = 18446744073709551616 := by decide
                             omega)

theorem check_any (v wd : Int) (w : World) (hg : GoodF (v, wd)) :
    Calls Try.prog 53 #[.agg #[.int .u64 v, .int .i64 wd]] w (SX.Ret fun r w' => r = .int .i64 (chkF (v, wd)) ∧ SX.St w [] w' []) := by
  have hs := SX.St.start w
  obtain ⟨h0, h1, h2, h3⟩ := hg
  simp only at h0 h1 h2 h3
  refine Z.enter Try.func53 rfl Try.ntmps53 rfl rfl ?_
  refine Z.seq ?_
  refine Z.region ?_
  refine Z.le rfl trivial ?_
  refine Z.ZO.box rfl rfl (by rfl) rfl rfl hs ?_
  clear hs; intro g1 w1 hs
  refine Z.lb 1 rfl ?_
  refine Z.lnil ?_
  refine Z.only [1] rfl ?_
  refine Z.nthen ?_
  refine Z.seq ?_
  refine Z.block ?_
  refine Z.seq ?_
  refine Z.region ?_
  refine Z.l rfl rfl (by rfl) (Z.keepS hs) (Z.Yd.fieldA (m := 1) rfl (by kernel_rfl)) ?_
  refine Z.l rfl rfl (by rfl) (Z.keepS hs) (by first | exact Z.Yd.load rfl Try.isAgg3 (fun _ => Z.cellB (by first | ((repeat (first | exact List.mem_cons_self | refine List.mem_cons_of_mem _ ?_ | refine List.mem_append_right _ ?_)); done) | fail) rfl) | exact Z.Yd.load rfl Try.isAgg3 (fun _ => Z.cellO (by assumption) (by simp) (by assumption)) | fail "load 1.1") ?_
  refine Z.lb 2 rfl ?_
  refine Z.l rfl rfl (by rfl) (Z.keepS hs) (Z.Yd.fieldA (m := 1) rfl (by kernel_rfl)) ?_
  refine Z.l rfl rfl (by rfl) (Z.keepS hs) (by first | exact Z.Yd.load rfl Try.isAgg3 (fun _ => Z.cellB (by first | ((repeat (first | exact List.mem_cons_self | refine List.mem_cons_of_mem _ ?_ | refine List.mem_append_right _ ?_)); done) | fail) rfl) | exact Z.Yd.load rfl Try.isAgg3 (fun _ => Z.cellO (by assumption) (by simp) (by assumption)) | fail "load 1.5") ?_
  refine Z.lb 3 rfl ?_
  refine Z.lnil ?_
  refine Z.only [1, 3] rfl ?_
  refine Z.nthen ?_
  refine Z.cond rfl (fun hc1 => ?_) (fun hc1 => ?_)
  · first
      | (exfalso; simp at hc1 <;> omega)
      | (
        (try simp at hc1)
        refine Z.seq ?_
        refine Z.region ?_
        refine Z.lb 1 rfl ?_
        refine Z.lnil ?_
        refine Z.only [2] rfl ?_
        refine Z.nthen ?_
        refine Z.ret ?_
        repeat (first | refine Z.rthen ?_ | refine Z.rblock ?_ | refine Z.rscope ?_)
        -- ret#0
        refine Z.out1 (by exact ⟨rfl, trivial⟩) ?_
        exact ⟨_, rfl, by unfold chkF; rw [if_pos (by simp only; omega)], hs.sub (List.nil_sublist _)⟩
        )
  · first
      | (exfalso; simp at hc1 <;> omega)
      | (
        (try simp at hc1)
        refine Z.seq ?_
        refine Z.region ?_
        refine Z.l rfl rfl (by rfl) (Z.keepS hs) (Z.Yd.fieldA (m := 1) rfl (by kernel_rfl)) ?_
        refine Z.l rfl rfl (by rfl) (Z.keepS hs) (by first | exact Z.Yd.load rfl Try.isAgg3 (fun _ => Z.cellB (by first | ((repeat (first | exact List.mem_cons_self | refine List.mem_cons_of_mem _ ?_ | refine List.mem_append_right _ ?_)); done) | fail) rfl) | exact Z.Yd.load rfl Try.isAgg3 (fun _ => Z.cellO (by assumption) (by simp) (by assumption)) | fail "load 3.1") ?_
        refine Z.lb 2 rfl ?_
        refine Z.l rfl rfl (by rfl) (Z.keepS hs) (Z.Yd.fieldA (m := 0) rfl (by kernel_rfl)) ?_
        refine Z.l rfl rfl (by rfl) (Z.keepS hs) (by first | exact Z.Yd.load rfl Try.isAgg62 (fun _ => Z.cellB (by first | ((repeat (first | exact List.mem_cons_self | refine List.mem_cons_of_mem _ ?_ | refine List.mem_append_right _ ?_)); done) | fail) rfl) | exact Z.Yd.load rfl Try.isAgg62 (fun _ => Z.cellO (by assumption) (by simp) (by assumption)) | fail "load 3.5") ?_
        refine Z.l rfl rfl (by rfl) (Z.keepS hs) (Z.Yd.fieldA (m := 1) rfl (by kernel_rfl)) ?_
        refine Z.l rfl rfl (by rfl) (Z.keepS hs) (by first | exact Z.Yd.load rfl Try.isAgg3 (fun _ => Z.cellB (by first | ((repeat (first | exact List.mem_cons_self | refine List.mem_cons_of_mem _ ?_ | refine List.mem_append_right _ ?_)); done) | fail) rfl) | exact Z.Yd.load rfl Try.isAgg3 (fun _ => Z.cellO (by assumption) (by simp) (by assumption)) | fail "load 3.7") ?_
        refine Z.l rfl rfl (by rfl) (Z.keepS hs) (Z.Yd.shr rfl rfl (by intro hG; first | decide | omega) (by intro hG; have hG' := Z.gh rfl hG; simp at hG'; exact shr_chk v wd h0 (by omega) (by omega))) ?_
        refine Z.lb 3 rfl ?_
        refine Z.lnil ?_
        refine Z.only [12] rfl ?_
        refine Z.nthen ?_
        refine Z.cond rfl (fun hc3 => ?_) (fun hc3 => ?_)
        · first
            | (exfalso; simp at hc3 <;> omega)
            | (
              (try simp at hc3)
              refine Z.seq ?_
              refine Z.region ?_
              refine Z.lb 1 rfl ?_
              refine Z.lnil ?_
              refine Z.only [2] rfl ?_
              refine Z.nthen ?_
              refine Z.ret ?_
              repeat (first | refine Z.rthen ?_ | refine Z.rblock ?_ | refine Z.rscope ?_)
              -- ret#1
              refine Z.out1 (by exact ⟨rfl, trivial⟩) ?_
              exact ⟨_, rfl, by unfold chkF; rw [if_neg (by simp only; omega), if_neg (by omega)], hs.sub (List.nil_sublist _)⟩
              )
        · first
            | (exfalso; simp at hc3 <;> omega)
            | (
              (try simp at hc3)
              refine Z.skip ?_
              refine Z.nblock ?_
              refine Z.nthen ?_
              refine Z.seq ?_
              refine Z.region ?_
              refine Z.lb 1 rfl ?_
              refine Z.lnil ?_
              refine Z.only [2] rfl ?_
              refine Z.nthen ?_
              refine Z.ret ?_
              -- ret#2
              refine Z.out1 (by exact ⟨rfl, trivial⟩) ?_
              exact ⟨_, rfl, by unfold chkF; rw [if_neg (by simp only; omega), if_pos (by by_cases h : wd < 64; exact (by have := hc3 h; omega); exact quo64 (by omega) h1)], hs.sub (List.nil_sublist _)⟩
              )
        )
set_option maxRecDepth 100000 in
theorem putAll_any (g T : Nat) (sv : Value) (bs : List Bool) (A : Option Addr) (n c : Nat) (fs : List (Int × Int)) (w : World) (hs : SX.St w (SX.idsOf (WrL g T sv bs)) w (WrL g T sv bs))
    (hx : Sx w (SX.idsOf (WrL g T sv bs)) A (fs.flatMap encF)) (hl : fs.length = n) (hn : n ≤ 1000) (hb : bs.length ≤ 1000000) (hg : ∀ f ∈ fs, GoodF f) :
    Calls Try.prog 27 #[.pointer (some ⟨g, 0, none⟩), .slice A n c] w (SX.Ret fun r w' => ∃ sv', r = .int .i64 (chkA fs) ∧ SX.St w (SX.idsOf (WrL g T sv bs)) w' (WrL g T sv' (resA bs fs))) := by
  generalize hM : SX.idsOf (WrL g T sv bs) = M at *
  have hfl : (fs.flatMap encF).length = n * 2 := by rw [Z.flat_length (s := 2) encF_length, hl]
  refine Z.enter Try.func27 rfl Try.ntmps27 rfl rfl ?_
  refine Z.seq ?_
  refine Z.region ?_
  refine Z.lb 1 rfl ?_
  refine Z.lnil ?_
  refine Z.only [0, 1] rfl ?_
  refine Z.nthen ?_
  refine Z.seq ?_
  refine Z.seq ?_
  refine Z.region ?_
  refine Z.lb 1 rfl ?_
  refine Z.l rfl rfl (by rfl) (Z.keepS hs) (Z.Yd.ptrNil rfl rfl Try.underlying99) ?_
  refine Z.lnil ?_
  refine Z.only [0, 1, 11] rfl ?_
  refine Z.nthen ?_
  refine Z.cond rfl (fun h => absurd h (by simp)) (fun hc1 => ?_)
  refine Z.skip ?_
  refine Z.nthen ?_
  refine Z.seq ?_
  refine Z.seq ?_
  refine Z.region ?_
  refine Z.lb 1 rfl ?_
  refine Z.l rfl rfl (by rfl) (Z.keepS hs) (Z.Yd.lenS rfl Try.underlying68) ?_
  refine Z.lb 1 rfl ?_
  refine Z.lnil ?_
  refine Z.only [0, 1, 12, 13, 14] rfl ?_
  refine Z.nthen ?_
  refine Z.block ?_
  refine Z.loopk (ι := Nat) [0, 1, 12, 13] rfl (fun k => [(14, [], .int .i64 (k : Int))]) (fun k wr => k ≤ n ∧ chkA (fs.take k) = 0 ∧ SX.St w M wr (WrL g T sv bs)) (fun k => n - k) 0 (by refine ⟨?_, trivial⟩ <;> (first | rfl | (refine Z.lookv rfl ?_; simp; done) | (refine Z.lookv rfl ?_; simp; omega))) ⟨by omega, rfl, hs⟩ ?_
  clear hs
  rintro k w1 ⟨hkn, hz, hs⟩
  refine Z.only [0, 1, 12, 13, 14] rfl ?_
  refine Z.seq ?_
  refine Z.region ?_
  refine Z.lb 1 rfl ?_
  refine Z.lnil ?_
  refine Z.only [0, 1, 12, 13, 14, 15] rfl ?_
  refine Z.nthen ?_
  refine Z.seq ?_
  refine Z.cond rfl (fun hc4 => ?_) (fun hc4 => ?_)
  · first
      | (exfalso; simp at hc4 <;> omega)
      | (
        (try simp at hc4)
        obtain ⟨b, off, rfl, hx⟩ := hx.some (by omega)
        obtain ⟨⟨v, wd⟩, hf⟩ : ∃ f, fs[k]? = some f := ⟨_, List.getElem?_eq_getElem (by omega)⟩
        have hgf := hg _ (List.mem_of_getElem? hf)
        refine Z.skip ?_
        refine Z.nthen ?_
        refine Z.seq ?_
        refine Z.block ?_
        refine Z.seq ?_
        refine Z.region ?_
        refine Z.l rfl rfl (by rfl) (Z.keepS hs) (Z.Yd.elem rfl rfl Try.underlying68 Try.sizeOf64 (fun hG => ⟨(by first | omega | (have hG' := Z.gh rfl hG; simp at hG'; omega)), (by first | omega | (have hG' := Z.gh rfl hG; simp at hG'; omega))⟩)) ?_
        refine Z.l rfl rfl (by rfl) (Z.keepS hs) (Z.Yd.loadA _ rfl Try.isAgg64 (fun _ => Z.cellsX [.int .u64 v, .int .i64 wd] hx encF_length hf rfl) (by exact Try.sizeOf64)) ?_
        refine Z.le rfl trivial ?_
        refine Z.ZO.alloc rfl rfl (by rfl) Try.zeroValue64 rfl hs ?_
        clear hs; intro g6 w6 hs
        refine Z.le rfl trivial ?_
        refine Z.ZO.storeA rfl rfl hs rfl rfl (by kernel_rfl) (by first | (simp [Value.oneCell']; done) | (refine Z.all_one ?_; assumption)) (by first | exact SX.at0 | exact SX.at1 | exact SX.at2 | exact SX.at3 | exact SX.at4 | exact SX.at5 | exact Z.at6 | exact Z.at7 | exact Z.at8 | exact Z.at9 | exact Z.at10 | exact Z.at11 | exact Z.at12) (by rfl) ?_
        clear hs; intro ws hs
        simp only [Nat.zero_add, Nat.add_zero, Nat.reduceAdd, Int.reduceToNat, Nat.reduceMul, List.set_cons_zero, List.set_cons_succ, List.setIfInBounds_toArray] at hs
        refine Z.lnil ?_
        refine Z.only [0, 1, 6, 12, 13, 14] rfl ?_
        refine Z.nthen ?_
        refine Z.seq ?_
        refine Z.region ?_
        refine Z.l rfl rfl (by rfl) (Z.keepS hs) (by first | exact Z.Yd.loadA _ rfl Try.isAgg64 (fun _ => Z.cellsB (by first | ((repeat (first | exact List.mem_cons_self | refine List.mem_cons_of_mem _ ?_ | refine List.mem_append_right _ ?_)); done) | fail)) (by exact Try.sizeOf64) | fail "load 6.0") ?_
        refine Z.le rfl trivial ?_
        refine Z.ZO.call rfl rfl (by rfl) rfl rfl Try.call53 rfl (check_any v wd _ hgf) ?_
        rintro v6_1 w6_1 ⟨rfl, hy⟩
        replace hs := hs.call hy
        clear hy
        try simp only [List.cons_append, List.nil_append, List.append_nil] at hs
        refine Z.lb 1 rfl ?_
        refine Z.lnil ?_
        refine Z.only [0, 1, 7, 12, 13, 14] rfl ?_
        refine Z.nthen ?_
        refine Z.seq ?_
        refine Z.region ?_
        refine Z.lb 2 rfl ?_
        refine Z.lnil ?_
        refine Z.only [0, 1, 7, 12, 13, 14, 21] rfl ?_
        refine Z.nthen ?_
        refine Z.cond rfl (fun hc7 => ?_) (fun hc7 => ?_)
        · first
            | (exfalso; simp at hc7 <;> omega)
            | (
              (try simp at hc7)
              refine Z.seq ?_
              refine Z.region ?_
              refine Z.lb 2 rfl ?_
              refine Z.lnil ?_
              refine Z.only [4] rfl ?_
              refine Z.nthen ?_
              refine Z.ret ?_
              repeat (first | refine Z.rthen ?_ | refine Z.rblock ?_ | refine Z.rscope ?_)
              -- ret#0
              refine Z.out1 (by exact ⟨rfl, trivial⟩) ?_
              exact ⟨_, rfl, sv, by rw [chkA_at hf hz hc7], by unfold resA; rw [if_neg (by rw [chkA_at hf hz hc7]; exact hc7)]; exact hs.tl⟩
              )
        · first
            | (exfalso; simp at hc7 <;> omega)
            | (
              (try simp at hc7)
              refine Z.skip ?_
              refine Z.nblock ?_
              refine Z.nthen ?_
              refine Z.region ?_
              refine Z.l rfl rfl (by rfl) (Z.keepS hs) (Z.Yd.add rfl rfl (fun hG => Z.wi64 (by first | omega | (have hG' := Z.gh rfl hG; simp at hG'; omega)))) ?_
              refine Z.lb 1 rfl ?_
              refine Z.lnil ?_
              refine Z.only [0, 1, 12, 13, 14] rfl ?_
              refine Z.nthen ?_
              exact Z.again (k + 1) (by refine ⟨?_, ?_, ?_, ?_, ?_, trivial⟩ <;> (first | rfl | (refine Z.lookv rfl ?_; simp; done) | (refine Z.lookv rfl ?_; simp; omega))) ⟨by omega, chkA_snoc hf hz hc7, hs.tl⟩ (by omega)
              )
        )
  · first
      | (exfalso; simp at hc4 <;> omega)
      | (
        (try simp at hc4)
        refine Z.exit ?_
        refine Z.xthen ?_
        refine Z.xthen ?_
        refine Z.xblock ?_
        refine Z.nthen ?_
        refine Z.seq ?_
        refine Z.seq ?_
        refine Z.region ?_
        have hz0 : chkA fs = 0 := by rw [List.take_of_length_le (by omega)] at hz; exact hz
        refine Z.l rfl rfl (by rfl) (Z.keepS hs) (Z.Yd.pure rfl) ?_
        refine Z.l rfl rfl (by rfl) (Z.keepS hs) (Z.Yd.lenS rfl Try.underlying68) ?_
        refine Z.lb 1 rfl ?_
        refine Z.lnil ?_
        refine Z.only [0, 24, 25, 26] rfl ?_
        refine Z.nthen ?_
        refine Z.block ?_
        refine Z.loopk (ι := Nat × Value) [0, 24, 25] rfl (fun k => [(26, [], .int .i64 (k.1 : Int))]) (fun k wr => k.1 ≤ n ∧ SX.St w M wr (WrL g T k.2 (bs ++ (fs.take k.1).flatMap fldF))) (fun k => n - k.1) (0, sv) (by refine ⟨?_, trivial⟩ <;> (first | rfl | (refine Z.lookv rfl ?_; simp; done) | (refine Z.lookv rfl ?_; simp; omega))) ⟨by omega, by simpa using hs⟩ ?_
        clear hs
        rintro ⟨j, sv1⟩ w2 ⟨hjn, hs⟩
        refine Z.only [0, 24, 25, 26] rfl ?_
        (try dsimp only at hs)
        refine Z.seq ?_
        refine Z.region ?_
        refine Z.lb 1 rfl ?_
        refine Z.lnil ?_
        refine Z.only [0, 24, 25, 26, 27] rfl ?_
        refine Z.nthen ?_
        refine Z.seq ?_
        refine Z.cond rfl (fun hc11 => ?_) (fun hc11 => ?_)
        · first
            | (exfalso; simp at hc11 <;> omega)
            | (
              (try simp at hc11)
              obtain ⟨b, off, rfl, hx⟩ := hx.some (by omega)
              obtain ⟨⟨v, wd⟩, hf⟩ : ∃ f, fs[j]? = some f := ⟨_, List.getElem?_eq_getElem (by omega)⟩
              have hgf := hg _ (List.mem_of_getElem? hf)
              obtain ⟨hw0, hw1, hw2⟩ := chkF_bd (chkA_mem hz0 _ (List.mem_of_getElem? hf))
              obtain ⟨hv0, hv1, -, -⟩ := hgf
              simp only at hw0 hw1 hv0 hv1
              obtain ⟨v, rfl⟩ := Int.eq_ofNat_of_zero_le hv0
              obtain ⟨wd, rfl⟩ := Int.eq_ofNat_of_zero_le hw0
              refine Z.skip ?_
              refine Z.nthen ?_
              refine Z.seq ?_
              refine Z.block ?_
              refine Z.seq ?_
              refine Z.region ?_
              refine Z.l rfl rfl (by rfl) (Z.keepS hs) (Z.Yd.elem rfl rfl Try.underlying68 Try.sizeOf64 (fun hG => ⟨(by first | omega | (have hG' := Z.gh rfl hG; simp at hG'; omega)), (by first | omega | (have hG' := Z.gh rfl hG; simp at hG'; omega))⟩)) ?_
              refine Z.l rfl rfl (by rfl) (Z.keepS hs) (Z.Yd.loadA _ rfl Try.isAgg64 (fun _ => Z.cellsX [.int .u64 (v : Int), .int .i64 (wd : Int)] hx encF_length hf rfl) (by exact Try.sizeOf64)) ?_
              refine Z.le rfl trivial ?_
              refine Z.ZO.alloc rfl rfl (by rfl) Try.zeroValue64 rfl hs ?_
              clear hs; intro g9 w9 hs
              refine Z.le rfl trivial ?_
              refine Z.ZO.storeA rfl rfl hs rfl rfl (by kernel_rfl) (by first | (simp [Value.oneCell']; done) | (refine Z.all_one ?_; assumption)) (by first | exact SX.at0 | exact SX.at1 | exact SX.at2 | exact SX.at3 | exact SX.at4 | exact SX.at5 | exact Z.at6 | exact Z.at7 | exact Z.at8 | exact Z.at9 | exact Z.at10 | exact Z.at11 | exact Z.at12) (by rfl) ?_
              clear hs; intro ws hs
              simp only [Nat.zero_add, Nat.add_zero, Nat.reduceAdd, Int.reduceToNat, Nat.reduceMul, List.set_cons_zero, List.set_cons_succ, List.setIfInBounds_toArray] at hs
              refine Z.lnil ?_
              refine Z.only [0, 9, 24, 25, 26] rfl ?_
              refine Z.nthen ?_
              refine Z.region ?_
              refine Z.lb 1 rfl ?_
              refine Z.l rfl rfl (by rfl) (Z.keepS hs) (Z.Yd.fieldA (m := 0) rfl (by kernel_rfl)) ?_
              refine Z.l rfl rfl (by rfl) (Z.keepS hs) (by first | exact Z.Yd.load rfl Try.isAgg62 (fun _ => Z.cellB (by first | ((repeat (first | exact List.mem_cons_self | refine List.mem_cons_of_mem _ ?_ | refine List.mem_append_right _ ?_)); done) | fail) rfl) | exact Z.Yd.load rfl Try.isAgg62 (fun _ => Z.cellO (by assumption) (by simp) (by assumption)) | fail "load 13.2") ?_
              refine Z.l rfl rfl (by rfl) (Z.keepS hs) (Z.Yd.fieldA (m := 1) rfl (by kernel_rfl)) ?_
              refine Z.l rfl rfl (by rfl) (Z.keepS hs) (by first | exact Z.Yd.load rfl Try.isAgg3 (fun _ => Z.cellB (by first | ((repeat (first | exact List.mem_cons_self | refine List.mem_cons_of_mem _ ?_ | refine List.mem_append_right _ ?_)); done) | fail) rfl) | exact Z.Yd.load rfl Try.isAgg3 (fun _ => Z.cellO (by assumption) (by simp) (by assumption)) | fail "load 13.4") ?_
              replace hs := hs.rot (L1 := [_])
              change SX.St _ _ _ (WrL g T sv1 _ ++ [_]) at hs
              have hlen : (bs ++ (fs.take j).flatMap fldF).length ≤ 1100000 := by
                have := flatF_length (take_zero (k := j) hz0)
                simp only [List.length_append, List.length_take] at this ⊢
                omega
              refine Z.le rfl trivial ?_
              refine Z.ZO.call rfl rfl (by rfl) rfl rfl Try.call54 rfl (put_any g T sv1 (bs ++ (fs.take j).flatMap fldF) v wd _ hs.lend (by omega) (by omega) (by omega)) ?_
              rintro v13_5 w13_5 ⟨sv2, rfl, hz⟩
              replace hs := hs.regain hz
              refine Z.lnil ?_
              refine Z.only [0, 24, 25, 26] rfl ?_
              refine Z.nblock ?_
              refine Z.nthen ?_
              refine Z.region ?_
              refine Z.l rfl rfl (by rfl) (Z.keepS hs) (Z.Yd.add rfl rfl (fun hG => Z.wi64 (by first | omega | (have hG' := Z.gh rfl hG; simp at hG'; omega)))) ?_
              refine Z.lb 1 rfl ?_
              refine Z.lnil ?_
              refine Z.only [0, 24, 25, 26] rfl ?_
              refine Z.nthen ?_
              have e : (bs ++ (fs.take j).flatMap fldF) ++ fld v wd = bs ++ (fs.take (j + 1)).flatMap fldF := by
                rw [← take_snoc hf]
                simp [fldF]
              rw [e] at hs
              exact Z.again (j + 1, sv2) (by refine ⟨?_, ?_, ?_, ?_, trivial⟩ <;> (first | rfl | (refine Z.lookv rfl ?_; simp; done) | (refine Z.lookv rfl ?_; simp; omega))) ⟨by simp only; omega, hs.sub (List.sublist_append_left _ _)⟩ (by simp only; omega)
              )
        · first
            | (exfalso; simp at hc11 <;> omega)
            | (
              (try simp at hc11)
              refine Z.exit ?_
              refine Z.xthen ?_
              refine Z.xthen ?_
              refine Z.xblock ?_
              refine Z.nthen ?_
              refine Z.seq ?_
              refine Z.region ?_
              refine Z.lb 1 rfl ?_
              refine Z.lnil ?_
              refine Z.only [4] rfl ?_
              refine Z.nthen ?_
              refine Z.ret ?_
              -- ret#1
              refine Z.out1 (by exact ⟨rfl, trivial⟩) ?_
              refine ⟨_, rfl, sv1, by rw [hz0], ?_⟩
              unfold resA
              rw [if_pos hz0]
              rw [List.take_of_length_le (by omega)] at hs
              exact hs
              )
        )

theorem pk_pad (bs : List Bool) : pk (pad bs) = pk bs := by
  have h : ∀ k m, bs.length + k ≤ 8 * m → pkn (bs ++ List.replicate k false) m = pkn bs m := by
    intro k
    induction k with
    | zero => intro m _; simp
    | succ k ih =>
      intro m hm
      rw [List.replicate_succ', ← List.append_assoc, pkn_false (by simp; omega), ih m (by omega)]
  unfold pk
  rw [pad_length, show ((bs.length + 7) / 8 * 8 + 7) / 8 = (bs.length + 7) / 8 from by omega]
  exact h _ _ (by omega)

theorem wbytes_any (g T : Nat) (sv : Value) (bs : List Bool) (w : World) (hs : SX.St w (SX.idsOf (WrL g T sv bs)) w (WrL g T sv bs)) (hb : bs.length ≤ 1000000) :
    Calls Try.prog 29 #[.pointer (some ⟨g, 0, none⟩)] w (SX.Ret fun r w' => SX.St w (SX.idsOf (WrL g T sv bs)) w' (SX.Ent.row r 5 1 (pk bs).length (ints .u8 (pk bs)) :: WrL g T sv bs)) := by
  generalize hM : SX.idsOf (WrL g T sv bs) = M at *
  simp only [WrL] at hs
  have hpl := pk_length bs
  obtain ⟨A, c, rfl, hl1, hl2, hx⟩ := SX.row_slv hs SX.at1
  refine Z.enter Try.func29 rfl Try.ntmps29 rfl rfl ?_
  refine Z.seq ?_
  refine Z.region ?_
  refine Z.lb 1 rfl ?_
  refine Z.lnil ?_
  refine Z.only [0] rfl ?_
  refine Z.nthen ?_
  refine Z.seq ?_
  refine Z.seq ?_
  refine Z.region ?_
  refine Z.lb 1 rfl ?_
  refine Z.l rfl rfl (by rfl) (Z.keepS hs) (Z.Yd.ptrNil rfl rfl Try.underlying99) ?_
  refine Z.lnil ?_
  refine Z.only [0, 4] rfl ?_
  refine Z.nthen ?_
  refine Z.cond rfl (fun h => absurd h (by simp)) (fun hc1 => ?_)
  refine Z.skip ?_
  refine Z.nthen ?_
  refine Z.seq ?_
  refine Z.region ?_
  refine Z.lb 1 rfl ?_
  refine Z.l rfl rfl (by rfl) (Z.keepS hs) (Z.Yd.nilc rfl rfl) ?_
  refine Z.l rfl rfl (by rfl) (Z.keepS hs) (Z.Yd.fieldA (m := 0) rfl (by kernel_rfl)) ?_
  refine Z.l rfl rfl (by rfl) (Z.keepS hs) (Z.Yd.fieldA (m := 0) rfl (by kernel_rfl)) ?_
  refine Z.l rfl rfl (by rfl) (Z.keepS hs) (by first | exact Z.Yd.load rfl Try.isAgg26 (fun _ => Z.cellB (by first | ((repeat (first | exact List.mem_cons_self | refine List.mem_cons_of_mem _ ?_ | refine List.mem_append_right _ ?_)); done) | fail) rfl) | exact Z.Yd.load rfl Try.isAgg26 (fun _ => Z.cellO (by assumption) (by simp) (by assumption)) | fail "load 3.4") ?_
  refine Z.le rfl trivial ?_
  refine Z.ZO.call rfl rfl (by rfl) rfl rfl Try.call55 rfl (clone8 [] A (pk bs).length c (pk bs) _ hx.sx rfl (by omega) (SX.row_none hs SX.at1)) ?_
  rintro v3_5 w3_5 hy
  replace hs := hs.call hy
  clear hy
  try simp only [List.cons_append, List.nil_append, List.append_nil] at hs
  refine Z.lb 1 rfl ?_
  refine Z.lnil ?_
  refine Z.only [2] rfl ?_
  refine Z.nthen ?_
  refine Z.ret ?_
  -- ret#0
  refine Z.out1 (by exact ⟨rfl, trivial⟩) ?_
  exact ⟨_, rfl, hs⟩
end Go.Proofs.Ytcieclifabbkjaa

/- The document's PutAll; the law's few and act. -/
namespace Go.Proofs.Ytcieclifabbkjaa
open Go.RowKit
set_option linter.unusedSimpArgs false
set_option linter.unusedVariables false

theorem Rmono {f : FuncId} {args : Array Value} {w : World} {A B : Value → World → Prop} (h : Calls Try.prog f args w (SX.Ret A)) (hAB : ∀ v w', A v w' → B v w') : Calls Try.prog f args w (SX.Ret B) :=
  callsIn_wide.1 (CallsIn.mono (n := 0) (callsIn_wide.2 h) fun e w' ⟨v, he, hv⟩ => ⟨v, he, hAB v w' hv⟩)

/-- a row of bits -/
def rowB (sv : Value) (bs : List Bool) : SX.Ent := SX.Ent.row sv 5 1 bs.length (ints .u8 (bits bs))
theorem resA_one (bs : List Bool) (f : Int × Int) : resA bs [f] = if chkF f = 0 then bs ++ fldF f else bs := by
  unfold resA
  by_cases h : chkF f = 0 <;> simp [chkA, h]

theorem refput_any (A : Option Addr) (n c : Nat) (bs : List Bool) (v wd : Int) (w : World) (hx : Sl w A (ints .u8 (bits bs))) (hl : bs.length = n) (hn : n ≤ 10000000) (hg : GoodF (v, wd)) :
    Calls Try.prog 56 #[.slice A n c, .int .u64 v, .int .i64 wd] w (SX.Ret fun r w' => ∃ sv', r = .tuple #[sv', .int .i64 (chkF (v, wd))] ∧ (chkF (v, wd) ≠ 0 → sv' = .slice A n c) ∧
      SX.St w [] w' (if chkF (v, wd) = 0 then [rowB sv' (bs ++ fldF (v, wd))] else [])) := by
  obtain ⟨h0, h1, h2, h3⟩ := hg
  simp only at h0 h1 h2 h3
  by_cases hw : wd < 0 ∨ 64 < wd
  · have hc : chkF (v, wd) = 2 := by unfold chkF; rw [if_pos hw]
    refine Rmono (refput_bad A n c v wd 2 w (by decide) fun W => fromUint_bad v wd W hw) ?_
    rintro r w' ⟨rfl, hs⟩
    exact ⟨_, by rw [hc], fun _ => rfl, by rw [hc]; exact hs⟩
  · obtain ⟨v, rfl⟩ := Int.eq_ofNat_of_zero_le h0
    obtain ⟨wd, rfl⟩ := Int.eq_ofNat_of_zero_le (show 0 ≤ wd by omega)
    by_cases hq : quoF ((v : Int), (wd : Int)) = 0
    · have hc : chkF ((v : Int), (wd : Int)) = 0 := by unfold chkF; rw [if_neg hw, if_pos hq]
      refine Rmono (refput_ok A n c bs v wd w hx hl hn (by omega) (by omega) hq) ?_
      rintro r w' ⟨sv, rfl, hs⟩
      refine ⟨sv, by rw [hc], fun h => absurd hc h, ?_⟩
      rw [if_pos hc]
      unfold rowB
      rw [List.length_append, hl, show (fldF ((v : Int), (wd : Int))).length = wd from fld_length _ _]
      exact hs
    · have hc : chkF ((v : Int), (wd : Int)) = 4 := by unfold chkF; rw [if_neg hw, if_neg hq]
      refine Rmono (refput_bad A n c v wd 4 w (by decide) fun W => fromUint_long v wd W (by omega) (by omega) hq) ?_
      rintro r w' ⟨rfl, hs⟩
      exact ⟨_, by rw [hc], fun _ => rfl, by rw [hc]; exact hs⟩

set_option maxRecDepth 100000 in
theorem refputall (sb : Value) (bs : List Bool) (B : Option Addr) (m d : Nat) (fs : List (Int × Int)) (w : World) (hs : SX.St w (SX.idsOf [rowB sb bs]) w [rowB sb bs])
    (hx : Sx w (SX.idsOf [rowB sb bs]) B (fs.flatMap encF)) (hl : fs.length = m) (hn : m ≤ 1000) (hb : bs.length ≤ 1000000) (hg : ∀ f ∈ fs, GoodF f) :
    Calls Try.prog 30 #[sb, .slice B m d] w (SX.Ret fun r w' => ∃ sv', r = .tuple #[sv', .int .i64 (chkA fs)] ∧ SX.St w (SX.idsOf [rowB sb bs]) w' [rowB sv' (resA bs fs)]) := by
  generalize hM : SX.idsOf [rowB sb bs] = M at *
  have hfl : (fs.flatMap encF).length = m * 2 := by rw [Z.flat_length (s := 2) encF_length, hl]
  refine Z.enter Try.func30 rfl Try.ntmps30 rfl rfl ?_
  refine Z.seq ?_
  refine Z.region ?_
  refine Z.lb 2 rfl ?_
  refine Z.lnil ?_
  refine Z.only [0, 1] rfl ?_
  refine Z.nthen ?_
  refine Z.seq ?_
  refine Z.region ?_
  refine Z.lb 2 rfl ?_
  refine Z.lnil ?_
  refine Z.only [0, 1, 6] rfl ?_
  refine Z.nthen ?_
  refine Z.seq ?_
  refine Z.seq ?_
  refine Z.region ?_
  refine Z.lb 1 rfl ?_
  refine Z.lnil ?_
  refine Z.only [0, 1, 6, 7] rfl ?_
  refine Z.nthen ?_
  refine Z.block ?_
  refine Z.loopk (ι := Nat × Value × List SX.Ent) [0, 1] rfl (fun k => [(6, [], k.2.1), (7, [], .int .i64 (k.1 : Int))]) (fun k wr => k.1 ≤ m ∧ chkA (fs.take k.1) = 0 ∧ (k.1 = 0 ∧ k.2.2 = [] ∧ k.2.1 = sb ∨ k.2.2 = [rowB k.2.1 (bs ++ (fs.take k.1).flatMap fldF)]) ∧ SX.St w M wr (k.2.2 ++ [rowB sb bs])) (fun k => m - k.1) (0, sb, []) (by refine ⟨?_, ?_, trivial⟩ <;> (first | rfl | (refine Z.lookv rfl ?_; simp; done) | (refine Z.lookv rfl ?_; simp; omega))) ⟨by omega, rfl, .inl ⟨rfl, rfl, rfl⟩, hs⟩ ?_
  clear hs
  rintro ⟨k, out, L0⟩ w1 ⟨hkm, hz, ho, hs⟩
  refine Z.only [0, 1, 6, 7] rfl ?_
  (try dsimp only at hs)
  dsimp only at hkm hz ho
  refine Z.seq ?_
  refine Z.seq ?_
  refine Z.region ?_
  refine Z.lb 2 rfl ?_
  refine Z.l rfl rfl (by rfl) (Z.keepS hs) (Z.Yd.lenS rfl Try.underlying68) ?_
  refine Z.lb 1 rfl ?_
  refine Z.lnil ?_
  refine Z.only [0, 1, 6, 7, 14] rfl ?_
  refine Z.nthen ?_
  refine Z.cond rfl (fun hc3 => ?_) (fun hc3 => ?_)
  · first
      | (exfalso; simp at hc3 <;> omega)
      | (
        (try simp at hc3)
        obtain ⟨b, off, rfl, hx⟩ := hx.some (by omega)
        obtain ⟨⟨v, wd⟩, hf⟩ : ∃ f, fs[k]? = some f := ⟨_, List.getElem?_eq_getElem (by omega)⟩
        have hgf := hg _ (List.mem_of_getElem? hf)
        obtain ⟨bs1, hb1, hlen⟩ : ∃ bs1, bs1 = bs ++ (fs.take k).flatMap fldF ∧ bs1.length ≤ 1100000 := ⟨_, rfl, by
          have := flatF_length hz
          simp only [List.length_append, List.length_take] at this ⊢
          omega⟩
        obtain ⟨Ao, co, rfl, hxo⟩ : ∃ A c, out = .slice A bs1.length c ∧ ∀ w', SX.St w M w' (L0 ++ [rowB sb bs]) → Sl w' A (ints .u8 (bits bs1)) := by
          rcases ho with ⟨rfl, rfl, rfl⟩ | rfl
          · simp only [List.take_zero, List.flatMap_nil, List.append_nil] at hb1
            subst hb1
            obtain ⟨A, c, rfl, _, _, hq⟩ := SX.row_slv hs SX.at0
            exact ⟨A, c, rfl, fun w' h => SX.row_slB h SX.at0⟩
          · subst hb1
            obtain ⟨A, c, rfl, _, _, hq⟩ := SX.row_slv hs SX.at0
            exact ⟨A, c, rfl, fun w' h => SX.row_slB h SX.at0⟩
        refine Z.skip ?_
        refine Z.nthen ?_
        refine Z.seq ?_
        refine Z.block ?_
        refine Z.seq ?_
        refine Z.drawK (fun _ => true) mixed hs ?_
        clear hs; intro wd5 hs
        refine Z.tb [0, 1, 2] (by kernel_rfl) rfl ⟨_, hs, by first | (simp; done) | exact fun e he => List.mem_append_right _ he⟩ rfl ?_
        refine Z.t 3 rfl rfl rfl (by rfl) (by kernel_rfl) ⟨_, hs, by first | (simp; done) | exact fun e he => List.mem_append_right _ he⟩ (Z.Yd.elem rfl rfl Try.underlying68 Try.sizeOf64 (fun hG => ⟨(by first | omega | (have hG' := Z.gh rfl hG; simp at hG'; omega)), (by first | omega | (have hG' := Z.gh rfl hG; simp at hG'; omega))⟩)) ?_
        refine Z.t 4 rfl rfl rfl (by rfl) (by kernel_rfl) ⟨_, hs, by first | (simp; done) | exact fun e he => List.mem_append_right _ he⟩ (Z.Yd.fieldA (m := 0) rfl (by kernel_rfl)) ?_
        refine Z.t 5 rfl rfl rfl (by rfl) (by kernel_rfl) ⟨_, hs, by first | (simp; done) | exact fun e he => List.mem_append_right _ he⟩ (Z.Yd.load rfl Try.isAgg62 (fun _ => Z.cellXq (j := 0) hx encF_length hf rfl)) ?_
        refine Z.tb [6, 7] (by kernel_rfl) rfl ⟨_, hs, by first | (simp; done) | exact fun e he => List.mem_append_right _ he⟩ rfl ?_
        refine Z.t 8 rfl rfl rfl (by rfl) (by kernel_rfl) ⟨_, hs, by first | (simp; done) | exact fun e he => List.mem_append_right _ he⟩ (Z.Yd.elem rfl rfl Try.underlying68 Try.sizeOf64 (fun hG => ⟨(by first | omega | (have hG' := Z.gh rfl hG; simp at hG'; omega)), (by first | omega | (have hG' := Z.gh rfl hG; simp at hG'; omega))⟩)) ?_
        refine Z.t 9 rfl rfl rfl (by rfl) (by kernel_rfl) ⟨_, hs, by first | (simp; done) | exact fun e he => List.mem_append_right _ he⟩ (Z.Yd.fieldA (m := 1) rfl (by kernel_rfl)) ?_
        refine Z.t 10 rfl rfl rfl (by rfl) (by kernel_rfl) ⟨_, hs, by first | (simp; done) | exact fun e he => List.mem_append_right _ he⟩ (Z.Yd.load rfl Try.isAgg3 (fun _ => Z.cellXq (j := 1) hx encF_length hf rfl)) ?_
        refine Z.tn 11 rfl rfl (by kernel_rfl) rfl trivial ?_
        refine Z.ZO.call rfl rfl (by rfl) rfl rfl Try.call56 rfl (refput_any Ao _ co bs1 v wd _ (hxo _ hs) rfl (by omega) hgf) ?_
        rintro v5_11 w5_11 ⟨sv', rfl, hne, hy⟩
        replace hs := hs.call hy
        clear hy
        try simp only [List.cons_append, List.nil_append, List.append_nil] at hs
        refine Z.tk (Dn := fun _ => true) (i := 11) (fun _ => ⟨_, hs, by first | (simp; done) | exact fun e he => List.mem_append_right _ he⟩) ?_
        refine Z.tb [12, 13, 14, 15, 16] (by kernel_rfl) rfl ⟨_, hs, by first | (simp; done) | exact fun e he => List.mem_append_right _ he⟩ rfl ?_
        refine Z.td (by rfl) (by kernel_rfl) ?_
        refine Z.only [0, 1, 7, 8, 9] rfl ?_
        refine Z.nthen ?_
        refine Z.seq ?_
        refine Z.seq ?_
        refine Z.region ?_
        refine Z.lb 2 rfl ?_
        refine Z.lnil ?_
        refine Z.only [0, 1, 7, 8, 9, 33] rfl ?_
        refine Z.nthen ?_
        refine Z.cond rfl (fun hc6 => ?_) (fun hc6 => ?_)
        · first
            | (exfalso; simp at hc6 <;> omega)
            | (
              (try simp at hc6)
              refine Z.seq ?_
              refine Z.region ?_
              refine Z.lb 4 rfl ?_
              refine Z.lnil ?_
              refine Z.only [4, 5] rfl ?_
              refine Z.nthen ?_
              refine Z.ret ?_
              repeat (first | refine Z.rthen ?_ | refine Z.rblock ?_ | refine Z.rscope ?_)
              -- ret#0
              refine Z.out2 (by exact ⟨rfl, rfl, trivial⟩) ?_
              refine ⟨_, rfl, sb, by rw [chkA_at hf hz hc6], ?_⟩
              unfold resA
              rw [if_neg (by rw [chkA_at hf hz hc6]; exact hc6)]
              exact hs.sub (by simp)
              )
        · first
            | (exfalso; simp at hc6 <;> omega)
            | (
              (try simp at hc6)
              refine Z.skip ?_
              refine Z.nthen ?_
              refine Z.region ?_
              refine Z.lb 2 rfl ?_
              refine Z.lnil ?_
              refine Z.only [0, 1, 6, 7] rfl ?_
              refine Z.nblock ?_
              refine Z.nthen ?_
              refine Z.region ?_
              refine Z.lb 1 rfl ?_
              refine Z.l rfl rfl (by rfl) (Z.keepS hs) (Z.Yd.add rfl rfl (fun hG => Z.wi64 (by first | omega | (have hG' := Z.gh rfl hG; simp at hG'; omega)))) ?_
              refine Z.lb 1 rfl ?_
              refine Z.lnil ?_
              refine Z.only [0, 1, 6, 7] rfl ?_
              refine Z.nthen ?_
              rw [if_pos hc6] at hs
              have e : bs1 ++ fldF (v, wd) = bs ++ (fs.take (k + 1)).flatMap fldF := by
                rw [← take_snoc hf, hb1]
                simp [fldF]
              rw [e] at hs
              exact Z.again (k + 1, sv', [_]) (by refine ⟨?_, ?_, ?_, ?_, trivial⟩ <;> (first | rfl | (refine Z.lookv rfl ?_; simp; done) | (refine Z.lookv rfl ?_; simp; omega))) ⟨by simp only; omega, chkA_snoc hf hz hc6, .inr rfl, hs.sub (List.Sublist.cons_cons _ (List.sublist_append_right _ _))⟩ (by simp only; omega)
              )
        )
  · first
      | (exfalso; simp at hc3 <;> omega)
      | (
        (try simp at hc3)
        refine Z.exit ?_
        refine Z.xthen ?_
        refine Z.xthen ?_
        refine Z.xblock ?_
        refine Z.nthen ?_
        refine Z.seq ?_
        refine Z.region ?_
        refine Z.lb 3 rfl ?_
        refine Z.lnil ?_
        refine Z.only [4, 5] rfl ?_
        refine Z.nthen ?_
        refine Z.ret ?_
        -- ret#1
        refine Z.out2 (by exact ⟨rfl, rfl, trivial⟩) ?_
        obtain rfl : k = m := by omega
        rw [List.take_of_length_le (by omega)] at hz ho
        refine ⟨_, rfl, out, by rw [hz], ?_⟩
        unfold resA
        rw [if_pos hz]
        rcases ho with ⟨rfl, rfl, rfl⟩ | rfl
        · obtain rfl : fs = [] := List.eq_nil_of_length_eq_zero hl
          simpa using hs
        · exact hs.sub (List.sublist_append_left [_] _)
        )
end Go.Proofs.Ytcieclifabbkjaa

/- The law's few and act. -/
namespace Go.Proofs.Ytcieclifabbkjaa
open Go.RowKit
set_option linter.unusedSimpArgs false
set_option linter.unusedVariables false

structure ActV where
  what : Int
  v : Int
  n : Int
  bA : Option Addr
  bc : Nat
  bl : List Int
  fA : Option Addr
  fc : Nat
  fl : List (Int × Int)
def encA (x : ActV) : List Value := [.int .i64 x.what, .int .u64 x.v, .int .i64 x.n, .slice x.bA x.bl.length x.bc, .slice x.fA x.fl.length x.fc]
theorem encA_length (x : ActV) : (encA x).length = 5 := rfl
structure GoodA (W : World) (x : ActV) : Prop where
  what : -9223372036854775808 ≤ x.what ∧ x.what ≤ 9223372036854775807
  vn : GoodF (x.v, x.n)
  bl : ∀ b ∈ x.bl, 0 ≤ b ∧ b < 256
  fl : ∀ f ∈ x.fl, GoodF f
  bs : Sl W x.bA (ints .u8 x.bl)
  fs : Sl W x.fA (x.fl.flatMap encF)
  b63 : x.bl.length ≤ maxLen
  f63 : x.fl.length ≤ maxLen
/-- the bits after a call -/
def actB (bs : List Bool) (x : ActV) : List Bool :=
  if x.what = 0 then resA bs [(x.v, x.n)] else if x.what = 1 then bs ++ unb x.bl else if x.what = 2 then resA bs x.fl else pad bs
def fewA (l : List ActV) : Bool := decide (l.length ≤ 40) && l.all fun x => decide (x.bl.length ≤ 40) && decide (x.fl.length ≤ 20)
theorem actB_length {bs : List Bool} {x : ActV} (h1 : x.bl.length ≤ 40) (h2 : x.fl.length ≤ 20) : (actB bs x).length ≤ bs.length + 1280 := by
  unfold actB
  split
  · have := resA_length (bs := bs) (fs := [(x.v, x.n)]); simp at this; omega
  · split
    · simp [unb_length]; omega
    · split
      · have := resA_length (bs := bs) (fs := x.fl); omega
      · rw [pad_length]; omega

/-- a writer and its bits -/
def WbL (g T : Nat) (sv : Value) (sb : Value) (bs : List Bool) : List SX.Ent := WrL g T sv bs ++ [rowB sb bs]

end Go.Proofs.Ytcieclifabbkjaa

/- The reader: Left, At, Get, Align, End, NewReader. -/
namespace Go.Proofs.Ytcieclifabbkjaa
open Go.RowKit
set_option linter.unusedSimpArgs false
set_option linter.unusedVariables false

/-- the value of bits -/
def val (bs : List Bool) : Nat := bs.foldl (fun v b => 2 * v + b.toNat) 0
theorem val_snoc (bs : List Bool) (b : Bool) : val (bs ++ [b]) = 2 * val bs + b.toNat := by simp [val]
theorem val_lt (bs : List Bool) : val bs < 2 ^ bs.length := by
  have h : ∀ n (bs : List Bool), bs.length = n → val bs < 2 ^ n := by
    intro n
    induction n with
    | zero =>
      intro bs h
      obtain rfl := List.eq_nil_of_length_eq_zero h
      simp [val]
    | succ n ih =>
      intro bs h
      have hne : bs ≠ [] := by intro e; subst e; simp at h
      have e := List.dropLast_concat_getLast hne
      rw [← e, val_snoc]
      have := ih bs.dropLast (by simp; omega)
      have hb : (bs.getLast hne).toNat ≤ 1 := by cases bs.getLast hne <;> simp
      rw [Nat.pow_succ]
      omega
  exact h _ bs rfl
theorem val_bd {bs : List Bool} (h : bs.length ≤ 64) : val bs < 18446744073709551616 := by
  have h1 := val_lt bs
  have h2 : 2 ^ bs.length ≤ 2 ^ 64 := Nat.pow_le_pow_right (by decide) h
  have h3 : (2 : Nat) ^ 64 = 18446744073709551616 := by decide
  omega
theorem val_bd63 {bs : List Bool} (h : bs.length ≤ 63) : val bs < 9223372036854775808 := by
  have h1 := val_lt bs
  have h2 : 2 ^ bs.length ≤ 2 ^ 63 := Nat.pow_le_pow_right (by decide) h
  have h3 : (2 : Nat) ^ 63 = 9223372036854775808 := by decide
  omega

/-- a reader at block g -/
def RdL (g T : Nat) (sv : Value) (l : List Int) (at_ : Nat) : List SX.Ent := [SX.Ent.blk g T #[sv, .int .i64 (at_ : Int)], SX.Ent.row sv 5 1 l.length (ints .u8 l)]
def bitsAt (l : List Int) (at_ n : Nat) : List Bool := ((unb l).drop at_).take n
def getE (l : List Int) (at_ : Nat) (wd : Int) : Int := if wd < 0 ∨ 64 < wd then 2 else if (8 * l.length : Int) - at_ < wd then 5 else 0
def getV (l : List Int) (at_ : Nat) (wd : Int) : Int := if getE l at_ wd = 0 then (val (bitsAt l at_ wd.toNat) : Int) else 0
def getA (l : List Int) (at_ : Nat) (wd : Int) : Nat := if getE l at_ wd = 0 then at_ + wd.toNat else at_

set_option maxRecDepth 100000 in
theorem rleft_any (g T : Nat) (sv : Value) (l : List Int) (at_ : Nat) (w : World) (hs : SX.St w (SX.idsOf (RdL g T sv l at_)) w (RdL g T sv l at_)) (hl : l.length ≤ 1000000) (ha : at_ ≤ 8 * l.length) :
    Calls Try.prog 67 #[.pointer (some ⟨g, 0, none⟩)] w (SX.Ret fun r w' => r = .int .i64 ((8 * l.length : Int) - at_) ∧ SX.St w (SX.idsOf (RdL g T sv l at_)) w' (RdL g T sv l at_)) := by
  generalize hM : SX.idsOf (RdL g T sv l at_) = M at *
  simp only [RdL] at hs
  obtain ⟨A, c, rfl, -, -, -⟩ := SX.row_slv hs (j := 1) rfl
  refine Z.enter Try.func67 rfl Try.ntmps67 rfl rfl ?_
  refine Z.seq ?_
  refine Z.region ?_
  refine Z.lb 1 rfl ?_
  refine Z.lnil ?_
  refine Z.only [0] rfl ?_
  refine Z.nthen ?_
  refine Z.seq ?_
  refine Z.seq ?_
  refine Z.region ?_
  refine Z.lb 1 rfl ?_
  refine Z.l rfl rfl (by rfl) (Z.keepS hs) (Z.Yd.ptrNil rfl rfl Try.underlying74) ?_
  refine Z.lnil ?_
  refine Z.only [0, 4] rfl ?_
  refine Z.nthen ?_
  refine Z.cond rfl (fun h => absurd h (by simp)) (fun hc1 => ?_)
  refine Z.skip ?_
  refine Z.nthen ?_
  refine Z.seq ?_
  refine Z.drawK (fun _ => true) mixed hs ?_
  clear hs; intro wd3 hs
  refine Z.tb [0] (by kernel_rfl) rfl ⟨_, hs, by first | (simp; done) | exact fun e he => List.mem_append_right _ he⟩ rfl ?_
  refine Z.t 1 rfl rfl rfl (by rfl) (by kernel_rfl) ⟨_, hs, by first | (simp; done) | exact fun e he => List.mem_append_right _ he⟩ (Z.Yd.nilc rfl rfl) ?_
  refine Z.t 2 rfl rfl rfl (by rfl) (by kernel_rfl) ⟨_, hs, by first | (simp; done) | exact fun e he => List.mem_append_right _ he⟩ (Z.Yd.fieldA (m := 0) rfl (by kernel_rfl)) ?_
  refine Z.t 3 rfl rfl rfl (by rfl) (by kernel_rfl) ⟨_, hs, by first | (simp; done) | exact fun e he => List.mem_append_right _ he⟩ (by first | exact Z.Yd.load rfl Try.isAgg26 (fun _ => Z.cellB (by first | ((repeat (first | exact List.mem_cons_self | refine List.mem_cons_of_mem _ ?_ | refine List.mem_append_right _ ?_)); done) | fail) rfl) | exact Z.Yd.load rfl Try.isAgg26 (fun _ => Z.cellO (by assumption) (by simp) (by assumption)) | fail "load 3.3") ?_
  refine Z.t 4 rfl rfl rfl (by rfl) (by kernel_rfl) ⟨_, hs, by first | (simp; done) | exact fun e he => List.mem_append_right _ he⟩ (Z.Yd.lenS rfl Try.underlying26) ?_
  refine Z.t 5 rfl rfl rfl (by rfl) (by kernel_rfl) ⟨_, hs, by first | (simp; done) | exact fun e he => List.mem_append_right _ he⟩ (Z.Yd.mul rfl rfl (fun hG => Z.wi64 (by first | omega | (have hG' := Z.gh rfl hG; simp at hG'; omega)))) ?_
  refine Z.tb [6] (by kernel_rfl) rfl ⟨_, hs, by first | (simp; done) | exact fun e he => List.mem_append_right _ he⟩ rfl ?_
  refine Z.t 7 rfl rfl rfl (by rfl) (by kernel_rfl) ⟨_, hs, by first | (simp; done) | exact fun e he => List.mem_append_right _ he⟩ (Z.Yd.nilc rfl rfl) ?_
  refine Z.t 8 rfl rfl rfl (by rfl) (by kernel_rfl) ⟨_, hs, by first | (simp; done) | exact fun e he => List.mem_append_right _ he⟩ (Z.Yd.fieldA (m := 1) rfl (by kernel_rfl)) ?_
  refine Z.t 9 rfl rfl rfl (by rfl) (by kernel_rfl) ⟨_, hs, by first | (simp; done) | exact fun e he => List.mem_append_right _ he⟩ (by first | exact Z.Yd.load rfl Try.isAgg3 (fun _ => Z.cellB (by first | ((repeat (first | exact List.mem_cons_self | refine List.mem_cons_of_mem _ ?_ | refine List.mem_append_right _ ?_)); done) | fail) rfl) | exact Z.Yd.load rfl Try.isAgg3 (fun _ => Z.cellO (by assumption) (by simp) (by assumption)) | fail "load 3.9") ?_
  refine Z.t 10 rfl rfl rfl (by rfl) (by kernel_rfl) ⟨_, hs, by first | (simp; done) | exact fun e he => List.mem_append_right _ he⟩ (Z.Yd.sub rfl rfl (fun hG => Z.wi64 (by first | omega | (have hG' := Z.gh rfl hG; simp at hG'; omega)))) ?_
  refine Z.tb [11] (by kernel_rfl) rfl ⟨_, hs, by first | (simp; done) | exact fun e he => List.mem_append_right _ he⟩ rfl ?_
  refine Z.td (by rfl) (by kernel_rfl) ?_
  refine Z.only [2] rfl ?_
  refine Z.nthen ?_
  refine Z.ret ?_
  -- ret#0
  refine Z.out1 (by exact ⟨rfl, trivial⟩) ?_
  first | exact ⟨_, rfl, rfl, hs⟩ | exact ⟨_, rfl, rfl, hs.sub (List.nil_sublist _)⟩
theorem newreader_any (A : Option Addr) (n c : Nat) (l : List Int) (w : World) (hx : Sx w [] A (ints .u8 l)) (hl : l.length = n) (hn : n ≤ 100000000) (hz : A = none → n = 0) :
    Calls Try.prog 39 #[.slice A n c] w (SX.Ret fun r w' => ∃ g sv, r = .pointer (some ⟨g, 0, none⟩) ∧ SX.St w [] w' (RdL g 107 sv l 0)) := by
  have hs := SX.St.start w
  subst hl
  refine Z.enter Try.func39 rfl Try.ntmps39 rfl rfl ?_
  refine Z.seq ?_
  refine Z.region ?_
  refine Z.lb 1 rfl ?_
  refine Z.lnil ?_
  refine Z.only [0] rfl ?_
  refine Z.nthen ?_
  refine Z.seq ?_
  refine Z.region ?_
  refine Z.lb 1 rfl ?_
  refine Z.le rfl trivial ?_
  refine Z.ZO.call rfl rfl (by rfl) rfl rfl Try.call55 rfl (clone8 [] A _ c l _ ((hx.st hs).sx) rfl hn hz) ?_
  rintro v1_1 w1_1 hy
  replace hs := hs.call hy
  clear hy
  try simp only [List.cons_append, List.nil_append, List.append_nil] at hs
  obtain ⟨Av, cv, rfl, -, -, -⟩ := SX.row_slv hs (j := 0) rfl
  refine Z.l rfl rfl (by rfl) (Z.keepS hs) (Z.Yd.build rfl (by intro w; go_simp; try rfl)) ?_
  refine Z.le rfl trivial ?_
  refine Z.ZO.box rfl rfl (by rfl) rfl rfl hs ?_
  clear hs; intro g6 w6 hs
  refine Z.lb 1 rfl ?_
  refine Z.lnil ?_
  refine Z.only [2] rfl ?_
  refine Z.nthen ?_
  refine Z.ret ?_
  -- ret#0
  refine Z.out1 (by exact ⟨rfl, trivial⟩) ?_
  exact ⟨_, rfl, _, _, rfl, hs⟩

theorem and_one8 (x : Int) (k : Nat) (h0 : 0 ≤ x) (hx : x < 256) : IntKind.u8.wrap ((BitVec.ofInt IntKind.u8.bits (x.fdiv (2 ^ (min ((7 : Int) - (k : Int) % 8).toNat IntKind.u8.bits))) &&& BitVec.ofInt IntKind.u8.bits 1).toNat : Int) = bi (x.toNat.testBit (7 - k % 8)) := by
  obtain ⟨n, rfl⟩ := Int.eq_ofNat_of_zero_le h0
  have e : min ((7 : Int) - (k : Int) % 8).toNat IntKind.u8.bits = 7 - k % 8 := by
    have : IntKind.u8.bits = 8 := rfl
    omega
  rw [e, Int.fdiv_eq_ediv_of_nonneg _ (Int.le_of_lt (Int.pow_pos (by decide))), testBit_bi, Int.toNat_natCast]
  have e2 : ((n : Int) / 2 ^ (7 - k % 8)) = ((n / 2 ^ (7 - k % 8) : Nat) : Int) := by push_cast; rfl
  rw [e2]
  have h1 : n / 2 ^ (7 - k % 8) ≤ n := Nat.div_le_self _ _
  generalize n / 2 ^ (7 - k % 8) = q at *
  have e1 : (BitVec.ofInt 8 (q : Int)).toNat = q := by rw [BitVec.ofInt_natCast, BitVec.toNat_ofNat]; exact Nat.mod_eq_of_lt (by omega)
  have e3 : (BitVec.ofInt 8 (1 : Int)).toNat = 1 := by decide
  have e4 : ((BitVec.ofInt 8 (q : Int)) &&& (BitVec.ofInt 8 (1 : Int))).toNat = q % 2 := by rw [BitVec.toNat_and, e1, e3, Nat.and_one_is_mod]
  show IntKind.u8.wrap (((BitVec.ofInt 8 (q : Int)) &&& (BitVec.ofInt 8 (1 : Int))).toNat : Int) = _
  rw [e4]
  exact Z.wu8 (by omega)
theorem u64_or (x y : Nat) (i m : Nat) (hx : x = 2 ^ i * m) (hy : y < 2 ^ i) (h : x + y < 18446744073709551616) : IntKind.u64.wrap ((BitVec.ofInt IntKind.u64.bits (x : Int) ||| BitVec.ofInt IntKind.u64.bits (y : Int)).toNat : Int) = ((x + y : Nat) : Int) := by
  have e1 : (BitVec.ofInt 64 (x : Int)).toNat = x := by rw [BitVec.ofInt_natCast, BitVec.toNat_ofNat]; exact Nat.mod_eq_of_lt (by omega)
  have e2 : (BitVec.ofInt 64 (y : Int)).toNat = y := by rw [BitVec.ofInt_natCast, BitVec.toNat_ofNat]; exact Nat.mod_eq_of_lt (by omega)
  have e3 : (BitVec.ofInt 64 (x : Int) ||| BitVec.ofInt 64 (y : Int)).toNat = x + y := by rw [BitVec.toNat_or, e1, e2, hx, ← Nat.two_pow_add_eq_or_of_lt hy, ← hx]
  show IntKind.u64.wrap (((BitVec.ofInt 64 (x : Int)) ||| (BitVec.ofInt 64 (y : Int))).toNat : Int) = _
  rw [e3]
  exact Z.wu64 (by omega)
theorem or_bit (v : Nat) (b : Bool) (hv : v < 9223372036854775808) : IntKind.u64.wrap ((BitVec.ofInt IntKind.u64.bits ((v : Int) * 2) ||| BitVec.ofInt IntKind.u64.bits (bi b)).toNat : Int) = ((2 * v + b.toNat : Nat) : Int) := by
  have := u64_or (2 * v) b.toNat 1 v (by omega) (by cases b <;> simp) (by cases b <;> simp <;> omega)
  rw [bi_nat, show ((v : Int) * 2) = ((2 * v : Nat) : Int) from by push_cast; omega]
  exact this

theorem bitsAt_length {l : List Int} {a n : Nat} (h : a + n ≤ l.length * 8) : (bitsAt l a n).length = n := by
  simp [bitsAt, unb_length]
  omega
theorem bitsAt_snoc {l : List Int} {a k : Nat} (h : a + k < l.length * 8) : bitsAt l a (k + 1) = bitsAt l a k ++ [(elt l (((a + k : Nat) : Int) / 8)).toNat.testBit (7 - (a + k) % 8)] := by
  have hg := unb_get (l := l) (k := a + k) h
  have : ((unb l).drop a)[k]? = some ((elt l (((a + k : Nat) : Int) / 8)).toNat.testBit (7 - (a + k) % 8)) := by
    rw [List.getElem?_drop]
    exact hg
  unfold bitsAt
  rw [← take_snoc this]

set_option maxRecDepth 100000 in
theorem rget_any (g T : Nat) (sv : Value) (l : List Int) (at_ : Nat) (wd : Int) (w : World) (hs : SX.St w (SX.idsOf (RdL g T sv l at_)) w (RdL g T sv l at_)) (hl : l.length ≤ 1000000) (ha : at_ ≤ 8 * l.length) (hb : ∀ x ∈ l, 0 ≤ x ∧ x < 256) :
    Calls Try.prog 66 #[.pointer (some ⟨g, 0, none⟩), .int .i64 wd] w (SX.Ret fun r w' => r = .tuple #[.int .u64 (getV l at_ wd), .int .i64 (getE l at_ wd)] ∧ SX.St w (SX.idsOf (RdL g T sv l at_)) w' (RdL g T sv l (getA l at_ wd))) := by
  generalize hM : SX.idsOf (RdL g T sv l at_) = M at *
  refine Z.enter Try.func66 rfl Try.ntmps66 rfl rfl ?_
  refine Z.seq ?_
  refine Z.region ?_
  refine Z.lb 2 rfl ?_
  refine Z.lnil ?_
  refine Z.only [0, 1, 4] rfl ?_
  refine Z.nthen ?_
  refine Z.seq ?_
  refine Z.block ?_
  refine Z.seq ?_
  refine Z.region ?_
  refine Z.lb 1 rfl ?_
  refine Z.l rfl rfl (by rfl) (Z.keepS hs) (Z.Yd.ptrNil rfl rfl Try.underlying74) ?_
  refine Z.lb 1 rfl ?_
  refine Z.lnil ?_
  refine Z.only [0, 1, 4, 6] rfl ?_
  refine Z.nthen ?_
  refine Z.cond rfl (fun h => absurd h (by simp)) (fun hc1 => ?_)
  refine Z.seq ?_
  refine Z.region ?_
  refine Z.lb 7 rfl ?_
  refine Z.lnil ?_
  refine Z.only [0, 1, 4, 9] rfl ?_
  refine Z.nthen ?_
  refine Z.cond rfl (fun hc3 => ?_) (fun hc3 => ?_)
  · first
      | (exfalso; simp at hc3 <;> omega)
      | (
        (try simp at hc3)
        refine Z.seq ?_
        refine Z.region ?_
        refine Z.lb 2 rfl ?_
        refine Z.lnil ?_
        refine Z.only [4, 5] rfl ?_
        refine Z.nthen ?_
        refine Z.ret ?_
        repeat (first | refine Z.rthen ?_ | refine Z.rblock ?_ | refine Z.rscope ?_)
        -- ret#0
        refine Z.out2 (by exact ⟨rfl, rfl, trivial⟩) ?_
        have e : getE l at_ wd = 2 := by unfold getE; rw [if_pos (by omega)]
        refine ⟨_, rfl, by unfold getV; rw [e]; rfl, ?_⟩
        unfold getA; rw [e]
        exact hs
        )
  · first
      | (exfalso; simp at hc3 <;> omega)
      | (
        (try simp at hc3)
        refine Z.seq ?_
        refine Z.region ?_
        refine Z.lb 2 rfl ?_
        refine Z.le rfl trivial ?_
        refine Z.ZO.call rfl rfl (by rfl) rfl rfl Try.call67 rfl (rleft_any g T sv l at_ _ hs.all hl ha) ?_
        rintro v5_2 w5_2 ⟨rfl, hz⟩
        replace hs := hs.regainAll hz
        refine Z.lb 2 rfl ?_
        refine Z.lnil ?_
        refine Z.only [0, 1, 4, 16] rfl ?_
        refine Z.nthen ?_
        refine Z.cond rfl (fun hc5 => ?_) (fun hc5 => ?_)
        · first
            | (exfalso; simp at hc5 <;> omega)
            | (
              (try simp at hc5)
              refine Z.seq ?_
              refine Z.region ?_
              refine Z.lb 2 rfl ?_
              refine Z.lnil ?_
              refine Z.only [4, 5] rfl ?_
              refine Z.nthen ?_
              refine Z.ret ?_
              repeat (first | refine Z.rthen ?_ | refine Z.rblock ?_ | refine Z.rscope ?_)
              -- ret#1
              refine Z.out2 (by exact ⟨rfl, rfl, trivial⟩) ?_
              have e : getE l at_ wd = 5 := by unfold getE; rw [if_neg (by omega), if_pos (by omega)]
              refine ⟨_, rfl, by unfold getV; rw [e]; rfl, ?_⟩
              unfold getA; rw [e]
              exact hs
              )
        · first
            | (exfalso; simp at hc5 <;> omega)
            | (
              (try simp at hc5)
              refine Z.skip ?_
              refine Z.nblock ?_
              refine Z.nthen ?_
              refine Z.seq ?_
              refine Z.seq ?_
              refine Z.region ?_
              have e : getE l at_ wd = 0 := by unfold getE; rw [if_neg (by omega), if_neg (by omega)]
              obtain ⟨wd, rfl⟩ := Int.eq_ofNat_of_zero_le (show 0 ≤ wd by omega)
              refine Z.l rfl rfl (by rfl) (Z.keepS hs) (Z.Yd.pure rfl) ?_
              refine Z.lb 1 rfl ?_
              refine Z.lnil ?_
              refine Z.only [0, 4, 21, 22] rfl ?_
              refine Z.nthen ?_
              refine Z.block ?_
              refine Z.loopk (ι := Nat) [0, 21] rfl (fun k => [(4, [], .int .u64 (val (bitsAt l at_ k) : Int)), (22, [], .int .i64 (k : Int))]) (fun k wr => k ≤ wd ∧ SX.St w M wr [SX.Ent.blk g T #[sv, .int .i64 ((at_ + k : Nat) : Int)], SX.Ent.row sv 5 1 l.length (ints .u8 l)]) (fun k => wd - k) 0 (by refine ⟨?_, ?_, trivial⟩ <;> (first | rfl | (refine Z.lookv rfl ?_; simp; done) | (refine Z.lookv rfl ?_; simp; omega))) ⟨by omega, hs⟩ ?_
              clear hs
              rintro k w1 ⟨hkn, hs⟩
              refine Z.only [0, 4, 21, 22] rfl ?_
              refine Z.seq ?_
              refine Z.region ?_
              refine Z.lb 1 rfl ?_
              refine Z.lnil ?_
              refine Z.only [0, 4, 21, 22, 23] rfl ?_
              refine Z.nthen ?_
              refine Z.seq ?_
              refine Z.cond rfl (fun hc8 => ?_) (fun hc8 => ?_)
              · first
                  | (exfalso; simp at hc8 <;> omega)
                  | (
                    (try simp at hc8)
                    obtain ⟨g1, cap1, rfl, hc1, hc2⟩ := row_form (j := 1) hs rfl (by omega)
                    have hv := val_bd63 (bs := bitsAt l at_ k) (by rw [bitsAt_length (by omega)]; omega)
                    have he := hb _ (Z.elt_mem (l := l) (z := ((at_ + k : Nat) : Int) / 8) (by omega) (by omega))
                    refine Z.skip ?_
                    refine Z.nthen ?_
                    refine Z.seq ?_
                    refine Z.block ?_
                    refine Z.seq ?_
                    refine Z.drawK (fun _ => true) mixed hs ?_
                    clear hs; intro wd9 hs
                    refine Z.tb [0] (by kernel_rfl) rfl ⟨_, hs, by first | (simp; done) | exact fun e he => List.mem_append_right _ he⟩ rfl ?_
                    refine Z.t 1 rfl rfl rfl (by rfl) (by kernel_rfl) ⟨_, hs, by first | (simp; done) | exact fun e he => List.mem_append_right _ he⟩ (Z.Yd.shl rfl rfl (by intro hG; decide) (by intro hG; first | exact Z.shll (c := 2) rfl (Z.wu64 (by omega)) | exact Z.shll (c := 2) rfl rfl)) ?_
                    refine Z.tb [2] (by kernel_rfl) rfl ⟨_, hs, by first | (simp; done) | exact fun e he => List.mem_append_right _ he⟩ rfl ?_
                    refine Z.t 3 rfl rfl rfl (by rfl) (by kernel_rfl) ⟨_, hs, by first | (simp; done) | exact fun e he => List.mem_append_right _ he⟩ (Z.Yd.nilc rfl rfl) ?_
                    refine Z.t 4 rfl rfl rfl (by rfl) (by kernel_rfl) ⟨_, hs, by first | (simp; done) | exact fun e he => List.mem_append_right _ he⟩ (Z.Yd.fieldA (m := 0) rfl (by kernel_rfl)) ?_
                    refine Z.t 5 rfl rfl rfl (by rfl) (by kernel_rfl) ⟨_, hs, by first | (simp; done) | exact fun e he => List.mem_append_right _ he⟩ (by first | exact Z.Yd.load rfl Try.isAgg26 (fun _ => Z.cellB (by first | ((repeat (first | exact List.mem_cons_self | refine List.mem_cons_of_mem _ ?_ | refine List.mem_append_right _ ?_)); done) | fail) rfl) | exact Z.Yd.load rfl Try.isAgg26 (fun _ => Z.cellO (by assumption) (by simp) (by assumption)) | fail "load 9.5") ?_
                    refine Z.tb [6] (by kernel_rfl) rfl ⟨_, hs, by first | (simp; done) | exact fun e he => List.mem_append_right _ he⟩ rfl ?_
                    refine Z.t 7 rfl rfl rfl (by rfl) (by kernel_rfl) ⟨_, hs, by first | (simp; done) | exact fun e he => List.mem_append_right _ he⟩ (Z.Yd.nilc rfl rfl) ?_
                    refine Z.t 8 rfl rfl rfl (by rfl) (by kernel_rfl) ⟨_, hs, by first | (simp; done) | exact fun e he => List.mem_append_right _ he⟩ (Z.Yd.fieldA (m := 1) rfl (by kernel_rfl)) ?_
                    refine Z.t 9 rfl rfl rfl (by rfl) (by kernel_rfl) ⟨_, hs, by first | (simp; done) | exact fun e he => List.mem_append_right _ he⟩ (by first | exact Z.Yd.load rfl Try.isAgg3 (fun _ => Z.cellB (by first | ((repeat (first | exact List.mem_cons_self | refine List.mem_cons_of_mem _ ?_ | refine List.mem_append_right _ ?_)); done) | fail) rfl) | exact Z.Yd.load rfl Try.isAgg3 (fun _ => Z.cellO (by assumption) (by simp) (by assumption)) | fail "load 9.9") ?_
                    refine Z.t 10 rfl rfl rfl (by rfl) (by kernel_rfl) ⟨_, hs, by first | (simp; done) | exact fun e he => List.mem_append_right _ he⟩ (Z.Yd.quo rfl rfl (by intro hG; first | decide | omega) (by intro hG; first | exact Z.qi64 ⟨by omega, by omega⟩ (by omega) | exact rfl)) ?_
                    refine Z.t 11 rfl rfl rfl (by rfl) (by kernel_rfl) ⟨_, hs, by first | (simp; done) | exact fun e he => List.mem_append_right _ he⟩ (Z.Yd.elem rfl rfl Try.underlying26 Try.sizeOf5 (fun hG => ⟨(by first | omega | (have hG' := Z.gh rfl hG; simp at hG'; omega)), (by first | omega | (have hG' := Z.gh rfl hG; simp at hG'; omega))⟩)) ?_
                    refine Z.t 12 rfl rfl rfl (by rfl) (by kernel_rfl) ⟨_, hs, by first | (simp; done) | exact fun e he => List.mem_append_right _ he⟩ (by first | exact Z.Yd.load rfl Try.isAgg5 (fun hG => Z.cellR (by first | ((repeat (first | exact List.mem_cons_self | refine List.mem_cons_of_mem _ ?_ | refine List.mem_append_right _ ?_)); done) | fail) (Z.ints_at (by first | omega | (have hG' := Z.gh rfl hG; simp at hG'; omega)) (by first | omega | (have hG' := Z.gh rfl hG; simp at hG'; omega)))) | exact Z.Yd.load rfl Try.isAgg5 (fun hG => Z.cellXi (by assumption) (by first | omega | (have hG' := Z.gh rfl hG; simp at hG'; omega)) (by first | omega | (have hG' := Z.gh rfl hG; simp at hG'; omega))) | exact Z.Yd.load rfl Try.isAgg5 (fun hG => Z.cellS (by assumption) rfl (by first | omega | (have hG' := Z.gh rfl hG; simp at hG'; omega)) (by first | omega | (have hG' := Z.gh rfl hG; simp at hG'; omega))) | fail "load 9.12") ?_
                    refine Z.tb [13] (by kernel_rfl) rfl ⟨_, hs, by first | (simp; done) | exact fun e he => List.mem_append_right _ he⟩ rfl ?_
                    refine Z.t 14 rfl rfl rfl (by rfl) (by kernel_rfl) ⟨_, hs, by first | (simp; done) | exact fun e he => List.mem_append_right _ he⟩ (Z.Yd.nilc rfl rfl) ?_
                    refine Z.t 15 rfl rfl rfl (by rfl) (by kernel_rfl) ⟨_, hs, by first | (simp; done) | exact fun e he => List.mem_append_right _ he⟩ (Z.Yd.fieldA (m := 1) rfl (by kernel_rfl)) ?_
                    refine Z.t 16 rfl rfl rfl (by rfl) (by kernel_rfl) ⟨_, hs, by first | (simp; done) | exact fun e he => List.mem_append_right _ he⟩ (by first | exact Z.Yd.load rfl Try.isAgg3 (fun _ => Z.cellB (by first | ((repeat (first | exact List.mem_cons_self | refine List.mem_cons_of_mem _ ?_ | refine List.mem_append_right _ ?_)); done) | fail) rfl) | exact Z.Yd.load rfl Try.isAgg3 (fun _ => Z.cellO (by assumption) (by simp) (by assumption)) | fail "load 9.16") ?_
                    refine Z.t 17 rfl rfl rfl (by rfl) (by kernel_rfl) ⟨_, hs, by first | (simp; done) | exact fun e he => List.mem_append_right _ he⟩ (Z.Yd.rem rfl rfl (by intro hG; first | decide | omega) (by intro hG; first | exact Z.tmodn (by omega) | exact rfl)) ?_
                    refine Z.t 18 rfl rfl rfl (by rfl) (by kernel_rfl) ⟨_, hs, by first | (simp; done) | exact fun e he => List.mem_append_right _ he⟩ (Z.Yd.sub rfl rfl (fun hG => Z.wi64 (by first | omega | (have hG' := Z.gh rfl hG; simp at hG'; omega)))) ?_
                    refine Z.t 19 rfl rfl rfl (by rfl) (by kernel_rfl) ⟨_, hs, by first | (simp; done) | exact fun e he => List.mem_append_right _ he⟩ (Z.Yd.shr rfl rfl (by intro hG; first | decide | omega) (fun _ => rfl)) ?_
                    refine Z.t 20 rfl rfl rfl (by rfl) (by kernel_rfl) ⟨_, hs, by first | (simp; done) | exact fun e he => List.mem_append_right _ he⟩ (Z.Yd.and rfl rfl (fun _ => and_one8 _ (at_ + k) he.1 he.2)) ?_
                    refine Z.t 21 rfl rfl rfl (by rfl) (by kernel_rfl) ⟨_, hs, by first | (simp; done) | exact fun e he => List.mem_append_right _ he⟩ (Z.Yd.convI rfl ⟨_, Try.underlying5⟩ Try.underlying62 (fun _ => Z.wu64 (by have := bi_bd ((elt l (((at_ + k : Nat) : Int) / 8)).toNat.testBit (7 - (at_ + k) % 8)); omega))) ?_
                    refine Z.t 22 rfl rfl rfl (by rfl) (by kernel_rfl) ⟨_, hs, by first | (simp; done) | exact fun e he => List.mem_append_right _ he⟩ (Z.Yd.or rfl rfl (fun _ => or_bit _ _ hv)) ?_
                    refine Z.tb [23] (by kernel_rfl) rfl ⟨_, hs, by first | (simp; done) | exact fun e he => List.mem_append_right _ he⟩ rfl ?_
                    refine Z.td (by rfl) (by kernel_rfl) ?_
                    refine Z.only [0, 4, 21, 22] rfl ?_
                    refine Z.nthen ?_
                    refine Z.region ?_
                    refine Z.lb 1 rfl ?_
                    refine Z.l rfl rfl (by rfl) (Z.keepS hs) (Z.Yd.nilc rfl rfl) ?_
                    refine Z.l rfl rfl (by rfl) (Z.keepS hs) (Z.Yd.fieldA (m := 1) rfl (by kernel_rfl)) ?_
                    refine Z.l rfl rfl (by rfl) (Z.keepS hs) (by first | exact Z.Yd.load rfl Try.isAgg3 (fun _ => Z.cellB (by first | ((repeat (first | exact List.mem_cons_self | refine List.mem_cons_of_mem _ ?_ | refine List.mem_append_right _ ?_)); done) | fail) rfl) | exact Z.Yd.load rfl Try.isAgg3 (fun _ => Z.cellO (by assumption) (by simp) (by assumption)) | fail "load 10.3") ?_
                    refine Z.l rfl rfl (by rfl) (Z.keepS hs) (Z.Yd.add rfl rfl (fun hG => Z.wi64 (by first | omega | (have hG' := Z.gh rfl hG; simp at hG'; omega)))) ?_
                    refine Z.l rfl rfl (by rfl) (Z.keepS hs) (Z.Yd.nilc rfl rfl) ?_
                    refine Z.l rfl rfl (by rfl) (Z.keepS hs) (Z.Yd.fieldA (m := 1) rfl (by kernel_rfl)) ?_
                    refine Z.le rfl trivial ?_
                    first | refine Z.ZO.store rfl rfl hs Try.sizeOf3 rfl rfl rfl (by first | exact SX.at0 | exact SX.at1 | exact SX.at2 | exact SX.at3 | exact SX.at4 | exact SX.at5 | exact Z.at6 | exact Z.at7 | exact Z.at8 | exact Z.at9 | exact Z.at10 | exact Z.at11 | exact Z.at12) (by first | (simp; done) | (simp; omega)) ?_ | refine Z.ZO.storeR rfl rfl hs Try.sizeOf3 rfl rfl rfl (by first | exact SX.at0 | exact SX.at1 | exact SX.at2 | exact SX.at3 | exact SX.at4 | exact SX.at5 | exact Z.at6 | exact Z.at7 | exact Z.at8 | exact Z.at9 | exact Z.at10 | exact Z.at11 | exact Z.at12) (by first | omega | (simp [ints_length]; done) | (simp [ints_length]; omega)) ?_
                    clear hs; intro ws hs
                    simp only [Nat.zero_add, Nat.add_zero, Nat.reduceAdd, Int.reduceToNat, Nat.reduceMul, List.set_cons_zero, List.set_cons_succ, List.setIfInBounds_toArray] at hs
                    refine Z.lnil ?_
                    refine Z.only [0, 4, 21, 22] rfl ?_
                    refine Z.nblock ?_
                    refine Z.nthen ?_
                    refine Z.region ?_
                    refine Z.l rfl rfl (by rfl) (Z.keepS hs) (Z.Yd.add rfl rfl (fun hG => Z.wi64 (by first | omega | (have hG' := Z.gh rfl hG; simp at hG'; omega)))) ?_
                    refine Z.lb 1 rfl ?_
                    refine Z.lnil ?_
                    refine Z.only [0, 4, 21, 22] rfl ?_
                    refine Z.nthen ?_
                    have e2 : ((at_ + k : Nat) : Int) + 1 = ((at_ + (k + 1) : Nat) : Int) := by push_cast; omega
                    rw [e2] at hs
                    refine Z.again (k + 1) ?_ ⟨by omega, hs⟩ (by omega)
                    rw [bitsAt_snoc (by omega), val_snoc]
                    exact (by refine ⟨?_, ?_, ?_, ?_, trivial⟩ <;> (first | rfl | (refine Z.lookv rfl ?_; simp; done) | (refine Z.lookv rfl ?_; simp; omega)))
                    )
              · first
                  | (exfalso; simp at hc8 <;> omega)
                  | (
                    (try simp at hc8)
                    refine Z.exit ?_
                    refine Z.xthen ?_
                    refine Z.xthen ?_
                    refine Z.xblock ?_
                    refine Z.nthen ?_
                    refine Z.seq ?_
                    refine Z.region ?_
                    refine Z.lb 3 rfl ?_
                    refine Z.lnil ?_
                    refine Z.only [4, 5] rfl ?_
                    refine Z.nthen ?_
                    refine Z.ret ?_
                    -- ret#2
                    refine Z.out2 (by exact ⟨rfl, rfl, trivial⟩) ?_
                    obtain rfl : k = wd := by omega
                    refine ⟨_, rfl, by unfold getV; rw [e]; rfl, ?_⟩
                    unfold getA; rw [e]
                    exact hs
                    )
              )
        )
end Go.Proofs.Ytcieclifabbkjaa

/- The reader: Align, End. -/
namespace Go.Proofs.Ytcieclifabbkjaa
open Go.RowKit
set_option linter.unusedSimpArgs false
set_option linter.unusedVariables false

/-- bits up to the next byte -/
def toByte (a : Nat) : Nat := (8 - a % 8) % 8
def alE (l : List Int) (a : Nat) : Int := if val (bitsAt l a (toByte a)) = 0 then 0 else 9
def alA (l : List Int) (a : Nat) : Nat := if val (bitsAt l a (toByte a)) = 0 then a + toByte a else a
def endE (l : List Int) (a : Nat) : Int := if 8 ≤ 8 * l.length - a then 9 else alE l a
theorem getE_ok {l : List Int} {a : Nat} {n : Nat} (h : a + n ≤ 8 * l.length) (h2 : n ≤ 64) : getE l a (n : Int) = 0 := by
  unfold getE
  rw [if_neg (by omega), if_neg (by omega)]

theorem ralign_any (g T : Nat) (sv : Value) (l : List Int) (at_ : Nat) (w : World) (hs : SX.St w (SX.idsOf (RdL g T sv l at_)) w (RdL g T sv l at_)) (hl : l.length ≤ 1000000) (ha : at_ ≤ 8 * l.length) (hb : ∀ x ∈ l, 0 ≤ x ∧ x < 256) :
    Calls Try.prog 68 #[.pointer (some ⟨g, 0, none⟩)] w (SX.Ret fun r w' => r = .int .i64 (alE l at_) ∧ SX.St w (SX.idsOf (RdL g T sv l at_)) w' (RdL g T sv l (alA l at_))) := by
  generalize hM : SX.idsOf (RdL g T sv l at_) = M at *
  have htb : ((8 - (at_ : Int) % 8) % 8) = (toByte at_ : Int) := by unfold toByte; omega
  have ht8 : toByte at_ < 8 ∧ at_ + toByte at_ ≤ 8 * l.length := by unfold toByte; omega
  have he := getE_ok (l := l) (a := at_) (n := toByte at_) ht8.2 (by omega)
  have hv : getV l at_ (toByte at_ : Int) = (val (bitsAt l at_ (toByte at_)) : Int) := by unfold getV; rw [if_pos he, Int.toNat_natCast]
  have hA : getA l at_ (toByte at_ : Int) = at_ + toByte at_ := by unfold getA; rw [if_pos he, Int.toNat_natCast]
  have hvb := val_bd (bs := bitsAt l at_ (toByte at_)) (by rw [bitsAt_length (by omega)]; omega)
  simp only [RdL] at hs
  refine Z.enter Try.func68 rfl Try.ntmps68 rfl rfl ?_
  refine Z.seq ?_
  refine Z.region ?_
  refine Z.lb 1 rfl ?_
  refine Z.lnil ?_
  refine Z.only [0] rfl ?_
  refine Z.nthen ?_
  refine Z.seq ?_
  refine Z.seq ?_
  refine Z.region ?_
  refine Z.lb 1 rfl ?_
  refine Z.l rfl rfl (by rfl) (Z.keepS hs) (Z.Yd.ptrNil rfl rfl Try.underlying74) ?_
  refine Z.lnil ?_
  refine Z.only [0, 7] rfl ?_
  refine Z.nthen ?_
  refine Z.cond rfl (fun h => absurd h (by simp)) (fun hc1 => ?_)
  refine Z.skip ?_
  refine Z.nthen ?_
  refine Z.seq ?_
  refine Z.region ?_
  refine Z.lb 1 rfl ?_
  refine Z.l rfl rfl (by rfl) (Z.keepS hs) (Z.Yd.nilc rfl rfl) ?_
  refine Z.l rfl rfl (by rfl) (Z.keepS hs) (Z.Yd.fieldA (m := 1) rfl (by kernel_rfl)) ?_
  refine Z.l rfl rfl (by rfl) (Z.keepS hs) (by first | exact Z.Yd.load rfl Try.isAgg3 (fun _ => Z.cellB (by first | ((repeat (first | exact List.mem_cons_self | refine List.mem_cons_of_mem _ ?_ | refine List.mem_append_right _ ?_)); done) | fail) rfl) | exact Z.Yd.load rfl Try.isAgg3 (fun _ => Z.cellO (by assumption) (by simp) (by assumption)) | fail "load 3.3") ?_
  refine Z.l rfl rfl (by rfl) (Z.keepS hs) (Z.Yd.rem rfl rfl (by intro hG; first | decide | omega) (by intro hG; first | exact Z.tmodn (by omega) | exact rfl)) ?_
  refine Z.l rfl rfl (by rfl) (Z.keepS hs) (Z.Yd.sub rfl rfl (fun hG => Z.wi64 (by first | omega | (have hG' := Z.gh rfl hG; simp at hG'; omega)))) ?_
  refine Z.l rfl rfl (by rfl) (Z.keepS hs) (Z.Yd.rem rfl rfl (by intro hG; first | decide | omega) (by intro hG; first | exact Z.tmodn (by omega) | exact rfl)) ?_
  refine Z.lb 1 rfl ?_
  refine Z.lnil ?_
  refine Z.only [0, 3] rfl ?_
  refine Z.nthen ?_
  refine Z.seq ?_
  refine Z.region ?_
  refine Z.lb 2 rfl ?_
  rw [htb]
  refine Z.le rfl trivial ?_
  refine Z.ZO.call rfl rfl (by rfl) rfl rfl Try.call66 rfl (rget_any g T sv l at_ (toByte at_) _ hs.all hl ha hb) ?_
  rintro v4_2 w4_2 ⟨rfl, hz⟩
  replace hs := hs.regainAll hz
  rw [he, hv, hA] at *
  simp only [RdL] at hs
  refine Z.lb 5 rfl ?_
  refine Z.lnil ?_
  refine Z.only [0, 3, 4] rfl ?_
  refine Z.nthen ?_
  refine Z.seq ?_
  refine Z.seq ?_
  refine Z.region ?_
  refine Z.lb 2 rfl ?_
  refine Z.lnil ?_
  refine Z.only [0, 3, 22] rfl ?_
  refine Z.nthen ?_
  refine Z.cond rfl (fun hc5 => ?_) (fun hc5 => ?_)
  · first
      | (exfalso; simp at hc5 <;> omega)
      | (
        (try simp at hc5)
        refine Z.seq ?_
        refine Z.region ?_
        refine Z.lb 1 rfl ?_
        refine Z.l rfl rfl (by rfl) (Z.keepS hs) (Z.Yd.nilc rfl rfl) ?_
        refine Z.l rfl rfl (by rfl) (Z.keepS hs) (Z.Yd.fieldA (m := 1) rfl (by kernel_rfl)) ?_
        refine Z.l rfl rfl (by rfl) (Z.keepS hs) (by first | exact Z.Yd.load rfl Try.isAgg3 (fun _ => Z.cellB (by first | ((repeat (first | exact List.mem_cons_self | refine List.mem_cons_of_mem _ ?_ | refine List.mem_append_right _ ?_)); done) | fail) rfl) | exact Z.Yd.load rfl Try.isAgg3 (fun _ => Z.cellO (by assumption) (by simp) (by assumption)) | fail "load 6.3") ?_
        refine Z.lb 1 rfl ?_
        refine Z.l rfl rfl (by rfl) (Z.keepS hs) (Z.Yd.sub rfl rfl (fun hG => Z.wi64 (by first | omega | (have hG' := Z.gh rfl hG; simp at hG'; omega)))) ?_
        refine Z.l rfl rfl (by rfl) (Z.keepS hs) (Z.Yd.nilc rfl rfl) ?_
        refine Z.l rfl rfl (by rfl) (Z.keepS hs) (Z.Yd.fieldA (m := 1) rfl (by kernel_rfl)) ?_
        refine Z.le rfl trivial ?_
        first | refine Z.ZO.store rfl rfl hs Try.sizeOf3 rfl rfl rfl (by first | exact SX.at0 | exact SX.at1 | exact SX.at2 | exact SX.at3 | exact SX.at4 | exact SX.at5 | exact Z.at6 | exact Z.at7 | exact Z.at8 | exact Z.at9 | exact Z.at10 | exact Z.at11 | exact Z.at12) (by first | (simp; done) | (simp; omega)) ?_ | refine Z.ZO.storeR rfl rfl hs Try.sizeOf3 rfl rfl rfl (by first | exact SX.at0 | exact SX.at1 | exact SX.at2 | exact SX.at3 | exact SX.at4 | exact SX.at5 | exact Z.at6 | exact Z.at7 | exact Z.at8 | exact Z.at9 | exact Z.at10 | exact Z.at11 | exact Z.at12) (by first | omega | (simp [ints_length]; done) | (simp [ints_length]; omega)) ?_
        clear hs; intro ws hs
        simp only [Nat.zero_add, Nat.add_zero, Nat.reduceAdd, Int.reduceToNat, Nat.reduceMul, List.set_cons_zero, List.set_cons_succ, List.setIfInBounds_toArray] at hs
        refine Z.lnil ?_
        refine Z.only [] rfl ?_
        refine Z.nthen ?_
        refine Z.seq ?_
        refine Z.region ?_
        refine Z.lb 1 rfl ?_
        refine Z.lnil ?_
        refine Z.only [2] rfl ?_
        refine Z.nthen ?_
        refine Z.ret ?_
        repeat (first | refine Z.rthen ?_ | refine Z.rblock ?_ | refine Z.rscope ?_)
        -- ret#0
        refine Z.out1 (by exact ⟨rfl, trivial⟩) ?_
        refine ⟨_, rfl, by unfold alE; rw [if_neg (by omega)], ?_⟩
        have e : (((at_ + toByte at_ : Nat) : Int) - (toByte at_ : Int)) = (at_ : Int) := by omega
        rw [e] at hs
        unfold alA
        rw [if_neg (by omega)]
        exact hs
        )
  · first
      | (exfalso; simp at hc5 <;> omega)
      | (
        (try simp at hc5)
        refine Z.skip ?_
        refine Z.nthen ?_
        refine Z.seq ?_
        refine Z.region ?_
        refine Z.lb 1 rfl ?_
        refine Z.lnil ?_
        refine Z.only [2] rfl ?_
        refine Z.nthen ?_
        refine Z.ret ?_
        -- ret#1
        refine Z.out1 (by exact ⟨rfl, trivial⟩) ?_
        refine ⟨_, rfl, by unfold alE; rw [if_pos (by omega)], ?_⟩
        unfold alA
        rw [if_pos (by omega)]
        exact hs
        )

theorem rend_any (g T : Nat) (sv : Value) (l : List Int) (at_ : Nat) (w : World) (hs : SX.St w (SX.idsOf (RdL g T sv l at_)) w (RdL g T sv l at_)) (hl : l.length ≤ 1000000) (ha : at_ ≤ 8 * l.length) (hb : ∀ x ∈ l, 0 ≤ x ∧ x < 256) :
    Calls Try.prog 44 #[.pointer (some ⟨g, 0, none⟩)] w (SX.Ret fun r w' => r = .int .i64 (endE l at_) ∧ SX.St w (SX.idsOf (RdL g T sv l at_)) w' (RdL g T sv l at_)) := by
  generalize hM : SX.idsOf (RdL g T sv l at_) = M at *
  simp only [RdL] at hs
  obtain ⟨A, c, rfl, -, -, -⟩ := SX.row_slv hs (j := 1) rfl
  refine Z.enter Try.func44 rfl Try.ntmps44 rfl rfl ?_
  refine Z.seq ?_
  refine Z.region ?_
  refine Z.lb 1 rfl ?_
  refine Z.lnil ?_
  refine Z.only [0] rfl ?_
  refine Z.nthen ?_
  refine Z.seq ?_
  refine Z.seq ?_
  refine Z.region ?_
  refine Z.lb 1 rfl ?_
  refine Z.l rfl rfl (by rfl) (Z.keepS hs) (Z.Yd.ptrNil rfl rfl Try.underlying74) ?_
  refine Z.lnil ?_
  refine Z.only [0, 5] rfl ?_
  refine Z.nthen ?_
  refine Z.cond rfl (fun h => absurd h (by simp)) (fun hc1 => ?_)
  refine Z.skip ?_
  refine Z.nthen ?_
  refine Z.seq ?_
  refine Z.region ?_
  refine Z.lb 1 rfl ?_
  refine Z.l rfl rfl (by rfl) (Z.keepS hs) (Z.Yd.nilc rfl rfl) ?_
  refine Z.l rfl rfl (by rfl) (Z.keepS hs) (by first | exact Z.Yd.loadA _ rfl Try.isAgg107 (fun _ => Z.cellsB (by first | ((repeat (first | exact List.mem_cons_self | refine List.mem_cons_of_mem _ ?_ | refine List.mem_append_right _ ?_)); done) | fail)) (by exact Try.sizeOf107) | fail "load 3.2") ?_
  refine Z.le rfl trivial ?_
  refine Z.ZO.alloc rfl rfl (by rfl) Try.zeroValue107 rfl hs ?_
  clear hs; intro g3 w3 hs
  refine Z.le rfl trivial ?_
  refine Z.ZO.storeA rfl rfl hs rfl rfl (by kernel_rfl) (by first | (simp [Value.oneCell']; done) | (refine Z.all_one ?_; assumption)) (by first | exact SX.at0 | exact SX.at1 | exact SX.at2 | exact SX.at3 | exact SX.at4 | exact SX.at5 | exact Z.at6 | exact Z.at7 | exact Z.at8 | exact Z.at9 | exact Z.at10 | exact Z.at11 | exact Z.at12) (by rfl) ?_
  clear hs; intro ws hs
  simp only [Nat.zero_add, Nat.add_zero, Nat.reduceAdd, Int.reduceToNat, Nat.reduceMul, List.set_cons_zero, List.set_cons_succ, List.setIfInBounds_toArray] at hs
  refine Z.lnil ?_
  refine Z.only [3] rfl ?_
  refine Z.nthen ?_
  refine Z.seq ?_
  refine Z.seq ?_
  refine Z.region ?_
  replace hs : SX.St w M _ (RdL g3 107 (.slice A l.length c) l at_ ++ [SX.Ent.blk g T #[.slice A l.length c, .int .i64 (at_ : Int)]]) := hs.sel [0, 2, 1] (by decide)
  refine Z.le rfl trivial ?_
  refine Z.ZO.call rfl rfl (by rfl) rfl rfl Try.call67 rfl (rleft_any g3 _ _ l at_ _ hs.lend hl ha) ?_
  rintro v4_0 w4_0 ⟨rfl, hz⟩
  replace hs := hs.regain hz
  refine Z.lb 2 rfl ?_
  refine Z.split (s := 11) rfl (fun hsp11 => ?_) (fun hsp11 => ?_)
  · first
      | (exfalso; simp at hsp11 <;> omega)
      | (
        refine Z.yes (s := 11) (b := true) rfl hsp11 rfl ?_
        (try simp at hsp11)
        refine Z.ls rfl rfl rfl (by rfl) ?_
        refine Z.ls rfl rfl rfl (by rfl) ?_
        refine Z.l rfl rfl (by rfl) (Z.keepS hs) (Z.Yd.pickT rfl rfl) ?_
        refine Z.lnil ?_
        refine Z.only [14] rfl ?_
        refine Z.nthen ?_
        refine Z.cond rfl (fun hc4 => ?_) (fun hc4 => ?_)
        · first
            | (exfalso; simp at hc4 <;> omega)
            | (
              (try simp at hc4)
              refine Z.seq ?_
              refine Z.region ?_
              refine Z.lb 1 rfl ?_
              refine Z.lnil ?_
              refine Z.only [2] rfl ?_
              refine Z.nthen ?_
              refine Z.ret ?_
              repeat (first | refine Z.rthen ?_ | refine Z.rblock ?_ | refine Z.rscope ?_)
              -- ret#0
              refine Z.out1 (by exact ⟨rfl, trivial⟩) ?_
              refine ⟨_, rfl, by unfold endE; rw [if_pos (by omega)], ?_⟩
              exact hs.sel [2, 1] (by decide)
              )
        · first
            | (exfalso; simp at hc4 <;> omega)
            | (
              (try simp at hc4)
              refine Z.skip ?_
              refine Z.nthen ?_
              refine Z.seq ?_
              refine Z.region ?_
              refine Z.lb 1 rfl ?_
              refine Z.lnil ?_
              refine Z.only [2] rfl ?_
              refine Z.nthen ?_
              refine Z.ret ?_
              -- ret#1
              refine Z.out1 (by exact ⟨rfl, trivial⟩) ?_
              first | exact ⟨_, rfl, rfl, hs⟩ | exact ⟨_, rfl, rfl, hs.sub (List.nil_sublist _)⟩
              )
        )
  · first
      | (exfalso; simp at hsp11 <;> omega)
      | (
        refine Z.yes (s := 11) (b := false) rfl hsp11 rfl ?_
        (try simp at hsp11)
        refine Z.le rfl (by exact ⟨rfl, trivial⟩) ?_
        refine Z.ZO.call rfl rfl (by rfl) rfl rfl Try.call68 rfl (ralign_any g3 _ _ l at_ _ hs.lend hl ha hb) ?_
        rintro v4_3 w4_3 ⟨rfl, hz⟩
        replace hs := hs.regain hz
        refine Z.lb 1 rfl ?_
        refine Z.yes (s := 11) (b := false) rfl rfl rfl ?_
        refine Z.l rfl rfl (by rfl) (Z.keepS hs) (Z.Yd.pickF rfl rfl) ?_
        refine Z.lnil ?_
        refine Z.only [14] rfl ?_
        refine Z.nthen ?_
        refine Z.cond rfl (fun hc4 => ?_) (fun hc4 => ?_)
        · first
            | (exfalso; simp at hc4 <;> omega)
            | (
              (try simp at hc4)
              refine Z.seq ?_
              refine Z.region ?_
              refine Z.lb 1 rfl ?_
              refine Z.lnil ?_
              refine Z.only [2] rfl ?_
              refine Z.nthen ?_
              refine Z.ret ?_
              repeat (first | refine Z.rthen ?_ | refine Z.rblock ?_ | refine Z.rscope ?_)
              -- ret#2
              refine Z.out1 (by exact ⟨rfl, trivial⟩) ?_
              refine ⟨_, rfl, ?_, hs.sel [2, 1] (by decide)⟩
              have e : alE l at_ = 9 := by unfold alE at hc4 ⊢; split at hc4 <;> simp_all
              unfold endE
              rw [if_neg (by omega), e]
              )
        · first
            | (exfalso; simp at hc4 <;> omega)
            | (
              (try simp at hc4)
              refine Z.skip ?_
              refine Z.nthen ?_
              refine Z.seq ?_
              refine Z.region ?_
              refine Z.lb 1 rfl ?_
              refine Z.lnil ?_
              refine Z.only [2] rfl ?_
              refine Z.nthen ?_
              refine Z.ret ?_
              -- ret#3
              refine Z.out1 (by exact ⟨rfl, trivial⟩) ?_
              refine ⟨_, rfl, ?_, hs.sel [2, 1] (by decide)⟩
              unfold endE
              rw [if_neg (by omega), hc4]
              )
        )

theorem WrL_start {w0 w : World} {M : List Nat} {L : List SX.Ent} {g T : Nat} (hs : SX.St w0 M w (SX.Ent.blk g T #[.slice none 0 0, .int .i64 0] :: L)) : SX.St w0 M w (WrL g T (.slice none 0 0) [] ++ L) := by
  have h := hs.nil 5 1
  exact h.perm (List.Perm.swap _ _ _)

def b9 : List Bool := [true, false, true, false, false, false, false, false, true]
/-- a row of packed bits -/
def rowP (sv : Value) (bs : List Bool) : SX.Ent := SX.Ent.row sv 5 1 (pk bs).length (ints .u8 (pk bs))

end Go.Proofs.Ytcieclifabbkjaa

/- FieldWrites. -/
namespace Go.Proofs.Ytcieclifabbkjaa
open Go.RowKit
set_option linter.unusedSimpArgs false
set_option linter.unusedVariables false

/-- the bits after calls -/
def actsB (l : List ActV) : List Bool := l.foldl actB []
theorem actsB_snoc {l : List ActV} {k : Nat} {x : ActV} (h : l[k]? = some x) : actsB (l.take (k + 1)) = actB (actsB (l.take k)) x := by
  rw [← take_snoc h]
  simp [actsB]
theorem few_at {l : List ActV} (h : fewA l = true) : l.length ≤ 40 ∧ ∀ x ∈ l, x.bl.length ≤ 40 ∧ x.fl.length ≤ 20 := by
  unfold fewA at h
  simpa using h
theorem actsB_length {l : List ActV} (h : fewA l = true) : ∀ k, k ≤ l.length → (actsB (l.take k)).length ≤ k * 1280
  | 0, _ => by simp [actsB]
  | k + 1, hk => by
    have hx : l[k]? = some (l[k]'hk) := List.getElem?_eq_getElem (by omega)
    have h1 := (few_at h).2 _ (List.mem_of_getElem? hx)
    have h2 := actB_length (bs := actsB (l.take k)) h1.1 h1.2
    have h3 := actsB_length h k (by omega)
    rw [actsB_snoc hx]
    omega
theorem pk_bd (bs : List Bool) : ∀ x ∈ pk bs, 0 ≤ x ∧ x < 256 := by
  intro x hx
  simp only [pk, pkn, List.mem_map] at hx
  obtain ⟨j, _, rfl⟩ := hx
  have := byt_lt bs j
  omega

end Go.Proofs.Ytcieclifabbkjaa

/- Arguments of any shape, asz they read: integers, slices, structs. -/
namespace Go.Proofs.Ytcieclifabbkjaa
open Go.ChangeShapes Go.WideShapes Go.ChangeAt Go.RowKit
set_option linter.unusedVariables false
set_option linter.unusedSimpArgs false

/-- the cells cs read asz a value of type t -/
def Rd (P : Program) (W : World) (t : TypeId) (cs : List Value) : Prop :=
  ∃ (H : Type) (enc : TypeId × Value → H) (fuel : Nat) (x : DataW H × List MemPlace), DataW.trod enc P W 0 (fun _ => true) true fuel t cs = some x

variable {P : Program} {W : World} {t e : TypeId} {cs : List Value} {k : IntKind}

theorem Rd.of {H : Type} {enc : TypeId × Value → H} {v : Value} {d : DataW H} {p : List MemPlace} (h : DataW.Trod enc P W 0 (fun _ => true) true t v d p) : Rd P W t v.cells.toList := by
  obtain ⟨fuel, h⟩ := h
  exact ⟨H, enc, fuel, _, h⟩

theorem Rd.int (ht : P.underlying t = some (.int k)) (h : Rd P W t cs) : ∃ n, cs = [.int k n] ∧ (Lit.int k n).wf = true := by
  obtain ⟨H, enc, fuel, x, h⟩ := h
  cases fuel with
  | zero => simp [DataW.trod] at h
  | succ n =>
    unfold DataW.trod at h
    rw [ht] at h
    split at h <;> simp_all
theorem Rd.bool (ht : P.underlying t = some .bool) (h : Rd P W t cs) : ∃ b, cs = [.bool b] := by
  obtain ⟨H, enc, fuel, x, h⟩ := h
  cases fuel with
  | zero => simp [DataW.trod] at h
  | succ n =>
    unfold DataW.trod at h
    rw [ht] at h
    split at h <;> simp_all
theorem Rd.string (ht : P.underlying t = some .string) (h : Rd P W t cs) : ∃ s, cs = [.string s] ∧ s.size ≤ maxLen := by
  obtain ⟨H, enc, fuel, x, h⟩ := h
  cases fuel with
  | zero => simp [DataW.trod] at h
  | succ n =>
    unfold DataW.trod at h
    rw [ht] at h
    split at h <;> simp_all
theorem Rd.field {fs : Array Field} (ht : P.underlying t = some (.struct fs)) (h : Rd P W t cs) :
    cs.length = P.cellsOf t ∧ ∀ (i : Nat) (f : Field), fs[i]? = some f → Rd P W f.type ((cs.drop f.offset).take (P.cellsOf f.type)) := by
  obtain ⟨H, enc, fuel, x, h⟩ := h
  obtain ⟨xs, n, _, _, h1, h2, h3⟩ := DataW.trod_struct ht h
  refine ⟨h1, fun i f hf => ?_⟩
  have h4 := h3 i f hf
  have hi : i < xs.length := by
    rw [h2]
    exact (Array.getElem?_eq_some_iff.1 hf).1
  rw [List.getElem?_eq_getElem hi] at h4
  exact ⟨H, enc, n, _, h4⟩
theorem Rd.array {n : Nat} (ht : P.underlying t = some (.array n e)) (h : Rd P W t cs) :
    cs.length = P.cellsOf t ∧ ∀ i, i < n → Rd P W e ((cs.drop (i * P.cellsOf e)).take (P.cellsOf e)) := by
  obtain ⟨H, enc, fuel, x, h⟩ := h
  cases fuel with
  | zero => simp [DataW.trod] at h
  | succ m =>
    unfold DataW.trod at h
    rw [ht] at h
    simp only at h
    by_cases hl : cs.length = P.cellsOf t
    · rw [if_pos hl] at h
      refine ⟨hl, fun i hi => ?_⟩
      obtain ⟨xs, hx, -⟩ := Option.map_eq_some_iff.1 h
      have : ∀ (l : List Nat) (ys : List (DataW H × List MemPlace)), l.mapM (fun i => DataW.trod enc P W 0 (fun _ => true) true m e ((cs.drop (i * P.cellsOf e)).take (P.cellsOf e))) = some ys → ∀ i ∈ l, ∃ y, DataW.trod enc P W 0 (fun _ => true) true m e ((cs.drop (i * P.cellsOf e)).take (P.cellsOf e)) = some y := by
        intro l
        induction l with
        | nil => intro ys _ i hi; cases hi
        | cons j l ih =>
          intro ys hy i hi
          simp only [List.mapM_cons, Option.bind_eq_bind, Option.bind_eq_some_iff] at hy
          obtain ⟨y, hy1, zs, hz, _⟩ := hy
          rcases List.mem_cons.1 hi with rfl | hi
          · exact ⟨y, hy1⟩
          · exact ih zs hz i hi
      obtain ⟨y, hy⟩ := this _ _ hx i (List.mem_range.2 hi)
      exact ⟨H, enc, m, y, hy⟩
    · rw [if_neg hl] at h; cases h
theorem cells_len {a : Addr} {n : Nat} {r : List Value} (h : W.cells? 0 a n = some r) : r.length = n ∧ ∀ (j : Nat) (u : Value), r[j]? = some u → W.cell? (a.add j) = some u := by
  unfold World.cells? at h
  rw [if_pos (Nat.zero_le _)] at h
  have key : ∀ (l : List Nat) (r : List Value), l.mapM (fun i => W.cell? (a.add i)) = some r → r.length = l.length ∧ ∀ (j : Nat) (u : Value), r[j]? = some u → ∃ i, l[j]? = some i ∧ W.cell? (a.add i) = some u := by
    intro l
    induction l with
    | nil => intro r hr; simp at hr; subst hr; simp
    | cons i l ih =>
      intro r hr
      simp only [List.mapM_cons, Option.bind_eq_bind, Option.bind_eq_some_iff] at hr
      obtain ⟨y, hy, ys, hys, hr⟩ := hr
      obtain rfl : y :: ys = r := by simpa using hr
      obtain ⟨h1, h2⟩ := ih ys hys
      refine ⟨by simp [h1], fun j u hu => ?_⟩
      cases j with
      | zero =>
        obtain rfl : y = u := by simpa using hu
        exact ⟨i, rfl, hy⟩
      | succ j =>
        obtain ⟨i', h3, h4⟩ := h2 j u (by simpa using hu)
        exact ⟨i', by simpa using h3, h4⟩
  obtain ⟨h1, h2⟩ := key _ r h
  refine ⟨by simpa using h1, fun j u hu => ?_⟩
  obtain ⟨i, h3, h4⟩ := h2 j u hu
  have hj : j < n := by
    have := (List.getElem?_eq_some_iff.1 hu).1
    simp at h1
    omega
  rw [List.getElem?_range hj] at h3
  obtain rfl : j = i := by simpa using h3
  exact h4
theorem Rd.slice (ht : P.underlying t = some (.slice e)) (h : Rd P W t cs) :
    cs = [.slice none 0 0] ∨ ∃ (a : Addr) (len cap : Nat) (rows : List (List Value)), cs = [.slice (some a) len cap] ∧ len ≤ cap ∧ cap ≤ maxLen ∧ rows.length = len ∧
      ∀ i r, rows[i]? = some r → W.cells? 0 (a.add (i * P.cellsOf e)) (P.cellsOf e) = some r ∧ Rd P W e r := by
  obtain ⟨H, enc, fuel, x, h⟩ := h
  rcases DataW.trod_slice ht h with ⟨h1, _⟩ | ⟨a, len, cap, elems, rest, n, _, h1, _, _, h2, h3, h4, h5, _⟩
  · exact .inl h1
  · refine .inr ⟨a, len, cap, (List.range len).map fun i => (W.cells? 0 (a.add (i * P.cellsOf e)) (P.cellsOf e)).getD [], h1, h2, h3, by simp, fun i r hr => ?_⟩
    rw [List.getElem?_map] at hr
    obtain ⟨i', hi', hr⟩ := Option.map_eq_some_iff.1 hr
    have hi : i < len := by
      have := (List.getElem?_eq_some_iff.1 hi').1
      simpa using this
    rw [List.getElem?_range hi] at hi'
    obtain rfl : i = i' := by simpa using hi'
    have h6 := h5 i hi
    rw [List.getElem?_eq_getElem (by omega)] at h6
    obtain ⟨r', h7, h8⟩ := Option.bind_eq_some_iff.1 h6
    rw [h7] at hr
    obtain rfl : r' = r := by simpa using hr
    exact ⟨h7, H, enc, n, _, h8⟩

theorem addr_none {a : Addr} {j : Nat} {u : Value} (hj : a.spot.isSome = true → 0 < j) (h : W.cell? (a.add j) = some u) : True := trivial

/-- a slice whose elements decode -/
theorem Rd.rows {α : Type} {A : Option Addr} {n c : Nat} (enc : α → List Value) (Good : α → Prop) (ht : P.underlying t = some (.slice e)) (hpos : 0 < P.cellsOf e)
    (dec : ∀ r, Rd P W e r → ∃ x, r = enc x ∧ Good x) (hsz : ∀ x, (enc x).length = P.cellsOf e) (h : Rd P W t [.slice A n c]) :
    ∃ xs : List α, xs.length = n ∧ n ≤ c ∧ c ≤ maxLen ∧ (∀ x ∈ xs, Good x) ∧ Sl W A (xs.flatMap enc) := by
  rcases Rd.slice ht h with h1 | ⟨a, len, cap, rows, h1, h2, h3, h4, h5⟩
  · simp only [List.cons.injEq, Value.slice.injEq, and_true] at h1
    obtain ⟨rfl, rfl, rfl⟩ := h1
    exact ⟨[], rfl, Nat.le_refl _, Nat.zero_le _, by simp, fun hp => by simp at hp⟩
  · simp only [List.cons.injEq, Value.slice.injEq, and_true] at h1
    obtain ⟨rfl, rfl, rfl⟩ := h1
    have key : ∀ (l : List (List Value)), (∀ r ∈ l, Rd P W e r) → ∃ xs : List α, l = xs.map enc ∧ ∀ x ∈ xs, Good x := by
      intro l
      induction l with
      | nil => intro _; exact ⟨[], rfl, by simp⟩
      | cons r l ih =>
        intro hl
        obtain ⟨x, rfl, hx⟩ := dec r (hl r (by simp))
        obtain ⟨xs, rfl, hxs⟩ := ih (fun r hr => hl r (by simp [hr]))
        exact ⟨x :: xs, rfl, fun y hy => by
          rcases List.mem_cons.1 hy with rfl | hy
          · exact hx
          · exact hxs y hy⟩
    obtain ⟨xs, hxs, hG⟩ := key rows (fun r hr => by
      obtain ⟨i, hi⟩ := List.getElem?_of_mem hr
      exact (h5 i r hi).2)
    have hlen : xs.length = n := by rw [← h4, hxs, List.length_map]
    refine ⟨xs, hlen, h2, h3, hG, fun hp => ?_⟩
    -- the cells, one by one
    have hcell : ∀ (i : Nat) (x : α), xs[i]? = some x → ∀ (j : Nat) (u : Value), (enc x)[j]? = some u → W.cell? ((a.add (i * P.cellsOf e)).add j) = some u := by
      intro i x hx j u hu
      have hr : rows[i]? = some (enc x) := by
        rw [hxs, List.getElem?_map, hx]
        rfl
      exact (cells_len (h5 i _ hr).1).2 j u hu
    have hn0 : 0 < n := by
      rw [← hlen]
      cases xs with
      | nil => simp at hp
      | cons x xs => simp
    -- the address has no spot
    have hspot : a.spot = none := by
      have hx0 : xs[0]? = some (xs[0]'(by omega)) := List.getElem?_eq_getElem (by omega)
      have hl0 := hsz (xs[0]'(by omega))
      have := hcell 0 _ hx0 0 _ (List.getElem?_eq_getElem (by omega))
      have e0 : (a.add (0 * P.cellsOf e)).add 0 = a := by simp [Addr.add]
      rw [e0] at this
      unfold World.cell? at this
      split at this
      · cases hs : a.spot with
        | none => rfl
        | some s => simp [hs] at this
      · cases this
    obtain ⟨b, off, sp⟩ := a
    simp only at hspot
    subst hspot
    have hadd : ∀ o m, (⟨b, o, none⟩ : Addr).add m = ⟨b, o + m, none⟩ := fun o m => by
      unfold Addr.add
      split
      · rename_i h; rw [h]; rfl
      · rfl
    have hall : ∀ (ys : List α) (i : Nat), (∀ j, j < ys.length → xs[i + j]? = ys[j]?) → i + ys.length ≤ n → ∀ m u, (ys.flatMap enc)[m]? = some u → W.cell? ⟨b, off + (i * P.cellsOf e + m), none⟩ = some u := by
      intro ys
      induction ys with
      | nil => intro i _ _ m u hu; simp at hu
      | cons y ys ih =>
        intro i hy hle m u hu
        simp only [List.length_cons] at hle
        rw [List.flatMap_cons] at hu
        have hyl := hsz y
        by_cases hm : m < P.cellsOf e
        · rw [List.getElem?_append_left (by omega)] at hu
          have h0 := hy 0 (by simp)
          simp at h0
          have := hcell i y h0 m u hu
          rw [hadd, hadd] at this
          rw [← Nat.add_assoc]
          exact this
        · rw [List.getElem?_append_right (by omega), hyl] at hu
          have := ih (i + 1) (fun j hj => by
            have := hy (j + 1) (by simp; omega)
            rw [show i + 1 + j = i + (j + 1) from by omega, this]
            simp) (by omega) (m - P.cellsOf e) u hu
          rw [Nat.add_mul, Nat.one_mul] at this
          rw [show i * P.cellsOf e + m = i * P.cellsOf e + P.cellsOf e + (m - P.cellsOf e) from by omega]
          exact this
    have hfin := hall xs 0 (fun j _ => by simp) (by omega)
    simp only [Nat.zero_mul, Nat.zero_add] at hfin
    refine ⟨b, off, rfl, ?_, fun j u hu => hfin j u hu⟩
    have hpp : 0 < (xs.flatMap enc).length := hp
    have := hfin 0 _ (List.getElem?_eq_getElem hpp)
    exact World.block_lt_of_cell? _ _ this
theorem list1 {α : Type} {l : List α} (h : l.length = 1) : ∃ a, l = [a] := by
  match l, h with
  | [a], _ => exact ⟨a, rfl⟩
theorem list2 {α : Type} {l : List α} (h : l.length = 2) : ∃ a b, l = [a, b] := by
  match l, h with
  | [a, b], _ => exact ⟨a, b, rfl⟩
theorem list3 {α : Type} {l : List α} (h : l.length = 3) : ∃ a b c, l = [a, b, c] := by
  match l, h with
  | [a, b, c], _ => exact ⟨a, b, c, rfl⟩
theorem list4 {α : Type} {l : List α} (h : l.length = 4) : ∃ a b c d, l = [a, b, c, d] := by
  match l, h with
  | [a, b, c, d], _ => exact ⟨a, b, c, d, rfl⟩
theorem list5 {α : Type} {l : List α} (h : l.length = 5) : ∃ a b c d e, l = [a, b, c, d, e] := by
  match l, h with
  | [a, b, c, d, e], _ => exact ⟨a, b, c, d, e, rfl⟩
theorem list6 {α : Type} {l : List α} (h : l.length = 6) : ∃ a b c d e f, l = [a, b, c, d, e, f] := by
  match l, h with
  | [a, b, c, d, e, f], _ => exact ⟨a, b, c, d, e, f, rfl⟩
theorem wf_bd {n : Int} (h : (Lit.int k n).wf = true) : k.min ≤ n ∧ n ≤ k.max := by
  simpa [Lit.wf] using h
theorem wf_u8 {n : Int} (h : (Lit.int .u8 n).wf = true) : 0 ≤ n ∧ n ≤ 255 := wf_bd h
theorem wf_i64 {n : Int} (h : (Lit.int .i64 n).wf = true) : -9223372036854775808 ≤ n ∧ n ≤ 9223372036854775807 := wf_bd h
theorem wf_u64 {n : Int} (h : (Lit.int .u64 n).wf = true) : 0 ≤ n ∧ n ≤ 18446744073709551615 := wf_bd h
end Go.Proofs.Ytcieclifabbkjaa

/- Arguments of the chapter's laws, asz they are read. -/
namespace Go.Proofs.Ytcieclifabbkjaa
open Go.RowKit
set_option linter.unusedSimpArgs false
set_option linter.unusedVariables false

theorem Rd.sliceV {P : Program} {W : World} {t e : TypeId} {cs : List Value} (ht : P.underlying t = some (.slice e)) (h : Rd P W t cs) : ∃ A n c, cs = [.slice A n c] := by
  rcases Rd.slice ht h with h1 | ⟨a, len, cap, rows, h1, -⟩
  · exact ⟨none, 0, 0, h1⟩
  · exact ⟨some a, len, cap, h1⟩
theorem flat_ints (k : IntKind) (l : List Int) : l.flatMap (fun x => [Value.int k x]) = ints k l := by
  induction l with
  | nil => rfl
  | cons x l ih => rw [List.flatMap_cons, ih]; rfl
theorem rd_bytes {W : World} {A : Option Addr} {n c : Nat} (z : Rd Try.prog W 26 [.slice A n c]) : ∃ l : List Int, l.length = n ∧ n ≤ maxLen ∧ (∀ x ∈ l, 0 ≤ x ∧ x < 256) ∧ Sl W A (ints .u8 l) := by
  have c1 : Try.prog.cellsOf 5 = 1 := by kernel_rfl
  obtain ⟨xs, h1, h2, h3, h4, h5⟩ := Rd.rows (fun x : Int => [Value.int .u8 x]) (fun x => 0 ≤ x ∧ x < 256) Try.underlying26 (by rw [c1]; decide)
    (fun r hr => by
      obtain ⟨x, hx, wx⟩ := Rd.int Try.underlying5 hr
      have := wf_u8 wx
      exact ⟨x, hx, this.1, by omega⟩) (fun x => c1.symm) z
  rw [flat_ints] at h5
  exact ⟨xs, h1, Nat.le_trans h2 h3, h4, h5⟩
theorem rd_field {W : World} {cs : List Value} (z : Rd Try.prog W 64 cs) : ∃ f : Int × Int, cs = encF f ∧ GoodF f := by
  obtain ⟨hl, hf⟩ := Rd.field Try.underlying64 z
  have c2 : Try.prog.cellsOf 64 = 2 := by kernel_rfl
  have c1 : Try.prog.cellsOf 3 = 1 := by kernel_rfl
  have c3 : Try.prog.cellsOf 62 = 1 := by kernel_rfl
  rw [c2] at hl
  obtain ⟨a, b, rfl⟩ := list2 hl
  obtain ⟨x, hx, wx⟩ := Rd.int Try.underlying62 (hf 0 _ rfl)
  obtain ⟨y, hy, wy⟩ := Rd.int Try.underlying3 (hf 1 _ rfl)
  simp [c1, c3] at hx hy
  subst hx hy
  have h1 := wf_u64 wx
  have h2 := wf_i64 wy
  exact ⟨(x, y), rfl, h1.1, by show x < _; omega, h2.1, h2.2⟩
theorem rd_fields {W : World} {A : Option Addr} {n c : Nat} (z : Rd Try.prog W 68 [.slice A n c]) : ∃ l : List (Int × Int), l.length = n ∧ n ≤ maxLen ∧ (∀ f ∈ l, GoodF f) ∧ Sl W A (l.flatMap encF) := by
  have c2 : Try.prog.cellsOf 64 = 2 := by kernel_rfl
  obtain ⟨xs, h1, h2, h3, h4, h5⟩ := Rd.rows encF GoodF Try.underlying68 (by rw [c2]; decide) (fun r hr => rd_field hr) (fun x => c2.symm) z
  exact ⟨xs, h1, Nat.le_trans h2 h3, h4, h5⟩
/-- a walk, asz a row asks for it -/
theorem rowOf {f : FuncId} {args : Array Value} {w : World} (h : Calls Try.prog f args w (SX.Ret fun r w' => r = .bool true ∧ SX.St w [] w' [])) : Calls Try.prog f args w fun e w' => e = .returned (.bool true) ∧ Below w.heap.size w w' := by
  refine h.mono ?_
  rintro e w' ⟨v, rfl, rfl, h⟩
  exact ⟨rfl, h.below⟩
end Go.Proofs.Ytcieclifabbkjaa

/- FieldOwn. -/
namespace Go.Proofs.Ytcieclifabbkjaa
open Go.RowKit
set_option linter.unusedSimpArgs false
set_option linter.unusedVariables false

theorem ints_set {k : IntKind} {l : List Int} {i : Nat} {z : Int} : (ints k l).set i (.int k z) = ints k (l.set i z) := by
  simp only [ints]
  rw [List.map_set]

end Go.Proofs.Ytcieclifabbkjaa

/- Several reads, and back if one fails. -/
namespace Go.Proofs.Ytcieclifabbkjaa
open Go.RowKit
set_option linter.unusedSimpArgs false
set_option linter.unusedVariables false

def gsA (l : List Int) (a : Nat) (ws : List Int) : Nat := ws.foldl (fun p w => getA l p w) a
def gsV (l : List Int) : Nat → List Int → List Int
  | _, [] => []
  | a, w :: ws => getV l a w :: gsV l (getA l a w) ws
def gsE (l : List Int) : Nat → List Int → Int
  | _, [] => 0
  | a, w :: ws => if getE l a w = 0 then gsE l (getA l a w) ws else getE l a w
theorem gsA_app (l : List Int) (a : Nat) (xs ys : List Int) : gsA l a (xs ++ ys) = gsA l (gsA l a xs) ys := by simp [gsA]
theorem gsV_app (l : List Int) : ∀ (xs : List Int) (a : Nat) (ys : List Int), gsV l a (xs ++ ys) = gsV l a xs ++ gsV l (gsA l a xs) ys
  | [], a, ys => rfl
  | x :: xs, a, ys => by
    have := gsV_app l xs (getA l a x) ys
    simp only [List.cons_append, gsV, this]
    rfl
theorem gsE_app (l : List Int) : ∀ (xs : List Int) (a : Nat) (ys : List Int), gsE l a xs = 0 → gsE l a (xs ++ ys) = gsE l (gsA l a xs) ys
  | [], a, ys, _ => rfl
  | x :: xs, a, ys, h => by
    by_cases hx : getE l a x = 0
    · simp only [gsE, if_pos hx, List.cons_append] at h ⊢
      have := gsE_app l xs (getA l a x) ys h
      rw [this]
      rfl
    · simp only [gsE, if_neg hx] at h
      exact absurd h hx
theorem gsV_length (l : List Int) : ∀ (ws : List Int) (a : Nat), (gsV l a ws).length = ws.length
  | [], _ => rfl
  | w :: ws, a => by simp [gsV, gsV_length l ws]
theorem gsE_at {l : List Int} {a k : Nat} {ws : List Int} {x : Int} (h : ws[k]? = some x) (h0 : gsE l a (ws.take k) = 0) (hx : getE l (gsA l a (ws.take k)) x ≠ 0) : gsE l a ws = getE l (gsA l a (ws.take k)) x := by
  have e : ws = ws.take (k + 1) ++ ws.drop (k + 1) := (List.take_append_drop _ _).symm
  rw [← take_snoc h] at e
  conv => lhs; rw [e, List.append_assoc, gsE_app l _ _ _ h0]
  simp [gsE, hx]
theorem gs_snoc {l : List Int} {a k : Nat} {ws : List Int} {x : Int} (h : ws[k]? = some x) (h0 : gsE l a (ws.take k) = 0) (hx : getE l (gsA l a (ws.take k)) x = 0) :
    gsE l a (ws.take (k + 1)) = 0 ∧ gsA l a (ws.take (k + 1)) = getA l (gsA l a (ws.take k)) x ∧ gsV l a (ws.take (k + 1)) = gsV l a (ws.take k) ++ [getV l (gsA l a (ws.take k)) x] := by
  rw [← take_snoc h]
  refine ⟨?_, ?_, ?_⟩
  · rw [gsE_app l _ _ _ h0]; simp [gsE, hx]
  · rw [gsA_app]; rfl
  · rw [gsV_app]; rfl
theorem getA_le {l : List Int} {a : Nat} {w : Int} (h : a ≤ 8 * l.length) : getA l a w ≤ 8 * l.length := by
  unfold getA
  split
  · rename_i h1
    unfold getE at h1
    split at h1
    · simp at h1
    · split at h1
      · simp at h1
      · omega
  · exact h
theorem gsA_le {l : List Int} : ∀ {ws : List Int} {a : Nat}, a ≤ 8 * l.length → gsA l a ws ≤ 8 * l.length
  | [], a, h => h
  | w :: ws, a, h => gsA_le (ws := ws) (getA_le h)

/-- what the reader's call that was put off looks at -/
def dfL (ge gf gr go g T To : Nat) (svb so : Value) (e : Int) (from_ a : Nat) : List SX.Ent :=
  [SX.Ent.blk ge 27 #[.int .i64 e], SX.Ent.blk gf 3 #[.int .i64 (from_ : Int)], SX.Ent.blk gr 74 #[.pointer (some ⟨g, 0, none⟩)], SX.Ent.blk go To #[so], SX.Ent.blk g T #[svb, .int .i64 (a : Int)]]

theorem back64 (ge gf gr go g T : Nat) (svb so : Value) (e : Int) (from_ a : Nat) (w : World) (hs : SX.St w (SX.idsOf (dfL ge gf gr go g T 78 svb so e from_ a)) w (dfL ge gf gr go g T 78 svb so e from_ a)) :
    CallsDf Try.prog 79 #[.pointer (some ⟨ge, 0, none⟩), .pointer (some ⟨gf, 0, none⟩), .pointer (some ⟨gr, 0, none⟩), .pointer (some ⟨go, 0, none⟩)] w (fun _ w' =>
      SX.St w (SX.idsOf (dfL ge gf gr go g T 78 svb so e from_ a)) w' (dfL ge gf gr go g T 78 svb (if e = 0 then so else .slice none 0 0) e from_ (if e = 0 then a else from_))) := by
  generalize hM : SX.idsOf (dfL ge gf gr go g T 78 svb so e from_ a) = M at *
  simp only [dfL] at hs
  refine Z.enterDf Try.func79 rfl Try.ntmps79 rfl rfl ?_
  refine Z.seq ?_
  refine Z.region ?_
  refine Z.l rfl rfl (by rfl) (Z.keepS hs) (by first | exact Z.Yd.load rfl Try.isAgg27 (fun _ => Z.cellB (by first | ((repeat (first | exact List.mem_cons_self | refine List.mem_cons_of_mem _ ?_ | refine List.mem_append_right _ ?_)); done) | fail) rfl) | exact Z.Yd.load rfl Try.isAgg27 (fun _ => Z.cellO (by assumption) (by simp) (by assumption)) | fail "load 0.0") ?_
  refine Z.lb 1 rfl ?_
  refine Z.lnil ?_
  refine Z.only [1, 2, 3, 5] rfl ?_
  refine Z.nthen ?_
  refine Z.cond rfl (fun hc0 => ?_) (fun hc0 => ?_)
  · first
      | (exfalso; simp at hc0 <;> omega)
      | (
        (try simp at hc0)
        refine Z.region ?_
        refine Z.l rfl rfl (by rfl) (Z.keepS hs) (by first | exact Z.Yd.load rfl Try.isAgg74 (fun _ => Z.cellB (by first | ((repeat (first | exact List.mem_cons_self | refine List.mem_cons_of_mem _ ?_ | refine List.mem_append_right _ ?_)); done) | fail) rfl) | exact Z.Yd.load rfl Try.isAgg74 (fun _ => Z.cellO (by assumption) (by simp) (by assumption)) | fail "load 1.0") ?_
        refine Z.l rfl rfl (by rfl) (Z.keepS hs) (by first | exact Z.Yd.load rfl Try.isAgg3 (fun _ => Z.cellB (by first | ((repeat (first | exact List.mem_cons_self | refine List.mem_cons_of_mem _ ?_ | refine List.mem_append_right _ ?_)); done) | fail) rfl) | exact Z.Yd.load rfl Try.isAgg3 (fun _ => Z.cellO (by assumption) (by simp) (by assumption)) | fail "load 1.1") ?_
        refine Z.l rfl rfl (by rfl) (Z.keepS hs) (Z.Yd.nilc rfl rfl) ?_
        refine Z.l rfl rfl (by rfl) (Z.keepS hs) (Z.Yd.fieldA (m := 1) rfl (by kernel_rfl)) ?_
        refine Z.le rfl trivial ?_
        first | refine Z.ZO.store rfl rfl hs Try.sizeOf3 rfl rfl rfl (by first | exact SX.at0 | exact SX.at1 | exact SX.at2 | exact SX.at3 | exact SX.at4 | exact SX.at5 | exact Z.at6 | exact Z.at7 | exact Z.at8 | exact Z.at9 | exact Z.at10 | exact Z.at11 | exact Z.at12) (by first | (simp; done) | (simp; omega)) ?_ | refine Z.ZO.storeR rfl rfl hs Try.sizeOf3 rfl rfl rfl (by first | exact SX.at0 | exact SX.at1 | exact SX.at2 | exact SX.at3 | exact SX.at4 | exact SX.at5 | exact Z.at6 | exact Z.at7 | exact Z.at8 | exact Z.at9 | exact Z.at10 | exact Z.at11 | exact Z.at12) (by first | omega | (simp [ints_length]; done) | (simp [ints_length]; omega)) ?_
        clear hs; intro ws hs
        simp only [Nat.zero_add, Nat.add_zero, Nat.reduceAdd, Int.reduceToNat, Nat.reduceMul, List.set_cons_zero, List.set_cons_succ, List.setIfInBounds_toArray] at hs
        refine Z.le rfl trivial ?_
        first | refine Z.ZO.store rfl rfl hs Try.sizeOf78 rfl rfl rfl (by first | exact SX.at0 | exact SX.at1 | exact SX.at2 | exact SX.at3 | exact SX.at4 | exact SX.at5 | exact Z.at6 | exact Z.at7 | exact Z.at8 | exact Z.at9 | exact Z.at10 | exact Z.at11 | exact Z.at12) (by first | (simp; done) | (simp; omega)) ?_ | refine Z.ZO.storeR rfl rfl hs Try.sizeOf78 rfl rfl rfl (by first | exact SX.at0 | exact SX.at1 | exact SX.at2 | exact SX.at3 | exact SX.at4 | exact SX.at5 | exact Z.at6 | exact Z.at7 | exact Z.at8 | exact Z.at9 | exact Z.at10 | exact Z.at11 | exact Z.at12) (by first | omega | (simp [ints_length]; done) | (simp [ints_length]; omega)) ?_
        clear hs; intro ws hs
        simp only [Nat.zero_add, Nat.add_zero, Nat.reduceAdd, Int.reduceToNat, Nat.reduceMul, List.set_cons_zero, List.set_cons_succ, List.setIfInBounds_toArray] at hs
        refine Z.lnil ?_
        refine Z.only [] rfl ?_
        -- ret#0
        refine Z.out0n trivial ?_
        exact ⟨_, rfl, by rw [if_neg hc0, if_neg hc0]; exact hs⟩
        )
  · first
      | (exfalso; simp at hc0 <;> omega)
      | (
        (try simp at hc0)
        refine Z.skip ?_
        -- ret#1
        refine Z.out0n trivial ?_
        exact ⟨_, rfl, by rw [if_pos hc0, if_pos hc0]; exact hs⟩
        )

set_option maxRecDepth 100000 in
theorem each64 (g T : Nat) (svb : Value) (l : List Int) (a : Nat) (A : Option Addr) (n c : Nat) (ds : List Int) (w : World) (hs : SX.St w (SX.idsOf (RdL g T svb l a)) w (RdL g T svb l a))
    (hx : Sx w (SX.idsOf (RdL g T svb l a)) A (ints .i64 ds)) (hl : ds.length = n) (hn : n ≤ 1000000) (hll : l.length ≤ 1000000) (ha : a ≤ 8 * l.length) (hb : ∀ x ∈ l, 0 ≤ x ∧ x < 256) :
    Calls Try.prog 65 #[.pointer (some ⟨g, 0, none⟩), .slice A n c, .func (.func 66) #[.pointer (some ⟨g, 0, none⟩)] #[]] w (SX.Ret fun r w' => ∃ so, r = .tuple #[so, .int .i64 (gsE l a ds)] ∧
      SX.St w (SX.idsOf (RdL g T svb l a)) w' (RdL g T svb l (if gsE l a ds = 0 then gsA l a ds else a) ++ [SX.Ent.row so 62 1 (if gsE l a ds = 0 then n else 0) (ints .u64 (if gsE l a ds = 0 then gsV l a ds else []))])) := by
  generalize hM : SX.idsOf (RdL g T svb l a) = M at *
  have hnil : SX.St w M w (RdL g T svb l a ++ [SX.Ent.row (.slice none 0 0) 62 1 0 []]) := (hs.nil 62 1).sel [1, 2, 0] (by decide)
  clear hs
  have hs := hnil
  clear hnil
  simp only [RdL, List.cons_append, List.nil_append] at hs
  refine Z.enterD Try.func65 rfl Try.ntmps65 rfl rfl ?_
  refine Z.seq ?_
  refine Z.region ?_
  refine Z.le rfl trivial ?_
  refine Z.ZO.box rfl rfl (by rfl) rfl rfl hs ?_
  clear hs; intro g3 w3 hs
  refine Z.le rfl trivial ?_
  refine Z.ZO.alloc rfl rfl (by rfl) Try.zeroValue78 rfl hs ?_
  clear hs; intro g6 w6 hs
  refine Z.le rfl trivial ?_
  refine Z.ZO.alloc rfl rfl (by rfl) Try.zeroValue27 rfl hs ?_
  clear hs; intro g7 w7 hs
  refine Z.lnil ?_
  refine Z.only [1, 2, 3, 6, 7] rfl ?_
  refine Z.nthen ?_
  refine Z.seq ?_
  refine Z.seq ?_
  refine Z.region ?_
  refine Z.l rfl rfl (by rfl) (Z.keepS hs) (by first | exact Z.Yd.load rfl Try.isAgg74 (fun _ => Z.cellB (by first | ((repeat (first | exact List.mem_cons_self | refine List.mem_cons_of_mem _ ?_ | refine List.mem_append_right _ ?_)); done) | fail) rfl) | exact Z.Yd.load rfl Try.isAgg74 (fun _ => Z.cellO (by assumption) (by simp) (by assumption)) | fail "load 1.0") ?_
  refine Z.l rfl rfl (by rfl) (Z.keepS hs) (Z.Yd.ptrNil rfl rfl Try.underlying74) ?_
  refine Z.lnil ?_
  refine Z.only [1, 2, 3, 6, 7, 14] rfl ?_
  refine Z.nthen ?_
  refine Z.cond rfl (fun h => absurd h (by simp)) (fun hc1 => ?_)
  refine Z.skip ?_
  refine Z.nthen ?_
  refine Z.seq ?_
  refine Z.region ?_
  refine Z.l rfl rfl (by rfl) (Z.keepS hs) (by first | exact Z.Yd.load rfl Try.isAgg74 (fun _ => Z.cellB (by first | ((repeat (first | exact List.mem_cons_self | refine List.mem_cons_of_mem _ ?_ | refine List.mem_append_right _ ?_)); done) | fail) rfl) | exact Z.Yd.load rfl Try.isAgg74 (fun _ => Z.cellO (by assumption) (by simp) (by assumption)) | fail "load 3.0") ?_
  refine Z.l rfl rfl (by rfl) (Z.keepS hs) (Z.Yd.nilc rfl rfl) ?_
  refine Z.l rfl rfl (by rfl) (Z.keepS hs) (Z.Yd.fieldA (m := 1) rfl (by kernel_rfl)) ?_
  refine Z.l rfl rfl (by rfl) (Z.keepS hs) (by first | exact Z.Yd.load rfl Try.isAgg3 (fun _ => Z.cellB (by first | ((repeat (first | exact List.mem_cons_self | refine List.mem_cons_of_mem _ ?_ | refine List.mem_append_right _ ?_)); done) | fail) rfl) | exact Z.Yd.load rfl Try.isAgg3 (fun _ => Z.cellO (by assumption) (by simp) (by assumption)) | fail "load 3.3") ?_
  refine Z.le rfl trivial ?_
  refine Z.ZO.alloc rfl rfl (by rfl) Try.zeroValue3 rfl hs ?_
  clear hs; intro g8 w8 hs
  refine Z.le rfl trivial ?_
  first | refine Z.ZO.store rfl rfl hs Try.sizeOf3 rfl rfl rfl (by first | exact SX.at0 | exact SX.at1 | exact SX.at2 | exact SX.at3 | exact SX.at4 | exact SX.at5 | exact Z.at6 | exact Z.at7 | exact Z.at8 | exact Z.at9 | exact Z.at10 | exact Z.at11 | exact Z.at12) (by first | (simp; done) | (simp; omega)) ?_ | refine Z.ZO.storeR rfl rfl hs Try.sizeOf3 rfl rfl rfl (by first | exact SX.at0 | exact SX.at1 | exact SX.at2 | exact SX.at3 | exact SX.at4 | exact SX.at5 | exact Z.at6 | exact Z.at7 | exact Z.at8 | exact Z.at9 | exact Z.at10 | exact Z.at11 | exact Z.at12) (by first | omega | (simp [ints_length]; done) | (simp [ints_length]; omega)) ?_
  clear hs; intro ws hs
  simp only [Nat.zero_add, Nat.add_zero, Nat.reduceAdd, Int.reduceToNat, Nat.reduceMul, List.set_cons_zero, List.set_cons_succ, List.setIfInBounds_toArray] at hs
  refine Z.lnil ?_
  refine Z.only [1, 2, 3, 6, 7, 8] rfl ?_
  refine Z.nthen ?_
  refine Z.seq ?_
  refine Z.region ?_
  refine Z.lb 1 rfl ?_
  refine Z.le rfl trivial ?_
  refine Z.ZO.defer rfl rfl rfl rfl ?_
  refine Z.lnil ?_
  refine Z.only [1, 2, 6, 7] rfl ?_
  replace hs : SX.St w M _ (RdL g T svb l a ++ [SX.Ent.blk g8 3 #[.int .i64 (a : Int)], SX.Ent.blk g7 27 #[.int .i64 0], SX.Ent.blk g6 78 #[.slice none 0 0], SX.Ent.blk g3 74 #[.pointer (some ⟨g, 0, none⟩)], SX.Ent.row (.slice none 0 0) 62 1 0 []]) := hs.sel [4, 5, 0, 1, 2, 3, 6] (by decide)
  refine Z.nthen ?_
  refine Z.seq ?_
  refine Z.seq ?_
  refine Z.region ?_
  refine Z.lb 1 rfl ?_
  refine Z.l rfl rfl (by rfl) (Z.keepS hs) (Z.Yd.lenS rfl Try.underlying91) ?_
  refine Z.lb 1 rfl ?_
  refine Z.lnil ?_
  refine Z.only [2, 6, 7, 20, 21, 22] rfl ?_
  refine Z.nthen ?_
  refine Z.block ?_
  refine Z.loopk (ι := Nat × Value) [2, 6, 7, 20, 21] rfl (fun k => [(22, [], .int .i64 (k.1 : Int))]) (fun k wr => k.1 ≤ n ∧ gsE l a (ds.take k.1) = 0 ∧ SX.St w M wr (RdL g T svb l (gsA l a (ds.take k.1)) ++ [SX.Ent.blk g8 3 #[.int .i64 (a : Int)], SX.Ent.blk g7 27 #[.int .i64 0], SX.Ent.blk g6 78 #[k.2], SX.Ent.blk g3 74 #[.pointer (some ⟨g, 0, none⟩)], SX.Ent.row k.2 62 1 k.1 (ints .u64 (gsV l a (ds.take k.1)))])) (fun k => n - k.1) (0, .slice none 0 0) (by refine ⟨?_, trivial⟩ <;> (first | rfl | (refine Z.lookv rfl ?_; simp; done) | (refine Z.lookv rfl ?_; simp; omega))) ⟨by omega, rfl, hs⟩ ?_
  clear hs
  rintro ⟨k, so⟩ w1 ⟨hkn, hz, hs⟩
  refine Z.only [2, 6, 7, 20, 21, 22] rfl ?_
  (try dsimp only at hs)
  dsimp only at hkn hz
  simp only [RdL, List.cons_append, List.nil_append] at hs
  refine Z.seq ?_
  refine Z.region ?_
  refine Z.lb 1 rfl ?_
  refine Z.lnil ?_
  refine Z.only [2, 6, 7, 20, 21, 22, 23] rfl ?_
  refine Z.nthen ?_
  refine Z.seq ?_
  refine Z.cond rfl (fun hc6 => ?_) (fun hc6 => ?_)
  · first
      | (exfalso; simp at hc6 <;> omega)
      | (
        (try simp at hc6)
        obtain ⟨b, off, rfl, hx⟩ := hx.some (by simp [ints]; omega)
        have hwk : ds[k]? = some (elt ds (k : Int)) := by
          rw [List.getElem?_eq_getElem (by omega)]
          simp [elt, show k < ds.length by omega]
        have hga := gsA_le (l := l) (ws := ds.take k) ha
        refine Z.skip ?_
        refine Z.nthen ?_
        refine Z.seq ?_
        refine Z.block ?_
        refine Z.seq ?_
        refine Z.region ?_
        refine Z.l rfl rfl (by rfl) (Z.keepS hs) (Z.Yd.elem rfl rfl Try.underlying91 Try.sizeOf3 (fun hG => ⟨(by first | omega | (have hG' := Z.gh rfl hG; simp at hG'; omega)), (by first | omega | (have hG' := Z.gh rfl hG; simp at hG'; omega))⟩)) ?_
        refine Z.l rfl rfl (by rfl) (Z.keepS hs) (by first | exact Z.Yd.load rfl Try.isAgg3 (fun hG => Z.cellR (by first | ((repeat (first | exact List.mem_cons_self | refine List.mem_cons_of_mem _ ?_ | refine List.mem_append_right _ ?_)); done) | fail) (Z.ints_at (by first | omega | (have hG' := Z.gh rfl hG; simp at hG'; omega)) (by first | omega | (have hG' := Z.gh rfl hG; simp at hG'; omega)))) | exact Z.Yd.load rfl Try.isAgg3 (fun hG => Z.cellXi (by assumption) (by first | omega | (have hG' := Z.gh rfl hG; simp at hG'; omega)) (by first | omega | (have hG' := Z.gh rfl hG; simp at hG'; omega))) | exact Z.Yd.load rfl Try.isAgg3 (fun hG => Z.cellS (by assumption) rfl (by first | omega | (have hG' := Z.gh rfl hG; simp at hG'; omega)) (by first | omega | (have hG' := Z.gh rfl hG; simp at hG'; omega))) | fail "load 7.1") ?_
        refine Z.lb 1 rfl ?_
        refine Z.lnil ?_
        refine Z.only [2, 6, 7, 10, 20, 21, 22] rfl ?_
        refine Z.nthen ?_
        refine Z.seq ?_
        refine Z.region ?_
        refine Z.lb 2 rfl ?_
        refine Z.le rfl trivial ?_
        refine Z.ZO.call rfl rfl (by rfl) rfl rfl Try.call66 rfl (rget_any g T svb l _ (elt ds (k : Int)) _ (hs.lend (L1 := RdL _ _ _ _ _)) hll hga hb) ?_
        rintro v8_2 w8_2 ⟨rfl, hzz⟩
        replace hs := hs.regain (L1 := RdL _ _ _ _ _) hzz
        simp only [RdL, List.cons_append, List.nil_append] at hs
        refine Z.lb 5 rfl ?_
        refine Z.lnil ?_
        refine Z.only [2, 6, 7, 11, 12, 20, 21, 22] rfl ?_
        refine Z.nthen ?_
        refine Z.seq ?_
        refine Z.seq ?_
        refine Z.region ?_
        refine Z.lb 2 rfl ?_
        refine Z.lnil ?_
        refine Z.only [2, 6, 7, 11, 12, 20, 21, 22, 33] rfl ?_
        refine Z.nthen ?_
        refine Z.cond rfl (fun hc9 => ?_) (fun hc9 => ?_)
        · first
            | (exfalso; simp at hc9 <;> omega)
            | (
              (try simp at hc9)
              refine Z.seq ?_
              refine Z.region ?_
              refine Z.lb 1 rfl ?_
              refine Z.le rfl trivial ?_
              first | refine Z.ZO.store rfl rfl hs Try.sizeOf78 rfl rfl rfl (by first | exact SX.at0 | exact SX.at1 | exact SX.at2 | exact SX.at3 | exact SX.at4 | exact SX.at5 | exact Z.at6 | exact Z.at7 | exact Z.at8 | exact Z.at9 | exact Z.at10 | exact Z.at11 | exact Z.at12) (by first | (simp; done) | (simp; omega)) ?_ | refine Z.ZO.storeR rfl rfl hs Try.sizeOf78 rfl rfl rfl (by first | exact SX.at0 | exact SX.at1 | exact SX.at2 | exact SX.at3 | exact SX.at4 | exact SX.at5 | exact Z.at6 | exact Z.at7 | exact Z.at8 | exact Z.at9 | exact Z.at10 | exact Z.at11 | exact Z.at12) (by first | omega | (simp [ints_length]; done) | (simp [ints_length]; omega)) ?_
              clear hs; intro ws hs
              simp only [Nat.zero_add, Nat.add_zero, Nat.reduceAdd, Int.reduceToNat, Nat.reduceMul, List.set_cons_zero, List.set_cons_succ, List.setIfInBounds_toArray] at hs
              refine Z.le rfl trivial ?_
              first | refine Z.ZO.store rfl rfl hs Try.sizeOf27 rfl rfl rfl (by first | exact SX.at0 | exact SX.at1 | exact SX.at2 | exact SX.at3 | exact SX.at4 | exact SX.at5 | exact Z.at6 | exact Z.at7 | exact Z.at8 | exact Z.at9 | exact Z.at10 | exact Z.at11 | exact Z.at12) (by first | (simp; done) | (simp; omega)) ?_ | refine Z.ZO.storeR rfl rfl hs Try.sizeOf27 rfl rfl rfl (by first | exact SX.at0 | exact SX.at1 | exact SX.at2 | exact SX.at3 | exact SX.at4 | exact SX.at5 | exact Z.at6 | exact Z.at7 | exact Z.at8 | exact Z.at9 | exact Z.at10 | exact Z.at11 | exact Z.at12) (by first | omega | (simp [ints_length]; done) | (simp [ints_length]; omega)) ?_
              clear hs; intro ws hs
              simp only [Nat.zero_add, Nat.add_zero, Nat.reduceAdd, Int.reduceToNat, Nat.reduceMul, List.set_cons_zero, List.set_cons_succ, List.setIfInBounds_toArray] at hs
              refine Z.lnil ?_
              refine Z.only [6, 7] rfl ?_
              refine Z.nthen ?_
              refine Z.ret ?_
              repeat (first | refine Z.rthen ?_ | refine Z.rblock ?_ | refine Z.rscope ?_)
              -- ret#0
              refine Z.outD1 Try.call79 (back64 g7 g8 g3 g6 g T svb _ _ a _ _ (SX.St.lend (L1 := dfL _ _ _ _ _ _ _ _ _ _ _ _) (L2 := [_, _]) (hs.sel [3, 2, 5, 4, 0, 1, 6] (by decide)))) ?_
              rintro vD wD hzz
              replace hs := SX.St.regain (L1 := dfL _ _ _ _ _ _ _ _ _ _ _ _) (L2 := [_, _]) (hs.sel [3, 2, 5, 4, 0, 1, 6] (by decide)) hzz
              simp only [dfL, List.cons_append, List.nil_append] at hs
              refine ⟨[_, _], (by exact ⟨⟨_, rfl, Z.rvc hs Try.isAgg78 (by first | ((repeat (first | exact List.mem_cons_self | refine List.mem_cons_of_mem _ ?_ | refine List.mem_append_right _ ?_)); done) | fail) rfl⟩, ⟨_, rfl, Z.rvc hs Try.isAgg27 (by first | ((repeat (first | exact List.mem_cons_self | refine List.mem_cons_of_mem _ ?_ | refine List.mem_append_right _ ?_)); done) | fail) rfl⟩, trivial⟩), ?_⟩
              have e := gsE_at hwk hz hc9
              rw [if_neg hc9, if_neg hc9] at hs
              refine ⟨_, rfl, _, by rw [if_neg hc9, e]; rfl, ?_⟩
              rw [if_neg (by rw [e]; exact hc9), if_neg (by rw [e]; exact hc9), if_neg (by rw [e]; exact hc9)]
              exact (hs.nil 62 1).sel [5, 6, 0] (by decide)
              )
        · first
            | (exfalso; simp at hc9 <;> omega)
            | (
              (try simp at hc9)
              refine Z.skip ?_
              refine Z.nthen ?_
              refine Z.region ?_
              refine Z.l rfl rfl (by rfl) (Z.keepS hs) (by first | exact Z.Yd.load rfl Try.isAgg78 (fun _ => Z.cellB (by first | ((repeat (first | exact List.mem_cons_self | refine List.mem_cons_of_mem _ ?_ | refine List.mem_append_right _ ?_)); done) | fail) rfl) | exact Z.Yd.load rfl Try.isAgg78 (fun _ => Z.cellO (by assumption) (by simp) (by assumption)) | fail "load 11.0") ?_
              refine Z.lb 1 rfl ?_
              refine Z.le rfl trivial ?_
              refine Z.ZO.lit rfl rfl (by rfl) rfl (by intro W; go_simp; exact rfl) hs ?_
              clear hs; intro g37 w37 hs
              refine Z.le rfl trivial ?_
              refine Z.ZO.append (i0 := Try.t62) (size := 1) (bytes := 8) rfl rfl (by rfl) hs Try.underlying78 (by kernel_rfl) rfl rfl rfl rfl (by decide) rfl rfl (by first | exact SX.at0 | exact SX.at1 | exact SX.at2 | exact SX.at3 | exact SX.at4 | exact SX.at5 | exact Z.at6 | exact Z.at7 | exact Z.at8 | exact Z.at9 | exact Z.at10 | exact Z.at11 | exact Z.at12) (by first | exact SX.at0 | exact SX.at1 | exact SX.at2 | exact SX.at3 | exact SX.at4 | exact SX.at5 | exact Z.at6 | exact Z.at7 | exact Z.at8 | exact Z.at9 | exact Z.at10 | exact Z.at11 | exact Z.at12) (by first | rfl | simp) (by simp [Value.oneCell']) (by decide) (by unfold maxLen; omega) (by omega) ?_
              clear hs; intro g38 cap38 w38 hs
              simp only [List.set_cons_zero, List.set_cons_succ, List.eraseIdx_cons_zero, List.eraseIdx_cons_succ] at hs
              refine Z.le rfl trivial ?_
              first | refine Z.ZO.store rfl rfl hs Try.sizeOf78 rfl rfl rfl (by first | exact SX.at0 | exact SX.at1 | exact SX.at2 | exact SX.at3 | exact SX.at4 | exact SX.at5 | exact Z.at6 | exact Z.at7 | exact Z.at8 | exact Z.at9 | exact Z.at10 | exact Z.at11 | exact Z.at12) (by first | (simp; done) | (simp; omega)) ?_ | refine Z.ZO.storeR rfl rfl hs Try.sizeOf78 rfl rfl rfl (by first | exact SX.at0 | exact SX.at1 | exact SX.at2 | exact SX.at3 | exact SX.at4 | exact SX.at5 | exact Z.at6 | exact Z.at7 | exact Z.at8 | exact Z.at9 | exact Z.at10 | exact Z.at11 | exact Z.at12) (by first | omega | (simp [ints_length]; done) | (simp [ints_length]; omega)) ?_
              clear hs; intro ws hs
              simp only [Nat.zero_add, Nat.add_zero, Nat.reduceAdd, Int.reduceToNat, Nat.reduceMul, List.set_cons_zero, List.set_cons_succ, List.setIfInBounds_toArray] at hs
              refine Z.lnil ?_
              refine Z.only [2, 6, 7, 20, 21, 22] rfl ?_
              refine Z.nblock ?_
              refine Z.nthen ?_
              refine Z.region ?_
              refine Z.l rfl rfl (by rfl) (Z.keepS hs) (Z.Yd.add rfl rfl (fun hG => Z.wi64 (by first | omega | (have hG' := Z.gh rfl hG; simp at hG'; omega)))) ?_
              refine Z.lb 1 rfl ?_
              refine Z.lnil ?_
              refine Z.only [2, 6, 7, 20, 21, 22] rfl ?_
              refine Z.nthen ?_
              obtain ⟨e1, e2, e3⟩ := gs_snoc hwk hz hc9
              have e4 : ints .u64 (gsV l a (ds.take k)) ++ [.int .u64 (getV l (gsA l a (ds.take k)) (elt ds (k : Int)))] = ints .u64 (gsV l a (ds.take (k + 1))) := by rw [e3]; simp [ints]
              rw [e4, ← e2] at hs
              exact Z.again (k + 1, _) (by refine ⟨?_, ?_, ?_, ?_, ?_, ?_, trivial⟩ <;> (first | rfl | (refine Z.lookv rfl ?_; simp; done) | (refine Z.lookv rfl ?_; simp; omega))) ⟨by simp only; omega, e1, hs⟩ (by simp only; omega)
              )
        )
  · first
      | (exfalso; simp at hc6 <;> omega)
      | (
        (try simp at hc6)
        refine Z.exit ?_
        refine Z.xthen ?_
        refine Z.xthen ?_
        refine Z.xblock ?_
        refine Z.nthen ?_
        refine Z.seq ?_
        refine Z.region ?_
        obtain ⟨Ao, co, rfl, -, -, -⟩ := SX.row_slv hs (j := 6) rfl
        refine Z.l rfl rfl (by rfl) (Z.keepS hs) (by first | exact Z.Yd.load rfl Try.isAgg78 (fun _ => Z.cellB (by first | ((repeat (first | exact List.mem_cons_self | refine List.mem_cons_of_mem _ ?_ | refine List.mem_append_right _ ?_)); done) | fail) rfl) | exact Z.Yd.load rfl Try.isAgg78 (fun _ => Z.cellO (by assumption) (by simp) (by assumption)) | fail "load 13.0") ?_
        refine Z.le rfl trivial ?_
        first | refine Z.ZO.store rfl rfl hs Try.sizeOf78 rfl rfl rfl (by first | exact SX.at0 | exact SX.at1 | exact SX.at2 | exact SX.at3 | exact SX.at4 | exact SX.at5 | exact Z.at6 | exact Z.at7 | exact Z.at8 | exact Z.at9 | exact Z.at10 | exact Z.at11 | exact Z.at12) (by first | (simp; done) | (simp; omega)) ?_ | refine Z.ZO.storeR rfl rfl hs Try.sizeOf78 rfl rfl rfl (by first | exact SX.at0 | exact SX.at1 | exact SX.at2 | exact SX.at3 | exact SX.at4 | exact SX.at5 | exact Z.at6 | exact Z.at7 | exact Z.at8 | exact Z.at9 | exact Z.at10 | exact Z.at11 | exact Z.at12) (by first | omega | (simp [ints_length]; done) | (simp [ints_length]; omega)) ?_
        clear hs; intro ws hs
        simp only [Nat.zero_add, Nat.add_zero, Nat.reduceAdd, Int.reduceToNat, Nat.reduceMul, List.set_cons_zero, List.set_cons_succ, List.setIfInBounds_toArray] at hs
        refine Z.le rfl trivial ?_
        first | refine Z.ZO.store rfl rfl hs Try.sizeOf27 rfl rfl rfl (by first | exact SX.at0 | exact SX.at1 | exact SX.at2 | exact SX.at3 | exact SX.at4 | exact SX.at5 | exact Z.at6 | exact Z.at7 | exact Z.at8 | exact Z.at9 | exact Z.at10 | exact Z.at11 | exact Z.at12) (by first | (simp; done) | (simp; omega)) ?_ | refine Z.ZO.storeR rfl rfl hs Try.sizeOf27 rfl rfl rfl (by first | exact SX.at0 | exact SX.at1 | exact SX.at2 | exact SX.at3 | exact SX.at4 | exact SX.at5 | exact Z.at6 | exact Z.at7 | exact Z.at8 | exact Z.at9 | exact Z.at10 | exact Z.at11 | exact Z.at12) (by first | omega | (simp [ints_length]; done) | (simp [ints_length]; omega)) ?_
        clear hs; intro ws hs
        simp only [Nat.zero_add, Nat.add_zero, Nat.reduceAdd, Int.reduceToNat, Nat.reduceMul, List.set_cons_zero, List.set_cons_succ, List.setIfInBounds_toArray] at hs
        refine Z.lnil ?_
        refine Z.only [6, 7] rfl ?_
        refine Z.nthen ?_
        refine Z.ret ?_
        -- ret#1
        refine Z.outD1 Try.call79 (back64 g7 g8 g3 g6 g T svb _ _ a _ _ (SX.St.lend (L1 := dfL _ _ _ _ _ _ _ _ _ _ _ _) (L2 := [_, _]) (hs.sel [3, 2, 5, 4, 0, 1, 6] (by decide)))) ?_
        rintro vD wD hzz
        replace hs := SX.St.regain (L1 := dfL _ _ _ _ _ _ _ _ _ _ _ _) (L2 := [_, _]) (hs.sel [3, 2, 5, 4, 0, 1, 6] (by decide)) hzz
        simp only [dfL, List.cons_append, List.nil_append] at hs
        refine ⟨[_, _], (by exact ⟨⟨_, rfl, Z.rvc hs Try.isAgg78 (by first | ((repeat (first | exact List.mem_cons_self | refine List.mem_cons_of_mem _ ?_ | refine List.mem_append_right _ ?_)); done) | fail) rfl⟩, ⟨_, rfl, Z.rvc hs Try.isAgg27 (by first | ((repeat (first | exact List.mem_cons_self | refine List.mem_cons_of_mem _ ?_ | refine List.mem_append_right _ ?_)); done) | fail) rfl⟩, trivial⟩), ?_⟩
        obtain rfl : k = n := by omega
        rw [List.take_of_length_le (by omega)] at hz hs
        simp only [if_true] at hs ⊢
        refine ⟨_, rfl, _, by rw [hz]; rfl, ?_⟩
        rw [if_pos hz, if_pos hz, if_pos hz]
        exact hs.sel [4, 5, 6] (by decide)
        )
end Go.Proofs.Ytcieclifabbkjaa

/- Several bytes read, and back if one fails. -/
namespace Go.Proofs.Ytcieclifabbkjaa
open Go.RowKit
set_option linter.unusedSimpArgs false
set_option linter.unusedVariables false

theorem getV8 (l : List Int) (a : Nat) : 0 ≤ getV l a 8 ∧ getV l a 8 < 256 := by
  unfold getV
  split
  · have h := val_lt (bitsAt l a (8 : Int).toNat)
    have h2 : (bitsAt l a (8 : Int).toNat).length ≤ 8 := by simp [bitsAt]; omega
    have h3 : 2 ^ (bitsAt l a (8 : Int).toNat).length ≤ 2 ^ 8 := Nat.pow_le_pow_right (by decide) h2
    have h4 : (2 : Nat) ^ 8 = 256 := by decide
    omega
  · decide
end Go.Proofs.Ytcieclifabbkjaa

/- The reader: GetAll, GetBytes. -/
namespace Go.Proofs.Ytcieclifabbkjaa
open Go.RowKit
set_option linter.unusedSimpArgs false
set_option linter.unusedVariables false

theorem rgetall_any (g T : Nat) (svb : Value) (l : List Int) (a : Nat) (A : Option Addr) (n c : Nat) (ds : List Int) (w : World) (hs : SX.St w (SX.idsOf (RdL g T svb l a)) w (RdL g T svb l a))
    (hx : Sx w (SX.idsOf (RdL g T svb l a)) A (ints .i64 ds)) (hl : ds.length = n) (hn : n ≤ 1000000) (hll : l.length ≤ 1000000) (ha : a ≤ 8 * l.length) (hb : ∀ x ∈ l, 0 ≤ x ∧ x < 256) :
    Calls Try.prog 41 #[.pointer (some ⟨g, 0, none⟩), .slice A n c] w (SX.Ret fun r w' => ∃ so, r = .tuple #[so, .int .i64 (gsE l a ds)] ∧
      SX.St w (SX.idsOf (RdL g T svb l a)) w' (RdL g T svb l (if gsE l a ds = 0 then gsA l a ds else a) ++ [SX.Ent.row so 62 1 (if gsE l a ds = 0 then n else 0) (ints .u64 (if gsE l a ds = 0 then gsV l a ds else []))])) := by
  generalize hM : SX.idsOf (RdL g T svb l a) = M at *
  refine Z.enter Try.func41 rfl Try.ntmps41 rfl rfl ?_
  refine Z.seq ?_
  refine Z.region ?_
  refine Z.lb 2 rfl ?_
  refine Z.lnil ?_
  refine Z.only [0, 1] rfl ?_
  refine Z.nthen ?_
  refine Z.seq ?_
  refine Z.region ?_
  refine Z.lb 4 rfl ?_
  refine Z.le rfl trivial ?_
  refine Z.ZO.call rfl rfl (by rfl) rfl rfl Try.call65 rfl (each64 g T svb l a A n c ds _ hs.all (hx.lent (L2 := []) (by rwa [List.append_nil])) hl hn hll ha hb) ?_
  rintro v1_4 w1_4 ⟨so, rfl, hz⟩
  replace hs := hs.regainAll hz
  refine Z.lb 4 rfl ?_
  refine Z.lnil ?_
  refine Z.only [4, 5] rfl ?_
  refine Z.nthen ?_
  refine Z.ret ?_
  -- ret#0
  refine Z.out2 (by exact ⟨rfl, rfl, trivial⟩) ?_
  exact ⟨_, rfl, so, rfl, hs⟩

theorem gs8 {l : List Int} : ∀ (n : Nat) {a : Nat}, a + 8 * n ≤ 8 * l.length → gsE l a (List.replicate n 8) = 0 ∧ gsA l a (List.replicate n 8) = a + 8 * n
  | 0, a, _ => ⟨rfl, rfl⟩
  | n + 1, a, h => by
    have h1 : getE l a 8 = 0 := getE_ok (l := l) (a := a) (n := 8) (by omega) (by decide)
    have h2 : getA l a 8 = a + 8 := by unfold getA; rw [if_pos h1]; rfl
    obtain ⟨h3, h4⟩ := gs8 (l := l) n (a := a + 8) (by omega)
    refine ⟨?_, ?_⟩
    · simp only [List.replicate_succ, gsE]
      rw [if_pos h1, h2, h3]
    · have e : gsA l a (List.replicate (n + 1) 8) = gsA l (getA l a 8) (List.replicate n 8) := rfl
      rw [e, h2, h4]
      omega
def gbE (l : List Int) (a : Nat) (n : Int) : Int := if n < 0 then 2 else if ((8 * l.length : Int) - a) / 8 < n then 5 else 0
def gbV (l : List Int) (a : Nat) (n : Int) : List Int := if gbE l a n = 0 then gsV l a (List.replicate n.toNat 8) else []
def gbA (l : List Int) (a : Nat) (n : Int) : Nat := if gbE l a n = 0 then a + 8 * n.toNat else a

end Go.Proofs.Ytcieclifabbkjaa

/- The law's valid. -/
namespace Go.Proofs.Ytcieclifabbkjaa
open Go.RowKit
set_option linter.unusedSimpArgs false
set_option linter.unusedVariables false

def vw (f : Int × Int) : Nat := (f.2 % 18446744073709551616 % 65).toNat
def vv (f : Int × Int) : Int := if vw f < 64 then f.1 % 2 ^ vw f else f.1
/-- a field made to fit -/
def vf (f : Int × Int) : Int × Int := (vv f, (vw f : Int))
theorem vw_lt (f : Int × Int) : vw f < 65 := by unfold vw; omega
theorem vv_bd {f : Int × Int} (h : GoodF f) : 0 ≤ vv f ∧ vv f < 18446744073709551616 := by
  have h1 := h.1
  have h2 := h.2.1
  unfold vv
  split
  · have hp : (0 : Int) < 2 ^ vw f := Int.pow_pos (by decide)
    have h3 := Int.emod_nonneg f.1 (Int.ne_of_gt hp)
    have h4 : f.1 % 2 ^ vw f ≤ f.1 := by
      have h5 := Int.emod_add_mul_ediv f.1 (2 ^ vw f)
      have h6 := Int.mul_nonneg (Int.le_of_lt hp) (Int.ediv_nonneg h1 (Int.le_of_lt hp))
      omega
    omega
  · exact ⟨h1, h2⟩
theorem vf_good {f : Int × Int} (h : GoodF f) : GoodF (vf f) := by
  have h1 := vv_bd h
  have h2 := vw_lt f
  exact ⟨h1.1, h1.2, by show _ ≤ (vw f : Int); omega, by show (vw f : Int) ≤ _; omega⟩
theorem vf_chk {f : Int × Int} (h : GoodF f) : chkF (vf f) = 0 := by
  have h1 := vv_bd h
  have h2 := vw_lt f
  unfold chkF
  rw [if_neg (by show ¬ ((vw f : Int) < 0 ∨ 64 < (vw f : Int)); omega)]
  have hq : quoF (vf f) = 0 := by
    show (vv f).toNat / 2 ^ (vw f : Int).toNat = 0
    rw [Int.toNat_natCast]
    apply Nat.div_eq_of_lt
    by_cases h64 : vw f < 64
    · have e : vv f = f.1 % 2 ^ vw f := by unfold vv; rw [if_pos h64]
      have hp : (0 : Int) < 2 ^ vw f := Int.pow_pos (by decide)
      have h3 := Int.emod_lt_of_pos f.1 hp
      have e2 : ((2 ^ vw f : Nat) : Int) = (2 : Int) ^ vw f := by push_cast; rfl
      rw [e] at h1 ⊢
      omega
    · have h5 : vw f = 64 := by omega
      rw [h5]
      have : (2 : Nat) ^ 64 = 18446744073709551616 := by decide
      omega
  rw [if_pos hq]
theorem vfs_chk : ∀ {fs : List (Int × Int)}, (∀ f ∈ fs, GoodF f) → chkA (fs.map vf) = 0
  | [], _ => rfl
  | f :: fs, h => by
    simp only [List.map_cons, chkA]
    rw [if_pos (vf_chk (h f (by simp)))]
    exact vfs_chk fun g hg => h g (by simp [hg])
theorem vfs_good {fs : List (Int × Int)} (h : ∀ f ∈ fs, GoodF f) : ∀ f ∈ fs.map vf, GoodF f := by
  intro f hf
  obtain ⟨g, hg, rfl⟩ := List.mem_map.1 hf
  exact vf_good (h g hg)

theorem wrap65 (f : Int × Int) : IntKind.u64.wrap f.2 = f.2 % 18446744073709551616 := by
  unfold IntKind.wrap
  simp [IntKind.bits, IntKind.signed]
theorem shl_w {w : Nat} (h : w < 64) : IntKind.u64.wrap (1 * 2 ^ (min (w : Int).toNat IntKind.u64.bits)) = 2 ^ w := by
  have e : min (w : Int).toNat IntKind.u64.bits = w := by
    have : IntKind.u64.bits = 64 := rfl
    omega
  rw [e, Int.one_mul]
  have h1 : (2 : Nat) ^ w ≤ 2 ^ 63 := Nat.pow_le_pow_right (by decide) (by omega)
  have h2 : (2 : Nat) ^ 63 = 9223372036854775808 := by decide
  have h3 : ((2 ^ w : Nat) : Int) = (2 : Int) ^ w := by push_cast; rfl
  rw [← h3]
  generalize (2 : Nat) ^ w = q at *
  exact Z.wu64 (by omega)
theorem rem65 (f : Int × Int) : (f.2 % 18446744073709551616).tmod 65 = (vw f : Int) := by
  rw [Z.tmodn (by omega)]
  unfold vw
  omega
theorem rem_w {v : Int} {w : Nat} (h : 0 ≤ v) : v.tmod (2 ^ w) = v % 2 ^ w := Int.tmod_eq_emod_of_nonneg h

end Go.Proofs.Ytcieclifabbkjaa

/- FieldCuts. -/
namespace Go.Proofs.Ytcieclifabbkjaa
open Go.RowKit
set_option linter.unusedSimpArgs false
set_option linter.unusedVariables false

theorem Z.flat_at {α : Type} {enc : α → List Value} {s : Nat} {xs : List α} {i j : Nat} {x : α} {u : Value} (hs : ∀ x, (enc x).length = s) (hx : xs[i]? = some x) (hj : (enc x)[j]? = some u) : (xs.flatMap enc)[0 + (i : Int).toNat * s + j]? = some u := by
  have hjs : j < s := by
    have := (List.getElem?_eq_some_iff.1 hj).1
    rwa [hs x] at this
  rw [Nat.zero_add, Int.toNat_natCast]
  exact (Z.flat_get hs hx hjs).trans hj
/-- all widths together -/
def sumW (ws : List Int) : Nat := (ws.map Int.toNat).sum
theorem gsE_short {l : List Int} : ∀ {ws : List Int} {a : Nat}, (∀ x ∈ ws, 0 ≤ x ∧ x ≤ 64) → 8 * l.length < a + sumW ws → a ≤ 8 * l.length → gsE l a ws = 5
  | [], a, _, h, h2 => by simp [sumW] at h; omega
  | x :: ws, a, hw, h, h2 => by
    have hx := hw x (by simp)
    simp only [sumW, List.map_cons, List.sum_cons] at h
    by_cases he : getE l a x = 0
    · have e : getA l a x = a + x.toNat := by unfold getA; rw [if_pos he]
      have h3 := getA_le (l := l) (w := x) h2
      simp only [gsE, if_pos he]
      rw [e] at h3 ⊢
      exact gsE_short (fun y hy => hw y (by simp [hy])) (by unfold sumW; omega) h3
    · simp only [gsE, if_neg he]
      unfold getE at he ⊢
      rw [if_neg (by omega)] at he ⊢
      split
      · rfl
      · rename_i h5
        rw [if_neg h5] at he
        exact absurd rfl he
theorem sumW_flat : ∀ (fs : List (Int × Int)), (fs.flatMap fldF).length = sumW (fs.map (·.2))
  | [] => rfl
  | f :: fs => by
    have := sumW_flat fs
    simp only [List.flatMap_cons, List.length_append, this, fldF, fld_length, sumW, List.map_cons, List.sum_cons]
def wds (fs : List (Int × Int)) : List Int := (fs.map vf).map (·.2)
theorem wds_bd {fs : List (Int × Int)} : ∀ x ∈ wds fs, 0 ≤ x ∧ x ≤ 64 := by
  intro x hx
  simp only [wds, List.mem_map] at hx
  obtain ⟨f, ⟨g, _, rfl⟩, rfl⟩ := hx
  have := vw_lt g
  show 0 ≤ (vw g : Int) ∧ (vw g : Int) ≤ 64
  omega

end Go.Proofs.Ytcieclifabbkjaa

/- What is written is read back: plain facts. -/
namespace Go.Proofs.Ytcieclifabbkjaa
open Go.RowKit
set_option linter.unusedSimpArgs false
set_option linter.unusedVariables false

theorem val_fld (v : Nat) : ∀ w, val (fld v w) = v % 2 ^ w := by
  have h : ∀ (bs cs : List Bool), val (bs ++ cs) = val bs * 2 ^ cs.length + val cs := by
    have key : ∀ (cs : List Bool) (a : Nat), cs.foldl (fun v b => 2 * v + b.toNat) a = a * 2 ^ cs.length + cs.foldl (fun v b => 2 * v + b.toNat) 0 := by
      intro cs
      induction cs with
      | nil => intro a; simp
      | cons c cs ih =>
        intro a
        simp only [List.foldl_cons, List.length_cons]
        rw [ih (2 * a + c.toNat), ih (2 * 0 + c.toNat), Nat.pow_succ, Nat.add_mul, Nat.mul_zero, Nat.zero_add, ← Nat.mul_assoc, Nat.mul_comm (a * 2 ^ cs.length) 2, ← Nat.mul_assoc, Nat.add_assoc]
    intro bs cs
    unfold val
    rw [List.foldl_append]
    exact key cs _
  intro w
  induction w with
  | zero => simp [fld, val, Nat.mod_one]
  | succ w ih =>
    have e : fld v (w + 1) = [v.testBit w] ++ fld v w := rfl
    rw [e, h, ih, fld_length]
    have e2 : val [v.testBit w] = (v.testBit w).toNat := by simp [val]
    rw [e2, Nat.toNat_testBit, Nat.pow_succ, Nat.mod_mul]
    rw [Nat.mul_comm (2 ^ w)]
    omega
theorem get_next {l : List Int} {a : Nat} {f : Int × Int} {R : List Bool} (hd : (unb l).drop a = fldF f ++ R) (hc : chkF f = 0) (hg : GoodF f) (ha : a ≤ 8 * l.length) :
    getE l a f.2 = 0 ∧ getV l a f.2 = f.1 ∧ getA l a f.2 = a + f.2.toNat ∧ a + f.2.toNat ≤ 8 * l.length ∧ (unb l).drop (a + f.2.toNat) = R := by
  obtain ⟨h1, h2, h3⟩ := chkF_bd hc
  have hl := congrArg List.length hd
  have hfl : (fldF f).length = f.2.toNat := fld_length _ _
  rw [List.length_drop, unb_length, List.length_append, hfl] at hl
  have he : getE l a f.2 = 0 := by
    unfold getE
    rw [if_neg (by omega), if_neg (by omega)]
  refine ⟨he, ?_, by unfold getA; rw [if_pos he], by omega, ?_⟩
  · unfold getV bitsAt
    rw [if_pos he, hd, List.take_left' hfl]
    unfold fldF
    rw [val_fld, Nat.mod_eq_of_lt]
    · have := hg.1
      omega
    · have hq : f.1.toNat / 2 ^ f.2.toNat = 0 := h3
      rcases Nat.div_eq_zero_iff.1 hq with h | h
      · exact absurd h (Nat.ne_of_gt (Nat.pow_pos (by decide)))
      · exact h
  · rw [← List.drop_drop, hd, List.drop_left' hfl]
theorem unb_pk (bs : List Bool) : unb (pk bs) = pad bs := by
  apply List.ext_getElem?
  intro k
  by_cases hk : k < (pk bs).length * 8
  · rw [unb_get hk]
    have hl := pk_length bs
    have e : elt (pk bs) ((k : Int) / 8) = (byt bs (k / 8) : Int) := by
      have := elt_pkn (bs := bs) (m := (bs.length + 7) / 8) (j := k / 8) (by omega)
      rw [← this]
      unfold pk
      congr 1
    rw [e, Int.toNat_natCast]
    have hb : (byt bs (k / 8)).testBit (7 - k % 8) = bt bs k := by
      have hn := bn_le bs
      have hbn : ∀ i, bn bs i = (bt bs i).toNat := fun _ => rfl
      have key : ∀ (b0 b1 b2 b3 b4 b5 b6 b7 : Bool) (r : Nat), r < 8 → (128 * b0.toNat + 64 * b1.toNat + 32 * b2.toNat + 16 * b3.toNat + 8 * b4.toNat + 4 * b5.toNat + 2 * b6.toNat + b7.toNat).testBit (7 - r) = [b0, b1, b2, b3, b4, b5, b6, b7].getD r false := by
        intro b0 b1 b2 b3 b4 b5 b6 b7 r hr
        have h8 : r = 0 ∨ r = 1 ∨ r = 2 ∨ r = 3 ∨ r = 4 ∨ r = 5 ∨ r = 6 ∨ r = 7 := by omega
        rcases h8 with rfl | rfl | rfl | rfl | rfl | rfl | rfl | rfl <;> revert b0 b1 b2 b3 b4 b5 b6 b7 <;> decide
      have := key (bt bs (8 * (k / 8))) (bt bs (8 * (k / 8) + 1)) (bt bs (8 * (k / 8) + 2)) (bt bs (8 * (k / 8) + 3)) (bt bs (8 * (k / 8) + 4)) (bt bs (8 * (k / 8) + 5)) (bt bs (8 * (k / 8) + 6)) (bt bs (8 * (k / 8) + 7)) (k % 8) (by omega)
      unfold byt bn
      rw [this]
      have h8 : k % 8 = 0 ∨ k % 8 = 1 ∨ k % 8 = 2 ∨ k % 8 = 3 ∨ k % 8 = 4 ∨ k % 8 = 5 ∨ k % 8 = 6 ∨ k % 8 = 7 := by omega
      rcases h8 with h | h | h | h | h | h | h | h <;> rw [h] <;> simp <;> congr 1 <;> omega
    rw [hb]
    unfold pad bt
    rw [List.getD_eq_getElem?_getD, List.getElem?_append]
    split
    · rename_i h
      rw [List.getElem?_eq_getElem h]
      rfl
    · rename_i h
      rw [List.getElem?_eq_none (by omega), List.getElem?_replicate, if_pos (by omega)]
      rfl
  · have h1 := unb_length (pk bs)
    have h2 := pad_length bs
    have h3 := pk_length bs
    rw [List.getElem?_eq_none (by omega), List.getElem?_eq_none (by omega)]
theorem val_zero (n : Nat) : val (List.replicate n false) = 0 := by
  induction n with
  | zero => rfl
  | succ n ih => rw [List.replicate_succ', val_snoc, ih]; rfl
theorem gsV_bytes {l : List Int} : ∀ {bl : List Int} {a : Nat} {R : List Bool}, (∀ x ∈ bl, 0 ≤ x ∧ x < 256) → (unb l).drop a = unb bl ++ R → a ≤ 8 * l.length →
    gsV l a (List.replicate bl.length 8) = bl ∧ a + 8 * bl.length ≤ 8 * l.length ∧ (unb l).drop (a + 8 * bl.length) = R
  | [], a, R, _, hd, h => ⟨rfl, by simpa using h, by simpa [unb] using hd⟩
  | x :: bl, a, R, hb, hd, h => by
    have hx := hb x (by simp)
    obtain ⟨n, rfl⟩ := Int.eq_ofNat_of_zero_le hx.1
    have e : unb ((n : Int) :: bl) ++ R = fldF ((n : Int), 8) ++ (unb bl ++ R) := by simp [unb, fldF]
    rw [e] at hd
    have hq : quoF ((n : Int), 8) = 0 := Nat.div_eq_of_lt (by show n < 2 ^ (8 : Int).toNat; have : (2 : Nat) ^ (8 : Int).toNat = 256 := by decide
                                                              omega)
    obtain ⟨h1, h2, h3, h4, h5⟩ := get_next hd (by unfold chkF; rw [if_neg (by show ¬ ((8 : Int) < 0 ∨ 64 < (8 : Int)); decide), if_pos hq]) ⟨hx.1, by show (n : Int) < _; omega, by show _ ≤ (8 : Int); decide, by show (8 : Int) ≤ _; decide⟩ h
    obtain ⟨h6, h7, h8⟩ := gsV_bytes (l := l) (bl := bl) (a := a + 8) (R := R) (fun y hy => hb y (by simp [hy])) h5 h4
    refine ⟨?_, ?_, ?_⟩
    · simp only [List.length_cons, List.replicate_succ, gsV]
      have h3' : getA l a 8 = a + 8 := h3
      have h2' : getV l a 8 = (n : Int) := h2
      rw [h3', h2', h6]
    · simp only [List.length_cons]
      omega
    · simp only [List.length_cons]
      rw [← h8]
      congr 1
      omega
end Go.Proofs.Ytcieclifabbkjaa

/- Status reports: validity. -/
namespace Go.Proofs.Ytcieclifabbkjaa
open Go.RowKit
set_option linter.unusedSimpArgs false
set_option linter.unusedVariables false
--newlaws

structure NkV where
  sn : Int
  part : Bool
  lo : Int
  hi : Int
deriving DecidableEq
def NkV.cells (n : NkV) : List Value := [.int .i64 n.sn, .bool n.part, .int .i64 n.lo, .int .i64 n.hi]
theorem nk_one (n : NkV) : ∀ u ∈ n.cells, u.oneCell' = true := by intro u hu; simp [NkV.cells] at hu; rcases hu with rfl | rfl | rfl | rfl <;> rfl
theorem nk_len (n : NkV) : n.cells.length = 4 := rfl
def Cel (w : World) (g : Nat) (cs : List Value) : Prop := g < w.heap.size ∧ ∀ i u, cs[i]? = some u → w.cell? ⟨g, i, none⟩ = some u
theorem Cel.st {w W : World} {L : List SX.Ent} {g : Nat} {cs : List Value} (h : Cel w g cs) (hW : SX.St w [] W L) : Cel W g cs :=
  ⟨Nat.lt_of_lt_of_le h.1 hW.size, fun i u hu => (hW.oldcell (p := ⟨g, i, none⟩) h.1 (by simp)).trans (h.2 i u hu)⟩
theorem blkLater {w0 w W : World} {M : List Nat} {L L' : List SX.Ent} {g T j : Nat} {cs : Array Value} (hs : SX.St w0 M w L) (hj : L[j]? = some (SX.Ent.blk g T cs)) (hW : SX.St w [] W L') : Cel W g cs.toList := by
  have hr : w.heap[g]? = some (.cells cs T (0, 0)) := hs.get hj
  have hlt := SX.lt_of_some hr
  exact ⟨Nat.lt_of_lt_of_le hlt hW.size, fun i u hu => (hW.oldcell (p := ⟨g, i, none⟩) hlt (by simp)).trans ((SX.cell_blk hr i).trans (by simpa using hu))⟩

def dist (ack sn : Int) : Int := (ack - sn) % 1024
def alone (ack : Int) (n : NkV) : Prop := (0 ≤ n.sn ∧ n.sn < 1024) ∧ (1 ≤ dist ack n.sn ∧ dist ack n.sn ≤ 512) ∧ (if n.part = true then 0 ≤ n.lo ∧ n.lo ≤ n.hi ∧ n.hi ≤ 32767 else n.lo = 0 ∧ n.hi = 0)
instance (ack : Int) (n : NkV) : Decidable (alone ack n) := by unfold alone; infer_instance
def follows (ack : Int) (a b : NkV) : Prop := dist ack b.sn < dist ack a.sn ∨ (a.sn = b.sn ∧ a.part = true ∧ b.part = true ∧ a.hi < b.lo)
instance (ack : Int) (a b : NkV) : Decidable (follows ack a b) := by unfold follows; infer_instance

theorem and1023 (x : Int) : IntKind.i64.wrap ((BitVec.ofInt IntKind.i64.bits (IntKind.i64.wrap x) &&& BitVec.ofInt IntKind.i64.bits 1023).toNat : Int) = x % 1024 := by
  show IntKind.i64.wrap ((BitVec.ofInt 64 (IntKind.i64.wrap x) &&& BitVec.ofInt 64 1023).toNat : Int) = x % 1024
  have e1 : (BitVec.ofInt 64 (IntKind.i64.wrap x)).toNat = (x % 18446744073709551616).toNat := by
    rw [BitVec.toNat_ofInt]
    congr 1
    rw [IntKind.wrap_i64]
    omega
  have e2 : (BitVec.ofInt 64 (1023 : Int)).toNat = 2 ^ 10 - 1 := by decide
  rw [BitVec.toNat_and, e1, e2, Nat.and_two_pow_sub_one_eq_mod, show (2 : Nat) ^ 10 = 1024 from by decide]
  rw [Z.wi64 (by omega)]
  omega
theorem dist_any (ack sn : Int) (w : World) : Calls Try.prog 63 #[.int .i64 ack, .int .i64 sn] w (SX.Ret fun v w' => v = .int .i64 (dist ack sn) ∧ SX.St w [] w' []) := by
  have hs := SX.St.start w
  refine Z.enter Try.func63 rfl Try.ntmps63 rfl rfl ?_
  refine Z.seq ?_
  refine Z.region ?_
  refine Z.lb 1 rfl ?_
  refine Z.lnil ?_
  refine Z.only [0, 1] rfl ?_
  refine Z.nthen ?_
  refine Z.seq ?_
  refine Z.region ?_
  refine Z.lb 2 rfl ?_
  refine Z.l rfl rfl (by rfl) (Z.keepS hs) (Z.Yd.sub rfl rfl (fun _ => rfl)) ?_
  refine Z.l rfl rfl (by rfl) (Z.keepS hs) (Z.Yd.and rfl rfl (fun _ => and1023 _)) ?_
  refine Z.lb 1 rfl ?_
  refine Z.lnil ?_
  refine Z.only [4] rfl ?_
  refine Z.nthen ?_
  refine Z.ret ?_
  -- ret#0
  refine Z.out1 (by exact ⟨rfl, trivial⟩) ?_
  first | exact ⟨_, rfl, rfl, hs⟩ | exact ⟨_, rfl, rfl, hs.sub (List.nil_sublist _)⟩
theorem rdist_any (ack sn : Int) (w : World) (ha : 0 ≤ ack ∧ ack ≤ 1023) (hn : 0 ≤ sn ∧ sn ≤ 1023) : Calls Try.prog 64 #[.int .i64 ack, .int .i64 sn] w (SX.Ret fun v w' => v = .int .i64 (dist ack sn) ∧ SX.St w [] w' []) := by
  have hs := SX.St.start w
  refine Z.enter Try.func64 rfl Try.ntmps64 rfl rfl ?_
  refine Z.seq ?_
  refine Z.region ?_
  refine Z.lb 1 rfl ?_
  refine Z.lnil ?_
  refine Z.only [0, 1] rfl ?_
  refine Z.nthen ?_
  refine Z.seq ?_
  refine Z.region ?_
  refine Z.lb 2 rfl ?_
  refine Z.l rfl rfl (by rfl) (Z.keepS hs) (Z.Yd.sub rfl rfl (fun hG => Z.wi64 (by first | omega | (have hG' := Z.gh rfl hG; simp at hG'; omega)))) ?_
  refine Z.l rfl rfl (by rfl) (Z.keepS hs) (Z.Yd.add rfl rfl (fun hG => Z.wi64 (by first | omega | (have hG' := Z.gh rfl hG; simp at hG'; omega)))) ?_
  refine Z.l rfl rfl (by rfl) (Z.keepS hs) (Z.Yd.rem rfl rfl (by intro hG; first | decide | omega) (by intro hG; first | exact Z.tmodn (by omega) | exact rfl)) ?_
  refine Z.lb 1 rfl ?_
  refine Z.lnil ?_
  refine Z.only [4] rfl ?_
  refine Z.nthen ?_
  refine Z.ret ?_
  -- ret#0
  refine Z.out1 (by exact ⟨rfl, trivial⟩) ?_
  exact ⟨_, rfl, by unfold dist; congr 1; omega, hs⟩
theorem alone1 (g : Nat) (n : NkV) (w : World) (hc : Cel w g n.cells) : Calls Try.prog 58 #[.pointer (some ⟨g, 0, none⟩)] w (SX.Ret fun v w' => v = .bool (decide (n.lo = 0 ∧ n.hi = 0)) ∧ SX.St w [] w' []) := by
  have hs := SX.St.start w
  refine Z.enter Try.func58 rfl Try.ntmps58 rfl rfl ?_
  refine Z.seq ?_
  refine Z.region ?_
  refine Z.lb 1 rfl ?_
  refine Z.lnil ?_
  refine Z.only [0] rfl ?_
  refine Z.nthen ?_
  refine Z.seq ?_
  refine Z.region ?_
  refine Z.l rfl rfl (by rfl) (Z.keepS hs) (Z.Yd.fieldA (m := 2) rfl (by kernel_rfl)) ?_
  refine Z.l rfl rfl (by rfl) (Z.keepS hs) (Z.Yd.load rfl Try.isAgg3 (fun _ => Z.cellO hc.1 (by simp) (hc.2 2 _ rfl))) ?_
  refine Z.lb 2 rfl ?_
  refine Z.l rfl rfl (by rfl) (Z.keepS hs) (Z.Yd.fieldA (m := 3) rfl (by kernel_rfl)) ?_
  refine Z.l rfl rfl (by rfl) (Z.keepS hs) (Z.Yd.load rfl Try.isAgg3 (fun _ => Z.cellO hc.1 (by simp) (hc.2 3 _ rfl))) ?_
  refine Z.lb 3 rfl ?_
  refine Z.lnil ?_
  refine Z.only [1] rfl ?_
  refine Z.nthen ?_
  refine Z.ret ?_
  -- ret#0
  refine Z.out1 (by exact ⟨rfl, trivial⟩) ?_
  exact ⟨_, rfl, by congr 1; simp; rfl, hs⟩
theorem alone2 (g : Nat) (n : NkV) (w : World) (hc : Cel w g n.cells) : Calls Try.prog 59 #[.pointer (some ⟨g, 0, none⟩)] w (SX.Ret fun v w' => v = .bool (decide (0 ≤ n.lo ∧ n.lo ≤ n.hi ∧ n.hi ≤ 32767)) ∧ SX.St w [] w' []) := by
  have hs := SX.St.start w
  refine Z.enter Try.func59 rfl Try.ntmps59 rfl rfl ?_
  refine Z.seq ?_
  refine Z.region ?_
  refine Z.lb 1 rfl ?_
  refine Z.lnil ?_
  refine Z.only [0] rfl ?_
  refine Z.nthen ?_
  refine Z.seq ?_
  refine Z.region ?_
  refine Z.l rfl rfl (by rfl) (Z.keepS hs) (Z.Yd.fieldA (m := 2) rfl (by kernel_rfl)) ?_
  refine Z.l rfl rfl (by rfl) (Z.keepS hs) (Z.Yd.load rfl Try.isAgg3 (fun _ => Z.cellO hc.1 (by simp) (hc.2 2 _ rfl))) ?_
  refine Z.lb 2 rfl ?_
  refine Z.l rfl rfl (by rfl) (Z.keepS hs) (Z.Yd.fieldA (m := 2) rfl (by kernel_rfl)) ?_
  refine Z.l rfl rfl (by rfl) (Z.keepS hs) (Z.Yd.load rfl Try.isAgg3 (fun _ => Z.cellO hc.1 (by simp) (hc.2 2 _ rfl))) ?_
  refine Z.l rfl rfl (by rfl) (Z.keepS hs) (Z.Yd.fieldA (m := 3) rfl (by kernel_rfl)) ?_
  refine Z.l rfl rfl (by rfl) (Z.keepS hs) (Z.Yd.load rfl Try.isAgg3 (fun _ => Z.cellO hc.1 (by simp) (hc.2 3 _ rfl))) ?_
  refine Z.lb 3 rfl ?_
  refine Z.l rfl rfl (by rfl) (Z.keepS hs) (Z.Yd.fieldA (m := 3) rfl (by kernel_rfl)) ?_
  refine Z.l rfl rfl (by rfl) (Z.keepS hs) (Z.Yd.load rfl Try.isAgg3 (fun _ => Z.cellO hc.1 (by simp) (hc.2 3 _ rfl))) ?_
  refine Z.lb 3 rfl ?_
  refine Z.lnil ?_
  refine Z.only [1] rfl ?_
  refine Z.nthen ?_
  refine Z.ret ?_
  -- ret#0
  refine Z.out1 (by exact ⟨rfl, trivial⟩) ?_
  exact ⟨_, rfl, by congr 1; simp [Bool.and_assoc], hs⟩
theorem alone3 (g : Nat) (n : NkV) (w : World) (hc : Cel w g n.cells) : Calls Try.prog 61 #[.pointer (some ⟨g, 0, none⟩)] w (SX.Ret fun v w' => v = .bool (decide (0 ≤ n.sn ∧ n.sn < 1024)) ∧ SX.St w [] w' []) := by
  have hs := SX.St.start w
  refine Z.enter Try.func61 rfl Try.ntmps61 rfl rfl ?_
  refine Z.seq ?_
  refine Z.region ?_
  refine Z.lb 1 rfl ?_
  refine Z.lnil ?_
  refine Z.only [0] rfl ?_
  refine Z.nthen ?_
  refine Z.seq ?_
  refine Z.region ?_
  refine Z.l rfl rfl (by rfl) (Z.keepS hs) (Z.Yd.fieldA (m := 0) rfl (by kernel_rfl)) ?_
  refine Z.l rfl rfl (by rfl) (Z.keepS hs) (Z.Yd.load rfl Try.isAgg3 (fun _ => Z.cellO hc.1 (by simp) (hc.2 0 _ rfl))) ?_
  refine Z.lb 2 rfl ?_
  refine Z.l rfl rfl (by rfl) (Z.keepS hs) (Z.Yd.fieldA (m := 0) rfl (by kernel_rfl)) ?_
  refine Z.l rfl rfl (by rfl) (Z.keepS hs) (Z.Yd.load rfl Try.isAgg3 (fun _ => Z.cellO hc.1 (by simp) (hc.2 0 _ rfl))) ?_
  refine Z.lb 3 rfl ?_
  refine Z.lnil ?_
  refine Z.only [1] rfl ?_
  refine Z.nthen ?_
  refine Z.ret ?_
  -- ret#0
  refine Z.out1 (by exact ⟨rfl, trivial⟩) ?_
  exact ⟨_, rfl, by congr 1; simp, hs⟩
theorem alone4 (ga g : Nat) (ack : Int) (n : NkV) (w : World) (ha : Cel w ga [.int .i64 ack]) (hc : Cel w g n.cells) : Calls Try.prog 62 #[.pointer (some ⟨ga, 0, none⟩), .pointer (some ⟨g, 0, none⟩)] w (SX.Ret fun v w' => v = .bool (decide (1 ≤ dist ack n.sn ∧ dist ack n.sn ≤ 512)) ∧ SX.St w [] w' []) := by
  have hs := SX.St.start w
  refine Z.enter Try.func62 rfl Try.ntmps62 rfl rfl ?_
  refine Z.seq ?_
  refine Z.region ?_
  refine Z.lb 1 rfl ?_
  refine Z.lnil ?_
  refine Z.only [0, 1] rfl ?_
  refine Z.nthen ?_
  refine Z.seq ?_
  refine Z.region ?_
  refine Z.l rfl rfl (by rfl) (Z.keepS hs) (Z.Yd.load rfl Try.isAgg3 (fun _ => Z.cellO ha.1 (by simp) (ha.2 0 _ rfl))) ?_
  refine Z.l rfl rfl (by rfl) (Z.keepS hs) (Z.Yd.fieldA (m := 0) rfl (by kernel_rfl)) ?_
  refine Z.l rfl rfl (by rfl) (Z.keepS hs) (Z.Yd.load rfl Try.isAgg3 (fun _ => Z.cellO hc.1 (by simp) (hc.2 0 _ rfl))) ?_
  refine Z.le rfl trivial ?_
  refine Z.ZO.call rfl rfl (by rfl) rfl rfl Try.call63 rfl (dist_any _ _ _) ?_
  rintro v1_3 w1_3 ⟨rfl, hy⟩
  replace hs := hs.call hy
  clear hy
  try simp only [List.cons_append, List.nil_append, List.append_nil] at hs
  refine Z.lb 1 rfl ?_
  refine Z.lnil ?_
  refine Z.only [3] rfl ?_
  refine Z.nthen ?_
  refine Z.seq ?_
  refine Z.region ?_
  refine Z.lb 7 rfl ?_
  refine Z.lnil ?_
  refine Z.only [2] rfl ?_
  refine Z.nthen ?_
  refine Z.ret ?_
  -- ret#0
  refine Z.out1 (by exact ⟨rfl, trivial⟩) ?_
  exact ⟨_, rfl, by congr 1; simp, hs⟩
end Go.Proofs.Ytcieclifabbkjaa

/- Status reports: entries by themselves and one behind the other. -/
namespace Go.Proofs.Ytcieclifabbkjaa
open Go.RowKit
set_option linter.unusedSimpArgs false
set_option linter.unusedVariables false
--newlaws

theorem SX.St.celOf {w0 w : World} {M : List Nat} {L : List SX.Ent} {g T : Nat} {cs : List Value} (hs : SX.St w0 M w L) (hm : SX.Ent.blk g T cs.toArray ∈ L) : Cel w g cs := by
  have hr : w.heap[g]? = some (.cells cs.toArray T (0, 0)) := hs.ok _ hm
  exact ⟨SX.lt_of_some hr, fun i u hu => (SX.cell_blk hr i).trans (by simpa using hu)⟩
def fv (k : Nat) (cap : Array Value) : Value := .func (.func k) #[] cap
/-- a function value that says b, whatever has been built since -/
def Says (w : World) (k : Nat) (cap : Array Value) (b : Bool) : Prop := (∀ args w, (callFunc k args).run Try.prog w = .ok (.enter k args) w) ∧ ∀ W L, SX.St w [] W L → Calls Try.prog k cap W (SX.Ret fun v w' => v = .bool b ∧ SX.St W [] w' [])
theorem Says.st {w W : World} {L : List SX.Ent} {k : Nat} {cap : Array Value} {b : Bool} (h : Says w k cap b) (hW : SX.St w [] W L) : Says W k cap b := ⟨h.1, fun W' L' hW' => h.2 W' (L' ++ L) (SX.St.call hW hW')⟩
theorem not1_any (k : Nat) (cap : Array Value) (b : Bool) (w : World) (h : Says w k cap b) : Calls Try.prog 78 #[fv k cap] w (SX.Ret fun v w' => v = .bool (!b) ∧ SX.St w [] w' []) := by
  have hs := SX.St.start w
  unfold fv
  refine Z.enter Try.func78 rfl Try.ntmps78 rfl rfl ?_
  refine Z.seq ?_
  refine Z.region ?_
  refine Z.lb 1 rfl ?_
  refine Z.lnil ?_
  refine Z.only [0] rfl ?_
  refine Z.nthen ?_
  refine Z.seq ?_
  refine Z.region ?_
  refine Z.lb 1 rfl ?_
  refine Z.le rfl trivial ?_
  refine Z.ZO.call rfl rfl (by rfl) rfl rfl h.1 (by first | rfl | simp) (h.2 _ _ hs) ?_
  rintro v1_1 w1_1 ⟨rfl, hy⟩
  replace hs := hs.call hy
  clear hy
  try simp only [List.cons_append, List.nil_append, List.append_nil] at hs
  refine Z.lb 2 rfl ?_
  refine Z.lnil ?_
  refine Z.only [2] rfl ?_
  refine Z.nthen ?_
  refine Z.ret ?_
  -- ret#0
  refine Z.out1 (by exact ⟨rfl, trivial⟩) ?_
  first | exact ⟨_, rfl, rfl, hs⟩ | exact ⟨_, rfl, rfl, hs.sub (List.nil_sublist _)⟩
abbrev FnV := Nat × Array Value × Bool
def encFn (f : FnV) : List Value := [fv f.1 f.2.1]
/-- the first that says no -/
def firstNo (l : List FnV) : Int := if l.all (fun f => f.2.2) = true then -1 else (l.findIdx (fun f => !f.2.2) : Int)
theorem allIndex (A : Option Addr) (n c : Nat) (l : List FnV) (w : World) (hx : Sl w A (l.flatMap encFn)) (hl : l.length = n) (hn : n ≤ 1000) (hf : ∀ f ∈ l, Says w f.1 f.2.1 f.2.2) :
    Calls Try.prog 82 #[.slice A n c, .func (.func 78) #[] #[]] w (SX.Ret fun v w' => (∃ i : Int, v = .int .i64 i ∧ (decide (0 ≤ i) = !l.all fun f => f.2.2)) ∧ SX.St w [] w' []) := by
  have hs := SX.St.start w
  refine Z.enter Try.func82 rfl Try.ntmps82 rfl rfl ?_
  refine Z.seq ?_
  refine Z.region ?_
  refine Z.lb 1 rfl ?_
  refine Z.lnil ?_
  refine Z.only [0, 1] rfl ?_
  refine Z.nthen ?_
  refine Z.seq ?_
  refine Z.seq ?_
  refine Z.region ?_
  refine Z.lb 1 rfl ?_
  refine Z.l rfl rfl (by rfl) (Z.keepS hs) (Z.Yd.lenS rfl Try.underlying119) ?_
  refine Z.lb 1 rfl ?_
  refine Z.lnil ?_
  refine Z.only [0, 1, 7, 8] rfl ?_
  refine Z.nthen ?_
  refine Z.block ?_
  refine Z.loopk (ι := Nat) [0, 1, 7] rfl (fun k => [(8, [], .int .i64 (k : Int))]) (fun k wr => (k ≤ n ∧ ∀ f ∈ l.take k, f.2.2 = true) ∧ SX.St w [] wr []) (fun k => n - k) 0 (by refine ⟨?_, trivial⟩ <;> (first | rfl | (refine Z.lookv rfl ?_; simp; done) | (refine Z.lookv rfl ?_; simp; omega))) ⟨⟨by omega, by simp⟩, hs⟩ ?_
  clear hs
  rintro k w1 ⟨⟨hk, hj⟩, hs⟩
  refine Z.only [0, 1, 7, 8] rfl ?_
  refine Z.seq ?_
  refine Z.region ?_
  refine Z.lb 1 rfl ?_
  refine Z.lnil ?_
  refine Z.only [0, 1, 7, 8, 9] rfl ?_
  refine Z.nthen ?_
  refine Z.seq ?_
  refine Z.cond rfl (fun hc2 => ?_) (fun hc2 => ?_)
  · first
      | (exfalso; simp at hc2 <;> omega)
      | (
        (try simp at hc2)
        obtain ⟨b, off, rfl, hx2⟩ := hx.sx.some (by rw [Z.flat_length (s := 1) (fun _ => rfl)]; omega)
        obtain ⟨f, hfk⟩ : ∃ f, l[k]? = some f := ⟨_, List.getElem?_eq_getElem (by omega)⟩
        have hS := hf f (List.mem_of_getElem? hfk)
        refine Z.skip ?_
        refine Z.nthen ?_
        refine Z.seq ?_
        refine Z.block ?_
        refine Z.seq ?_
        refine Z.region ?_
        refine Z.lb 2 rfl ?_
        refine Z.lnil ?_
        refine Z.only [0, 1, 5, 7, 8] rfl ?_
        refine Z.nthen ?_
        refine Z.seq ?_
        refine Z.region ?_
        refine Z.lb 3 rfl ?_
        refine Z.l rfl rfl (by rfl) (Z.keepS hs) (Z.Yd.elem rfl rfl Try.underlying119 Try.sizeOf25 (fun hG => ⟨(by first | omega | (have hG' := Z.gh rfl hG; simp at hG'; omega)), (by first | omega | (have hG' := Z.gh rfl hG; simp at hG'; omega))⟩)) ?_
        refine Z.l rfl rfl (by rfl) (Z.keepS hs) (Z.Yd.load rfl Try.isAgg25 (fun _ => Z.cellXf (s := 1) (j := 0) hx2 (fun _ => rfl) hfk rfl)) ?_
        refine Z.le rfl trivial ?_
        refine Z.ZO.call rfl rfl (by rfl) rfl rfl Try.call78 rfl (not1_any f.1 f.2.1 f.2.2 _ (hS.st hs)) ?_
        rintro v4_5 w4_5 ⟨rfl, hy⟩
        replace hs := hs.call hy
        clear hy
        try simp only [List.cons_append, List.nil_append, List.append_nil] at hs
        refine Z.lnil ?_
        refine Z.only [0, 1, 5, 7, 8, 16] rfl ?_
        refine Z.nthen ?_
        refine Z.cond rfl (fun hc4 => ?_) (fun hc4 => ?_)
        · first
            | (exfalso; simp at hc4 <;> omega)
            | (
              (try simp at hc4)
              refine Z.seq ?_
              refine Z.region ?_
              refine Z.lb 2 rfl ?_
              refine Z.lnil ?_
              refine Z.only [4] rfl ?_
              refine Z.nthen ?_
              refine Z.ret ?_
              repeat (first | refine Z.rthen ?_ | refine Z.rblock ?_ | refine Z.rscope ?_)
              -- ret#0
              refine Z.out1 (by exact ⟨rfl, trivial⟩) ?_
              refine ⟨_, rfl, ⟨_, rfl, ?_⟩, hs⟩
              have h1 : l.all (fun f => f.2.2) = false := by
                rw [List.all_eq_false]
                exact ⟨f, List.mem_of_getElem? hfk, by simp_all⟩
              rw [h1]
              simp
              )
        · first
            | (exfalso; simp at hc4 <;> omega)
            | (
              (try simp at hc4)
              refine Z.skip ?_
              refine Z.nblock ?_
              refine Z.nthen ?_
              refine Z.region ?_
              refine Z.l rfl rfl (by rfl) (Z.keepS hs) (Z.Yd.add rfl rfl (fun hG => Z.wi64 (by first | omega | (have hG' := Z.gh rfl hG; simp at hG'; omega)))) ?_
              refine Z.lb 1 rfl ?_
              refine Z.lnil ?_
              refine Z.only [0, 1, 7, 8] rfl ?_
              refine Z.nthen ?_
              exact Z.again (k + 1) (by refine ⟨?_, ?_, ?_, ?_, trivial⟩ <;> (first | rfl | (refine Z.lookv rfl ?_; simp; done) | (refine Z.lookv rfl ?_; simp; omega))) ⟨⟨by omega, fun g hg => by
                rw [List.take_add_one, hfk] at hg
                rcases List.mem_append.1 hg with hg | hg
                · exact hj g hg
                · have : g = f := by simpa using hg
                  rw [this]
                  simpa using hc4⟩, hs⟩ (by omega)
              )
        )
  · first
      | (exfalso; simp at hc2 <;> omega)
      | (
        (try simp at hc2)
        refine Z.exit ?_
        refine Z.xthen ?_
        refine Z.xthen ?_
        refine Z.xblock ?_
        refine Z.nthen ?_
        refine Z.seq ?_
        refine Z.region ?_
        refine Z.lb 1 rfl ?_
        refine Z.lnil ?_
        refine Z.only [4] rfl ?_
        refine Z.nthen ?_
        refine Z.ret ?_
        -- ret#1
        refine Z.out1 (by exact ⟨rfl, trivial⟩) ?_
        rw [List.take_of_length_le (by omega)] at hj
        refine ⟨_, rfl, ⟨_, rfl, ?_⟩, hs⟩
        have h1 : l.all (fun f => f.2.2) = true := List.all_eq_true.2 hj
        rw [h1]
        rfl
        )
theorem allCont (A : Option Addr) (n c : Nat) (l : List FnV) (w : World) (hx : Sl w A (l.flatMap encFn)) (hl : l.length = n) (hn : n ≤ 1000) (hf : ∀ f ∈ l, Says w f.1 f.2.1 f.2.2) :
    Calls Try.prog 77 #[.slice A n c, .func (.func 78) #[] #[]] w (SX.Ret fun v w' => v = .bool (!l.all fun f => f.2.2) ∧ SX.St w [] w' []) := by
  have hs := SX.St.start w
  refine Z.enter Try.func77 rfl Try.ntmps77 rfl rfl ?_
  refine Z.seq ?_
  refine Z.region ?_
  refine Z.lb 1 rfl ?_
  refine Z.lnil ?_
  refine Z.only [0, 1] rfl ?_
  refine Z.nthen ?_
  refine Z.seq ?_
  refine Z.region ?_
  refine Z.lb 2 rfl ?_
  refine Z.le rfl trivial ?_
  refine Z.ZO.call rfl rfl (by rfl) rfl rfl Try.call82 rfl (allIndex A n c l _ hx hl hn hf) ?_
  rintro v1_2 w1_2 ⟨⟨i, rfl, hi⟩, hy⟩
  replace hs := hs.call hy
  clear hy
  try simp only [List.cons_append, List.nil_append, List.append_nil] at hs
  refine Z.lb 2 rfl ?_
  refine Z.lnil ?_
  refine Z.only [4] rfl ?_
  refine Z.nthen ?_
  refine Z.ret ?_
  -- ret#0
  refine Z.out1 (by exact ⟨rfl, trivial⟩) ?_
  exact ⟨_, rfl, by rw [← hi], hs⟩
theorem all_any (A : Option Addr) (n c : Nat) (l : List FnV) (w : World) (hx : Sl w A (l.flatMap encFn)) (hl : l.length = n) (hn : n ≤ 1000) (hf : ∀ f ∈ l, Says w f.1 f.2.1 f.2.2) :
    Calls Try.prog 60 #[.slice A n c] w (SX.Ret fun v w' => v = .bool (l.all fun f => f.2.2) ∧ SX.St w [] w' []) := by
  have hs := SX.St.start w
  refine Z.enter Try.func60 rfl Try.ntmps60 rfl rfl ?_
  refine Z.seq ?_
  refine Z.region ?_
  refine Z.lb 1 rfl ?_
  refine Z.lnil ?_
  refine Z.only [0] rfl ?_
  refine Z.nthen ?_
  refine Z.seq ?_
  refine Z.region ?_
  refine Z.lb 1 rfl ?_
  refine Z.le rfl trivial ?_
  refine Z.ZO.call rfl rfl (by rfl) rfl rfl Try.call77 rfl (allCont A n c l _ hx hl hn hf) ?_
  rintro v1_1 w1_1 ⟨rfl, hy⟩
  replace hs := hs.call hy
  clear hy
  try simp only [List.cons_append, List.nil_append, List.append_nil] at hs
  refine Z.lb 2 rfl ?_
  refine Z.lnil ?_
  refine Z.only [2] rfl ?_
  refine Z.nthen ?_
  refine Z.ret ?_
  -- ret#0
  refine Z.out1 (by exact ⟨rfl, trivial⟩) ?_
  exact ⟨_, rfl, by simp, hs⟩
def bytesOk (n : NkV) : Bool := if n.part = true then decide (0 ≤ n.lo ∧ n.lo ≤ n.hi ∧ n.hi ≤ 32767) else decide (n.lo = 0 ∧ n.hi = 0)
theorem alone_eq (ack : Int) (n : NkV) : decide (alone ack n) = (decide (0 ≤ n.sn ∧ n.sn < 1024) && (decide (1 ≤ dist ack n.sn ∧ dist ack n.sn ≤ 512) && bytesOk n)) := by
  unfold alone bytesOk
  by_cases hp : n.part = true <;> simp [hp, Bool.and_assoc]
theorem alone_any (ack : Int) (n : NkV) (w : World) : Calls Try.prog 33 #[.int .i64 ack, .agg n.cells.toArray] w (SX.Ret fun v w' => v = .bool (decide (alone ack n)) ∧ SX.St w [] w' []) := by
  have hs := SX.St.start w
  refine Z.enter Try.func33 rfl Try.ntmps33 rfl rfl ?_
  refine Z.seq ?_
  refine Z.region ?_
  refine Z.le rfl trivial ?_
  refine Z.ZO.box rfl rfl (by rfl) rfl rfl hs ?_
  clear hs; intro g2 w2 hs
  refine Z.le rfl trivial ?_
  refine Z.ZO.box rfl rfl (by rfl) rfl rfl hs ?_
  clear hs; intro g3 w3 hs
  refine Z.lb 1 rfl ?_
  refine Z.lnil ?_
  refine Z.only [2, 3] rfl ?_
  refine Z.nthen ?_
  refine Z.seq ?_
  refine Z.region ?_
  refine Z.lb 2 rfl ?_
  refine Z.lnil ?_
  refine Z.only [2, 3, 5] rfl ?_
  refine Z.nthen ?_
  refine Z.seq ?_
  refine Z.seq ?_
  refine Z.region ?_
  refine Z.l rfl rfl (by rfl) (Z.keepS hs) (Z.Yd.fieldA (m := 1) rfl (by kernel_rfl)) ?_
  refine Z.l rfl rfl (by rfl) (Z.keepS hs) (by first | exact Z.Yd.load rfl Try.isAgg4 (fun _ => Z.cellB (by first | ((repeat (first | exact List.mem_cons_self | refine List.mem_cons_of_mem _ ?_ | refine List.mem_append_right _ ?_)); done) | fail) rfl) | exact Z.Yd.load rfl Try.isAgg4 (fun _ => Z.cellO (by assumption) (by simp) (by assumption)) | fail "load 2.1") ?_
  refine Z.lnil ?_
  refine Z.only [2, 3, 5, 8] rfl ?_
  refine Z.nthen ?_
  refine Z.cutt (ι := Nat) [2, 3] rfl (fun k => [(5, [], .func (.func k) #[] #[.pointer (some ⟨g3, 0, none⟩)])]) (fun k wr => ((∀ args w, (callFunc k args).run Try.prog w = .ok (.enter k args) w) ∧ ∀ W L, SX.St w [] W L → SX.Ent.blk g3 45 n.cells.toArray ∈ L → Calls Try.prog k #[.pointer (some ⟨g3, 0, none⟩)] W (SX.Ret fun v w' => v = .bool (bytesOk n) ∧ SX.St W [] w' [])) ∧ SX.St w [] wr [SX.Ent.blk g3 45 n.cells.toArray, SX.Ent.blk g2 3 #[.int .i64 ack]]) ?_ ?_
  · skip
    refine Z.cond rfl (fun hc2 => ?_) (fun hc2 => ?_)
    · first
        | (exfalso; simp at hc2 <;> omega)
        | (
          (try simp at hc2)
          refine Z.region ?_
          refine Z.lb 2 rfl ?_
          refine Z.lnil ?_
          refine Z.only [2, 3, 5] rfl ?_
          refine Z.nthen ?_
          first
          | exact Z.meet 59 (by refine ⟨?_, ?_, ?_, trivial⟩ <;> (first | rfl | (refine Z.lookv rfl ?_; simp; done) | (refine Z.lookv rfl ?_; simp; omega))) ⟨⟨Try.call59, fun W L hW hm => by unfold bytesOk; rw [if_pos hc2]; exact alone2 g3 n W (SX.St.celOf hW hm)⟩, hs⟩
          | exact Z.meet 58 (by refine ⟨?_, ?_, ?_, trivial⟩ <;> (first | rfl | (refine Z.lookv rfl ?_; simp; done) | (refine Z.lookv rfl ?_; simp; omega))) ⟨⟨Try.call58, fun W L hW hm => by unfold bytesOk; rw [if_neg (by simp [hc2])]; exact alone1 g3 n W (SX.St.celOf hW hm)⟩, hs⟩
          )
    · first
        | (exfalso; simp at hc2 <;> omega)
        | (
          (try simp at hc2)
          refine Z.skip ?_
          refine Z.nthen ?_
          first
          | exact Z.meet 59 (by refine ⟨?_, ?_, ?_, trivial⟩ <;> (first | rfl | (refine Z.lookv rfl ?_; simp; done) | (refine Z.lookv rfl ?_; simp; omega))) ⟨⟨Try.call59, fun W L hW hm => by unfold bytesOk; rw [if_pos hc2]; exact alone2 g3 n W (SX.St.celOf hW hm)⟩, hs⟩
          | exact Z.meet 58 (by refine ⟨?_, ?_, ?_, trivial⟩ <;> (first | rfl | (refine Z.lookv rfl ?_; simp; done) | (refine Z.lookv rfl ?_; simp; omega))) ⟨⟨Try.call58, fun W L hW hm => by unfold bytesOk; rw [if_neg (by simp [hc2])]; exact alone1 g3 n W (SX.St.celOf hW hm)⟩, hs⟩
          )
  · clear hs
    rintro k w3 ⟨hS, hs⟩
    refine Z.only [2, 3, 5] rfl ?_
    refine Z.seq ?_
    refine Z.region ?_
    refine Z.lb 3 rfl ?_
    refine Z.le rfl trivial ?_
    refine Z.ZO.litL (T' := 25) [(0, 1), (1, 1), (2, 1)] [.nilFunc, .nilFunc, .nilFunc] rfl rfl (by rfl) rfl rfl (by intro W; kernel_rfl) hs ?_
    clear hs; intro g13 w13 hs
    have hS3 : ∀ f ∈ ([(61, #[.pointer (some ⟨g3, 0, none⟩)], decide (0 ≤ n.sn ∧ n.sn < 1024)), (62, #[.pointer (some ⟨g2, 0, none⟩), .pointer (some ⟨g3, 0, none⟩)], decide (1 ≤ dist ack n.sn ∧ dist ack n.sn ≤ 512)), (k, #[.pointer (some ⟨g3, 0, none⟩)], bytesOk n)] : List FnV), Says w13 f.1 f.2.1 f.2.2 := by
      intro f hf
      simp only [List.mem_cons, List.not_mem_nil, or_false] at hf
      rcases hf with rfl | rfl | rfl
      · exact ⟨Try.call61, fun W L hW => alone3 g3 n W (SX.St.celOf (SX.St.call hs hW) (List.mem_append_right _ (by first | ((repeat (first | exact List.mem_cons_self | refine List.mem_cons_of_mem _ ?_ | refine List.mem_append_right _ ?_)); done) | fail)))⟩
      · exact ⟨Try.call62, fun W L hW => alone4 g2 g3 ack n W (SX.St.celOf (SX.St.call hs hW) (List.mem_append_right _ (by first | ((repeat (first | exact List.mem_cons_self | refine List.mem_cons_of_mem _ ?_ | refine List.mem_append_right _ ?_)); done) | fail))) (SX.St.celOf (SX.St.call hs hW) (List.mem_append_right _ (by first | ((repeat (first | exact List.mem_cons_self | refine List.mem_cons_of_mem _ ?_ | refine List.mem_append_right _ ?_)); done) | fail)))⟩
      · exact ⟨hS.1, fun W L hW => hS.2 W _ (SX.St.call hs hW) (List.mem_append_right _ (by first | ((repeat (first | exact List.mem_cons_self | refine List.mem_cons_of_mem _ ?_ | refine List.mem_append_right _ ?_)); done) | fail))⟩
    refine Z.le rfl trivial ?_
    refine Z.ZO.call rfl rfl (by rfl) rfl rfl Try.call60 rfl (all_any _ 3 3 [(61, #[.pointer (some ⟨g3, 0, none⟩)], decide (0 ≤ n.sn ∧ n.sn < 1024)), (62, #[.pointer (some ⟨g2, 0, none⟩), .pointer (some ⟨g3, 0, none⟩)], decide (1 ≤ dist ack n.sn ∧ dist ack n.sn ≤ 512)), (k, #[.pointer (some ⟨g3, 0, none⟩)], bytesOk n)] _ (Z.blk_lentj (L1 := []) hs (j := 0) rfl).sl rfl (by omega) hS3) ?_
    rintro v4_4 w4_4 ⟨rfl, hy⟩
    replace hs := hs.call hy
    clear hy
    try simp only [List.cons_append, List.nil_append, List.append_nil] at hs
    refine Z.lb 1 rfl ?_
    refine Z.lnil ?_
    refine Z.only [4] rfl ?_
    refine Z.nthen ?_
    refine Z.ret ?_
    -- ret#0
    refine Z.out1 (by exact ⟨rfl, trivial⟩) ?_
    exact ⟨_, rfl, by rw [alone_eq]; simp, hs.sub (List.nil_sublist _)⟩
end Go.Proofs.Ytcieclifabbkjaa
