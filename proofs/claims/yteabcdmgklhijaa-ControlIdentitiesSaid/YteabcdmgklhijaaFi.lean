/- The reader: Left, At, Get, Align, End, NewReader. -/
import Derived.Test.YteabcdmgklhijaaFh
namespace Go.Proofs.Yteabcdmgklhijaa
open Go.RowKit
set_option linter.unusedSimpArgs false
set_option linter.unusedVariables false

/-- the value of bits -/
def val (bs : List Bool) : Nat := bs.foldl (fun v b => 2 * v + b.toNat) 0
theorem val_snoc (bs : List Bool) (b : Bool) : val (bs ++ [b]) = 2 * val bs + b.toNat := by simp [val]
theorem val_lt (bs : List Bool) : val bs < 2 ^ bs.length := by
  have h : ∀ n (bs : List Bool), bs.length = n → val bs < 2 ^ n := by
    intro n
    induction n with
    | zero =>
      intro bs h
      obtain rfl := List.eq_nil_of_length_eq_zero h
      simp [val]
    | succ n ih =>
      intro bs h
      have hne : bs ≠ [] := by intro e; subst e; simp at h
      have e := List.dropLast_concat_getLast hne
      rw [← e, val_snoc]
      have := ih bs.dropLast (by simp; omega)
      have hb : (bs.getLast hne).toNat ≤ 1 := by cases bs.getLast hne <;> simp
      rw [Nat.pow_succ]
      omega
  exact h _ bs rfl
theorem val_bd {bs : List Bool} (h : bs.length ≤ 64) : val bs < 18446744073709551616 := by
  have h1 := val_lt bs
  have h2 : 2 ^ bs.length ≤ 2 ^ 64 := Nat.pow_le_pow_right (by decide) h
  have h3 : (2 : Nat) ^ 64 = 18446744073709551616 := by decide
  omega
theorem val_bd63 {bs : List Bool} (h : bs.length ≤ 63) : val bs < 9223372036854775808 := by
  have h1 := val_lt bs
  have h2 : 2 ^ bs.length ≤ 2 ^ 63 := Nat.pow_le_pow_right (by decide) h
  have h3 : (2 : Nat) ^ 63 = 9223372036854775808 := by decide
  omega

/-- a reader at block g -/
def RdL (g T : Nat) (sv : Value) (l : List Int) (at_ : Nat) : List SX.Ent := [SX.Ent.blk g T #[sv, .int .i64 (at_ : Int)], SX.Ent.row sv 5 1 l.length (ints .u8 l)]
def bitsAt (l : List Int) (at_ n : Nat) : List Bool := ((unb l).drop at_).take n
def getE (l : List Int) (at_ : Nat) (wd : Int) : Int := if wd < 0 ∨ 64 < wd then 2 else if (8 * l.length : Int) - at_ < wd then 5 else 0
def getV (l : List Int) (at_ : Nat) (wd : Int) : Int := if getE l at_ wd = 0 then (val (bitsAt l at_ wd.toNat) : Int) else 0
def getA (l : List Int) (at_ : Nat) (wd : Int) : Nat := if getE l at_ wd = 0 then at_ + wd.toNat else at_

set_option maxRecDepth 100000 in
theorem rleft_any (g T : Nat) (sv : Value) (l : List Int) (at_ : Nat) (w : World) (hs : SX.St w (SX.idsOf (RdL g T sv l at_)) w (RdL g T sv l at_)) (hl : l.length ≤ 1000000) (ha : at_ ≤ 8 * l.length) :
    Calls Try.prog 58 #[.pointer (some ⟨g, 0, none⟩)] w (SX.Ret fun r w' => r = .int .i64 ((8 * l.length : Int) - at_) ∧ SX.St w (SX.idsOf (RdL g T sv l at_)) w' (RdL g T sv l at_)) := by
  generalize hM : SX.idsOf (RdL g T sv l at_) = M at *
  simp only [RdL] at hs
  obtain ⟨A, c, rfl, -, -, -⟩ := SX.row_slv hs (j := 1) rfl
  refine Z.enter Try.func58 rfl Try.ntmps58 rfl rfl ?_
  refine Z.seq ?_
  refine Z.region ?_
  refine Z.lb 1 rfl ?_
  refine Z.lnil ?_
  refine Z.only [0] rfl ?_
  refine Z.nthen ?_
  refine Z.seq ?_
  refine Z.seq ?_
  refine Z.region ?_
  refine Z.lb 1 rfl ?_
  refine Z.l rfl rfl (by rfl) (Z.keepS hs) (Z.Yd.ptrNil rfl rfl Try.underlying77) ?_
  refine Z.lnil ?_
  refine Z.only [0, 4] rfl ?_
  refine Z.nthen ?_
  refine Z.cond rfl (fun h => absurd h (by simp)) (fun hc1 => ?_)
  refine Z.skip ?_
  refine Z.nthen ?_
  refine Z.seq ?_
  refine Z.drawK (fun _ => true) mixed hs ?_
  clear hs; intro wd3 hs
  refine Z.tb [0] (by kernel_rfl) rfl ⟨_, hs, by first | (simp; done) | exact fun e he => List.mem_append_right _ he⟩ rfl ?_
  refine Z.t 1 rfl rfl rfl (by rfl) (by kernel_rfl) ⟨_, hs, by first | (simp; done) | exact fun e he => List.mem_append_right _ he⟩ (Z.Yd.nilc rfl rfl) ?_
  refine Z.t 2 rfl rfl rfl (by rfl) (by kernel_rfl) ⟨_, hs, by first | (simp; done) | exact fun e he => List.mem_append_right _ he⟩ (Z.Yd.fieldA (m := 0) rfl (by kernel_rfl)) ?_
  refine Z.t 3 rfl rfl rfl (by rfl) (by kernel_rfl) ⟨_, hs, by first | (simp; done) | exact fun e he => List.mem_append_right _ he⟩ (by first | exact Z.Yd.load rfl Try.isAgg29 (fun _ => Z.cellB (by first | ((repeat (first | exact List.mem_cons_self | refine List.mem_cons_of_mem _ ?_ | refine List.mem_append_right _ ?_)); done) | fail) rfl) | exact Z.Yd.load rfl Try.isAgg29 (fun _ => Z.cellO (by assumption) (by simp) (by assumption)) | fail "load 3.3") ?_
  refine Z.t 4 rfl rfl rfl (by rfl) (by kernel_rfl) ⟨_, hs, by first | (simp; done) | exact fun e he => List.mem_append_right _ he⟩ (Z.Yd.lenS rfl Try.underlying29) ?_
  refine Z.t 5 rfl rfl rfl (by rfl) (by kernel_rfl) ⟨_, hs, by first | (simp; done) | exact fun e he => List.mem_append_right _ he⟩ (Z.Yd.mul rfl rfl (fun hG => Z.wi64 (by first | omega | (have hG' := Z.gh rfl hG; simp at hG'; omega)))) ?_
  refine Z.tb [6] (by kernel_rfl) rfl ⟨_, hs, by first | (simp; done) | exact fun e he => List.mem_append_right _ he⟩ rfl ?_
  refine Z.t 7 rfl rfl rfl (by rfl) (by kernel_rfl) ⟨_, hs, by first | (simp; done) | exact fun e he => List.mem_append_right _ he⟩ (Z.Yd.nilc rfl rfl) ?_
  refine Z.t 8 rfl rfl rfl (by rfl) (by kernel_rfl) ⟨_, hs, by first | (simp; done) | exact fun e he => List.mem_append_right _ he⟩ (Z.Yd.fieldA (m := 1) rfl (by kernel_rfl)) ?_
  refine Z.t 9 rfl rfl rfl (by rfl) (by kernel_rfl) ⟨_, hs, by first | (simp; done) | exact fun e he => List.mem_append_right _ he⟩ (by first | exact Z.Yd.load rfl Try.isAgg3 (fun _ => Z.cellB (by first | ((repeat (first | exact List.mem_cons_self | refine List.mem_cons_of_mem _ ?_ | refine List.mem_append_right _ ?_)); done) | fail) rfl) | exact Z.Yd.load rfl Try.isAgg3 (fun _ => Z.cellO (by assumption) (by simp) (by assumption)) | fail "load 3.9") ?_
  refine Z.t 10 rfl rfl rfl (by rfl) (by kernel_rfl) ⟨_, hs, by first | (simp; done) | exact fun e he => List.mem_append_right _ he⟩ (Z.Yd.sub rfl rfl (fun hG => Z.wi64 (by first | omega | (have hG' := Z.gh rfl hG; simp at hG'; omega)))) ?_
  refine Z.tb [11] (by kernel_rfl) rfl ⟨_, hs, by first | (simp; done) | exact fun e he => List.mem_append_right _ he⟩ rfl ?_
  refine Z.td (by rfl) (by kernel_rfl) ?_
  refine Z.only [2] rfl ?_
  refine Z.nthen ?_
  refine Z.ret ?_
  -- ret#0
  refine Z.out1 (by exact ⟨rfl, trivial⟩) ?_
  first | exact ⟨_, rfl, rfl, hs⟩ | exact ⟨_, rfl, rfl, hs.sub (List.nil_sublist _)⟩
theorem newreader_any (A : Option Addr) (n c : Nat) (l : List Int) (w : World) (hx : Sx w [] A (ints .u8 l)) (hl : l.length = n) (hn : n ≤ 100000000) (hz : A = none → n = 0) :
    Calls Try.prog 57 #[.slice A n c] w (SX.Ret fun r w' => ∃ g sv, r = .pointer (some ⟨g, 0, none⟩) ∧ SX.St w [] w' (RdL g 99 sv l 0)) := by
  have hs := SX.St.start w
  subst hl
  refine Z.enter Try.func57 rfl Try.ntmps57 rfl rfl ?_
  refine Z.seq ?_
  refine Z.region ?_
  refine Z.lb 1 rfl ?_
  refine Z.lnil ?_
  refine Z.only [0] rfl ?_
  refine Z.nthen ?_
  refine Z.seq ?_
  refine Z.region ?_
  refine Z.lb 1 rfl ?_
  refine Z.le rfl trivial ?_
  refine Z.ZO.call rfl rfl (by rfl) rfl rfl Try.call63 rfl (clone8 [] A _ c l _ ((hx.st hs).sx) rfl hn hz) ?_
  rintro v1_1 w1_1 hy
  replace hs := hs.call hy
  clear hy
  try simp only [List.cons_append, List.nil_append, List.append_nil] at hs
  obtain ⟨Av, cv, rfl, -, -, -⟩ := SX.row_slv hs (j := 0) rfl
  refine Z.l rfl rfl (by rfl) (Z.keepS hs) (Z.Yd.build rfl (by intro w; go_simp; try rfl)) ?_
  refine Z.le rfl trivial ?_
  refine Z.ZO.box rfl rfl (by rfl) rfl rfl hs ?_
  clear hs; intro g6 w6 hs
  refine Z.lb 1 rfl ?_
  refine Z.lnil ?_
  refine Z.only [2] rfl ?_
  refine Z.nthen ?_
  refine Z.ret ?_
  -- ret#0
  refine Z.out1 (by exact ⟨rfl, trivial⟩) ?_
  exact ⟨_, rfl, _, _, rfl, hs⟩

theorem and_one8 (x : Int) (k : Nat) (h0 : 0 ≤ x) (hx : x < 256) : IntKind.u8.wrap ((BitVec.ofInt IntKind.u8.bits (x.fdiv (2 ^ (min ((7 : Int) - (k : Int) % 8).toNat IntKind.u8.bits))) &&& BitVec.ofInt IntKind.u8.bits 1).toNat : Int) = bi (x.toNat.testBit (7 - k % 8)) := by
  obtain ⟨n, rfl⟩ := Int.eq_ofNat_of_zero_le h0
  have e : min ((7 : Int) - (k : Int) % 8).toNat IntKind.u8.bits = 7 - k % 8 := by
    have : IntKind.u8.bits = 8 := rfl
    omega
  rw [e, Int.fdiv_eq_ediv_of_nonneg _ (Int.le_of_lt (Int.pow_pos (by decide))), testBit_bi, Int.toNat_natCast]
  have e2 : ((n : Int) / 2 ^ (7 - k % 8)) = ((n / 2 ^ (7 - k % 8) : Nat) : Int) := by push_cast; rfl
  rw [e2]
  have h1 : n / 2 ^ (7 - k % 8) ≤ n := Nat.div_le_self _ _
  generalize n / 2 ^ (7 - k % 8) = q at *
  have e1 : (BitVec.ofInt 8 (q : Int)).toNat = q := by rw [BitVec.ofInt_natCast, BitVec.toNat_ofNat]; exact Nat.mod_eq_of_lt (by omega)
  have e3 : (BitVec.ofInt 8 (1 : Int)).toNat = 1 := by decide
  have e4 : ((BitVec.ofInt 8 (q : Int)) &&& (BitVec.ofInt 8 (1 : Int))).toNat = q % 2 := by rw [BitVec.toNat_and, e1, e3, Nat.and_one_is_mod]
  show IntKind.u8.wrap (((BitVec.ofInt 8 (q : Int)) &&& (BitVec.ofInt 8 (1 : Int))).toNat : Int) = _
  rw [e4]
  exact Z.wu8 (by omega)
theorem u64_or (x y : Nat) (i m : Nat) (hx : x = 2 ^ i * m) (hy : y < 2 ^ i) (h : x + y < 18446744073709551616) : IntKind.u64.wrap ((BitVec.ofInt IntKind.u64.bits (x : Int) ||| BitVec.ofInt IntKind.u64.bits (y : Int)).toNat : Int) = ((x + y : Nat) : Int) := by
  have e1 : (BitVec.ofInt 64 (x : Int)).toNat = x := by rw [BitVec.ofInt_natCast, BitVec.toNat_ofNat]; exact Nat.mod_eq_of_lt (by omega)
  have e2 : (BitVec.ofInt 64 (y : Int)).toNat = y := by rw [BitVec.ofInt_natCast, BitVec.toNat_ofNat]; exact Nat.mod_eq_of_lt (by omega)
  have e3 : (BitVec.ofInt 64 (x : Int) ||| BitVec.ofInt 64 (y : Int)).toNat = x + y := by rw [BitVec.toNat_or, e1, e2, hx, ← Nat.two_pow_add_eq_or_of_lt hy, ← hx]
  show IntKind.u64.wrap (((BitVec.ofInt 64 (x : Int)) ||| (BitVec.ofInt 64 (y : Int))).toNat : Int) = _
  rw [e3]
  exact Z.wu64 (by omega)
theorem or_bit (v : Nat) (b : Bool) (hv : v < 9223372036854775808) : IntKind.u64.wrap ((BitVec.ofInt IntKind.u64.bits ((v : Int) * 2) ||| BitVec.ofInt IntKind.u64.bits (bi b)).toNat : Int) = ((2 * v + b.toNat : Nat) : Int) := by
  have := u64_or (2 * v) b.toNat 1 v (by omega) (by cases b <;> simp) (by cases b <;> simp <;> omega)
  rw [bi_nat, show ((v : Int) * 2) = ((2 * v : Nat) : Int) from by push_cast; omega]
  exact this

theorem bitsAt_length {l : List Int} {a n : Nat} (h : a + n ≤ l.length * 8) : (bitsAt l a n).length = n := by
  simp [bitsAt, unb_length]
  omega
theorem bitsAt_snoc {l : List Int} {a k : Nat} (h : a + k < l.length * 8) : bitsAt l a (k + 1) = bitsAt l a k ++ [(elt l (((a + k : Nat) : Int) / 8)).toNat.testBit (7 - (a + k) % 8)] := by
  have hg := unb_get (l := l) (k := a + k) h
  have : ((unb l).drop a)[k]? = some ((elt l (((a + k : Nat) : Int) / 8)).toNat.testBit (7 - (a + k) % 8)) := by
    rw [List.getElem?_drop]
    exact hg
  unfold bitsAt
  rw [← take_snoc this]

set_option maxRecDepth 100000 in
theorem rget_any (g T : Nat) (sv : Value) (l : List Int) (at_ : Nat) (wd : Int) (w : World) (hs : SX.St w (SX.idsOf (RdL g T sv l at_)) w (RdL g T sv l at_)) (hl : l.length ≤ 1000000) (ha : at_ ≤ 8 * l.length) (hb : ∀ x ∈ l, 0 ≤ x ∧ x < 256) :
    Calls Try.prog 51 #[.pointer (some ⟨g, 0, none⟩), .int .i64 wd] w (SX.Ret fun r w' => r = .tuple #[.int .u64 (getV l at_ wd), .int .i64 (getE l at_ wd)] ∧ SX.St w (SX.idsOf (RdL g T sv l at_)) w' (RdL g T sv l (getA l at_ wd))) := by
  generalize hM : SX.idsOf (RdL g T sv l at_) = M at *
  refine Z.enter Try.func51 rfl Try.ntmps51 rfl rfl ?_
  refine Z.seq ?_
  refine Z.region ?_
  refine Z.lb 2 rfl ?_
  refine Z.lnil ?_
  refine Z.only [0, 1, 4] rfl ?_
  refine Z.nthen ?_
  refine Z.seq ?_
  refine Z.block ?_
  refine Z.seq ?_
  refine Z.region ?_
  refine Z.lb 1 rfl ?_
  refine Z.l rfl rfl (by rfl) (Z.keepS hs) (Z.Yd.ptrNil rfl rfl Try.underlying77) ?_
  refine Z.lb 1 rfl ?_
  refine Z.lnil ?_
  refine Z.only [0, 1, 4, 6] rfl ?_
  refine Z.nthen ?_
  refine Z.cond rfl (fun h => absurd h (by simp)) (fun hc1 => ?_)
  refine Z.seq ?_
  refine Z.region ?_
  refine Z.lb 7 rfl ?_
  refine Z.lnil ?_
  refine Z.only [0, 1, 4, 9] rfl ?_
  refine Z.nthen ?_
  refine Z.cond rfl (fun hc3 => ?_) (fun hc3 => ?_)
  · first
      | (exfalso; simp at hc3 <;> omega)
      | (
        (try simp at hc3)
        refine Z.seq ?_
        refine Z.region ?_
        refine Z.lb 2 rfl ?_
        refine Z.lnil ?_
        refine Z.only [4, 5] rfl ?_
        refine Z.nthen ?_
        refine Z.ret ?_
        repeat (first | refine Z.rthen ?_ | refine Z.rblock ?_ | refine Z.rscope ?_)
        -- ret#0
        refine Z.out2 (by exact ⟨rfl, rfl, trivial⟩) ?_
        have e : getE l at_ wd = 2 := by unfold getE; rw [if_pos (by omega)]
        refine ⟨_, rfl, by unfold getV; rw [e]; rfl, ?_⟩
        unfold getA; rw [e]
        exact hs
        )
  · first
      | (exfalso; simp at hc3 <;> omega)
      | (
        (try simp at hc3)
        refine Z.seq ?_
        refine Z.region ?_
        refine Z.lb 2 rfl ?_
        refine Z.le rfl trivial ?_
        refine Z.ZO.call rfl rfl (by rfl) rfl rfl Try.call58 rfl (rleft_any g T sv l at_ _ hs.all hl ha) ?_
        rintro v5_2 w5_2 ⟨rfl, hz⟩
        replace hs := hs.regainAll hz
        refine Z.lb 2 rfl ?_
        refine Z.lnil ?_
        refine Z.only [0, 1, 4, 16] rfl ?_
        refine Z.nthen ?_
        refine Z.cond rfl (fun hc5 => ?_) (fun hc5 => ?_)
        · first
            | (exfalso; simp at hc5 <;> omega)
            | (
              (try simp at hc5)
              refine Z.seq ?_
              refine Z.region ?_
              refine Z.lb 2 rfl ?_
              refine Z.lnil ?_
              refine Z.only [4, 5] rfl ?_
              refine Z.nthen ?_
              refine Z.ret ?_
              repeat (first | refine Z.rthen ?_ | refine Z.rblock ?_ | refine Z.rscope ?_)
              -- ret#1
              refine Z.out2 (by exact ⟨rfl, rfl, trivial⟩) ?_
              have e : getE l at_ wd = 5 := by unfold getE; rw [if_neg (by omega), if_pos (by omega)]
              refine ⟨_, rfl, by unfold getV; rw [e]; rfl, ?_⟩
              unfold getA; rw [e]
              exact hs
              )
        · first
            | (exfalso; simp at hc5 <;> omega)
            | (
              (try simp at hc5)
              refine Z.skip ?_
              refine Z.nblock ?_
              refine Z.nthen ?_
              refine Z.seq ?_
              refine Z.seq ?_
              refine Z.region ?_
              have e : getE l at_ wd = 0 := by unfold getE; rw [if_neg (by omega), if_neg (by omega)]
              obtain ⟨wd, rfl⟩ := Int.eq_ofNat_of_zero_le (show 0 ≤ wd by omega)
              refine Z.l rfl rfl (by rfl) (Z.keepS hs) (Z.Yd.pure rfl) ?_
              refine Z.lb 1 rfl ?_
              refine Z.lnil ?_
              refine Z.only [0, 4, 21, 22] rfl ?_
              refine Z.nthen ?_
              refine Z.block ?_
              refine Z.loopk (ι := Nat) [0, 21] rfl (fun k => [(4, [], .int .u64 (val (bitsAt l at_ k) : Int)), (22, [], .int .i64 (k : Int))]) (fun k wr => k ≤ wd ∧ SX.St w M wr [SX.Ent.blk g T #[sv, .int .i64 ((at_ + k : Nat) : Int)], SX.Ent.row sv 5 1 l.length (ints .u8 l)]) (fun k => wd - k) 0 (by refine ⟨?_, ?_, trivial⟩ <;> (first | rfl | (refine Z.lookv rfl ?_; simp; done) | (refine Z.lookv rfl ?_; simp; omega))) ⟨by omega, hs⟩ ?_
              clear hs
              rintro k w1 ⟨hkn, hs⟩
              refine Z.only [0, 4, 21, 22] rfl ?_
              refine Z.seq ?_
              refine Z.region ?_
              refine Z.lb 1 rfl ?_
              refine Z.lnil ?_
              refine Z.only [0, 4, 21, 22, 23] rfl ?_
              refine Z.nthen ?_
              refine Z.seq ?_
              refine Z.cond rfl (fun hc8 => ?_) (fun hc8 => ?_)
              · first
                  | (exfalso; simp at hc8 <;> omega)
                  | (
                    (try simp at hc8)
                    obtain ⟨g1, cap1, rfl, hc1, hc2⟩ := row_form (j := 1) hs rfl (by omega)
                    have hv := val_bd63 (bs := bitsAt l at_ k) (by rw [bitsAt_length (by omega)]; omega)
                    have he := hb _ (Z.elt_mem (l := l) (z := ((at_ + k : Nat) : Int) / 8) (by omega) (by omega))
                    refine Z.skip ?_
                    refine Z.nthen ?_
                    refine Z.seq ?_
                    refine Z.block ?_
                    refine Z.seq ?_
                    refine Z.drawK (fun _ => true) mixed hs ?_
                    clear hs; intro wd9 hs
                    refine Z.tb [0] (by kernel_rfl) rfl ⟨_, hs, by first | (simp; done) | exact fun e he => List.mem_append_right _ he⟩ rfl ?_
                    refine Z.t 1 rfl rfl rfl (by rfl) (by kernel_rfl) ⟨_, hs, by first | (simp; done) | exact fun e he => List.mem_append_right _ he⟩ (Z.Yd.shl rfl rfl (by intro hG; decide) (by intro hG; first | exact Z.shll (c := 2) rfl (Z.wu64 (by omega)) | exact Z.shll (c := 2) rfl rfl)) ?_
                    refine Z.tb [2] (by kernel_rfl) rfl ⟨_, hs, by first | (simp; done) | exact fun e he => List.mem_append_right _ he⟩ rfl ?_
                    refine Z.t 3 rfl rfl rfl (by rfl) (by kernel_rfl) ⟨_, hs, by first | (simp; done) | exact fun e he => List.mem_append_right _ he⟩ (Z.Yd.nilc rfl rfl) ?_
                    refine Z.t 4 rfl rfl rfl (by rfl) (by kernel_rfl) ⟨_, hs, by first | (simp; done) | exact fun e he => List.mem_append_right _ he⟩ (Z.Yd.fieldA (m := 0) rfl (by kernel_rfl)) ?_
                    refine Z.t 5 rfl rfl rfl (by rfl) (by kernel_rfl) ⟨_, hs, by first | (simp; done) | exact fun e he => List.mem_append_right _ he⟩ (by first | exact Z.Yd.load rfl Try.isAgg29 (fun _ => Z.cellB (by first | ((repeat (first | exact List.mem_cons_self | refine List.mem_cons_of_mem _ ?_ | refine List.mem_append_right _ ?_)); done) | fail) rfl) | exact Z.Yd.load rfl Try.isAgg29 (fun _ => Z.cellO (by assumption) (by simp) (by assumption)) | fail "load 9.5") ?_
                    refine Z.tb [6] (by kernel_rfl) rfl ⟨_, hs, by first | (simp; done) | exact fun e he => List.mem_append_right _ he⟩ rfl ?_
                    refine Z.t 7 rfl rfl rfl (by rfl) (by kernel_rfl) ⟨_, hs, by first | (simp; done) | exact fun e he => List.mem_append_right _ he⟩ (Z.Yd.nilc rfl rfl) ?_
                    refine Z.t 8 rfl rfl rfl (by rfl) (by kernel_rfl) ⟨_, hs, by first | (simp; done) | exact fun e he => List.mem_append_right _ he⟩ (Z.Yd.fieldA (m := 1) rfl (by kernel_rfl)) ?_
                    refine Z.t 9 rfl rfl rfl (by rfl) (by kernel_rfl) ⟨_, hs, by first | (simp; done) | exact fun e he => List.mem_append_right _ he⟩ (by first | exact Z.Yd.load rfl Try.isAgg3 (fun _ => Z.cellB (by first | ((repeat (first | exact List.mem_cons_self | refine List.mem_cons_of_mem _ ?_ | refine List.mem_append_right _ ?_)); done) | fail) rfl) | exact Z.Yd.load rfl Try.isAgg3 (fun _ => Z.cellO (by assumption) (by simp) (by assumption)) | fail "load 9.9") ?_
                    refine Z.t 10 rfl rfl rfl (by rfl) (by kernel_rfl) ⟨_, hs, by first | (simp; done) | exact fun e he => List.mem_append_right _ he⟩ (Z.Yd.quo rfl rfl (by intro hG; first | decide | omega) (by intro hG; first | exact Z.qi64 ⟨by omega, by omega⟩ (by omega) | exact rfl)) ?_
                    refine Z.t 11 rfl rfl rfl (by rfl) (by kernel_rfl) ⟨_, hs, by first | (simp; done) | exact fun e he => List.mem_append_right _ he⟩ (Z.Yd.elem rfl rfl Try.underlying29 Try.sizeOf5 (fun hG => ⟨(by first | omega | (have hG' := Z.gh rfl hG; simp at hG'; omega)), (by first | omega | (have hG' := Z.gh rfl hG; simp at hG'; omega))⟩)) ?_
                    refine Z.t 12 rfl rfl rfl (by rfl) (by kernel_rfl) ⟨_, hs, by first | (simp; done) | exact fun e he => List.mem_append_right _ he⟩ (by first | exact Z.Yd.load rfl Try.isAgg5 (fun hG => Z.cellR (by first | ((repeat (first | exact List.mem_cons_self | refine List.mem_cons_of_mem _ ?_ | refine List.mem_append_right _ ?_)); done) | fail) (Z.ints_at (by first | omega | (have hG' := Z.gh rfl hG; simp at hG'; omega)) (by first | omega | (have hG' := Z.gh rfl hG; simp at hG'; omega)))) | exact Z.Yd.load rfl Try.isAgg5 (fun hG => Z.cellXi (by assumption) (by first | omega | (have hG' := Z.gh rfl hG; simp at hG'; omega)) (by first | omega | (have hG' := Z.gh rfl hG; simp at hG'; omega))) | exact Z.Yd.load rfl Try.isAgg5 (fun hG => Z.cellS (by assumption) rfl (by first | omega | (have hG' := Z.gh rfl hG; simp at hG'; omega)) (by first | omega | (have hG' := Z.gh rfl hG; simp at hG'; omega))) | fail "load 9.12") ?_
                    refine Z.tb [13] (by kernel_rfl) rfl ⟨_, hs, by first | (simp; done) | exact fun e he => List.mem_append_right _ he⟩ rfl ?_
                    refine Z.t 14 rfl rfl rfl (by rfl) (by kernel_rfl) ⟨_, hs, by first | (simp; done) | exact fun e he => List.mem_append_right _ he⟩ (Z.Yd.nilc rfl rfl) ?_
                    refine Z.t 15 rfl rfl rfl (by rfl) (by kernel_rfl) ⟨_, hs, by first | (simp; done) | exact fun e he => List.mem_append_right _ he⟩ (Z.Yd.fieldA (m := 1) rfl (by kernel_rfl)) ?_
                    refine Z.t 16 rfl rfl rfl (by rfl) (by kernel_rfl) ⟨_, hs, by first | (simp; done) | exact fun e he => List.mem_append_right _ he⟩ (by first | exact Z.Yd.load rfl Try.isAgg3 (fun _ => Z.cellB (by first | ((repeat (first | exact List.mem_cons_self | refine List.mem_cons_of_mem _ ?_ | refine List.mem_append_right _ ?_)); done) | fail) rfl) | exact Z.Yd.load rfl Try.isAgg3 (fun _ => Z.cellO (by assumption) (by simp) (by assumption)) | fail "load 9.16") ?_
                    refine Z.t 17 rfl rfl rfl (by rfl) (by kernel_rfl) ⟨_, hs, by first | (simp; done) | exact fun e he => List.mem_append_right _ he⟩ (Z.Yd.rem rfl rfl (by intro hG; first | decide | omega) (by intro hG; first | exact Z.tmodn (by omega) | exact rfl)) ?_
                    refine Z.t 18 rfl rfl rfl (by rfl) (by kernel_rfl) ⟨_, hs, by first | (simp; done) | exact fun e he => List.mem_append_right _ he⟩ (Z.Yd.sub rfl rfl (fun hG => Z.wi64 (by first | omega | (have hG' := Z.gh rfl hG; simp at hG'; omega)))) ?_
                    refine Z.t 19 rfl rfl rfl (by rfl) (by kernel_rfl) ⟨_, hs, by first | (simp; done) | exact fun e he => List.mem_append_right _ he⟩ (Z.Yd.shr rfl rfl (by intro hG; first | decide | omega) (fun _ => rfl)) ?_
                    refine Z.t 20 rfl rfl rfl (by rfl) (by kernel_rfl) ⟨_, hs, by first | (simp; done) | exact fun e he => List.mem_append_right _ he⟩ (Z.Yd.and rfl rfl (fun _ => and_one8 _ (at_ + k) he.1 he.2)) ?_
                    refine Z.t 21 rfl rfl rfl (by rfl) (by kernel_rfl) ⟨_, hs, by first | (simp; done) | exact fun e he => List.mem_append_right _ he⟩ (Z.Yd.convI rfl ⟨_, Try.underlying5⟩ Try.underlying40 (fun _ => Z.wu64 (by have := bi_bd ((elt l (((at_ + k : Nat) : Int) / 8)).toNat.testBit (7 - (at_ + k) % 8)); omega))) ?_
                    refine Z.t 22 rfl rfl rfl (by rfl) (by kernel_rfl) ⟨_, hs, by first | (simp; done) | exact fun e he => List.mem_append_right _ he⟩ (Z.Yd.or rfl rfl (fun _ => or_bit _ _ hv)) ?_
                    refine Z.tb [23] (by kernel_rfl) rfl ⟨_, hs, by first | (simp; done) | exact fun e he => List.mem_append_right _ he⟩ rfl ?_
                    refine Z.td (by rfl) (by kernel_rfl) ?_
                    refine Z.only [0, 4, 21, 22] rfl ?_
                    refine Z.nthen ?_
                    refine Z.region ?_
                    refine Z.lb 1 rfl ?_
                    refine Z.l rfl rfl (by rfl) (Z.keepS hs) (Z.Yd.nilc rfl rfl) ?_
                    refine Z.l rfl rfl (by rfl) (Z.keepS hs) (Z.Yd.fieldA (m := 1) rfl (by kernel_rfl)) ?_
                    refine Z.l rfl rfl (by rfl) (Z.keepS hs) (by first | exact Z.Yd.load rfl Try.isAgg3 (fun _ => Z.cellB (by first | ((repeat (first | exact List.mem_cons_self | refine List.mem_cons_of_mem _ ?_ | refine List.mem_append_right _ ?_)); done) | fail) rfl) | exact Z.Yd.load rfl Try.isAgg3 (fun _ => Z.cellO (by assumption) (by simp) (by assumption)) | fail "load 10.3") ?_
                    refine Z.l rfl rfl (by rfl) (Z.keepS hs) (Z.Yd.add rfl rfl (fun hG => Z.wi64 (by first | omega | (have hG' := Z.gh rfl hG; simp at hG'; omega)))) ?_
                    refine Z.l rfl rfl (by rfl) (Z.keepS hs) (Z.Yd.nilc rfl rfl) ?_
                    refine Z.l rfl rfl (by rfl) (Z.keepS hs) (Z.Yd.fieldA (m := 1) rfl (by kernel_rfl)) ?_
                    refine Z.le rfl trivial ?_
                    first | refine Z.ZO.store rfl rfl hs Try.sizeOf3 rfl rfl rfl (by first | exact SX.at0 | exact SX.at1 | exact SX.at2 | exact SX.at3 | exact SX.at4 | exact SX.at5 | exact Z.at6 | exact Z.at7 | exact Z.at8 | exact Z.at9 | exact Z.at10 | exact Z.at11 | exact Z.at12) (by first | (simp; done) | (simp; omega)) ?_ | refine Z.ZO.storeR rfl rfl hs Try.sizeOf3 rfl rfl rfl (by first | exact SX.at0 | exact SX.at1 | exact SX.at2 | exact SX.at3 | exact SX.at4 | exact SX.at5 | exact Z.at6 | exact Z.at7 | exact Z.at8 | exact Z.at9 | exact Z.at10 | exact Z.at11 | exact Z.at12) (by first | omega | (simp [ints_length]; done) | (simp [ints_length]; omega)) ?_
                    clear hs; intro ws hs
                    simp only [Nat.zero_add, Nat.add_zero, Nat.reduceAdd, List.set_cons_zero, List.set_cons_succ, List.setIfInBounds_toArray] at hs
                    refine Z.lnil ?_
                    refine Z.only [0, 4, 21, 22] rfl ?_
                    refine Z.nblock ?_
                    refine Z.nthen ?_
                    refine Z.region ?_
                    refine Z.l rfl rfl (by rfl) (Z.keepS hs) (Z.Yd.add rfl rfl (fun hG => Z.wi64 (by first | omega | (have hG' := Z.gh rfl hG; simp at hG'; omega)))) ?_
                    refine Z.lb 1 rfl ?_
                    refine Z.lnil ?_
                    refine Z.only [0, 4, 21, 22] rfl ?_
                    refine Z.nthen ?_
                    have e2 : ((at_ + k : Nat) : Int) + 1 = ((at_ + (k + 1) : Nat) : Int) := by push_cast; omega
                    rw [e2] at hs
                    refine Z.again (k + 1) ?_ ⟨by omega, hs⟩ (by omega)
                    rw [bitsAt_snoc (by omega), val_snoc]
                    exact (by refine ⟨?_, ?_, ?_, ?_, trivial⟩ <;> (first | rfl | (refine Z.lookv rfl ?_; simp; done) | (refine Z.lookv rfl ?_; simp; omega)))
                    )
              · first
                  | (exfalso; simp at hc8 <;> omega)
                  | (
                    (try simp at hc8)
                    refine Z.exit ?_
                    refine Z.xthen ?_
                    refine Z.xthen ?_
                    refine Z.xblock ?_
                    refine Z.nthen ?_
                    refine Z.seq ?_
                    refine Z.region ?_
                    refine Z.lb 3 rfl ?_
                    refine Z.lnil ?_
                    refine Z.only [4, 5] rfl ?_
                    refine Z.nthen ?_
                    refine Z.ret ?_
                    -- ret#2
                    refine Z.out2 (by exact ⟨rfl, rfl, trivial⟩) ?_
                    obtain rfl : k = wd := by omega
                    refine ⟨_, rfl, by unfold getV; rw [e]; rfl, ?_⟩
                    unfold getA; rw [e]
                    exact hs
                    )
              )
        )
end Go.Proofs.Yteabcdmgklhijaa
