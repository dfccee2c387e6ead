/- The reader: Align, End. -/
import Derived.Test.YtggikablbdhniaaFi
namespace Go.Proofs.Ytggikablbdhniaa
open Go.RowKit
set_option linter.unusedSimpArgs false
set_option linter.unusedVariables false

/-- bits up to the next byte -/
def toByte (a : Nat) : Nat := (8 - a % 8) % 8
def alE (l : List Int) (a : Nat) : Int := if val (bitsAt l a (toByte a)) = 0 then 0 else 9
def alA (l : List Int) (a : Nat) : Nat := if val (bitsAt l a (toByte a)) = 0 then a + toByte a else a
def endE (l : List Int) (a : Nat) : Int := if 8 ≤ 8 * l.length - a then 9 else alE l a
theorem getE_ok {l : List Int} {a : Nat} {n : Nat} (h : a + n ≤ 8 * l.length) (h2 : n ≤ 64) : getE l a (n : Int) = 0 := by
  unfold getE
  rw [if_neg (by omega), if_neg (by omega)]

theorem ralign_any (g T : Nat) (sv : Value) (l : List Int) (at_ : Nat) (w : World) (hs : SX.St w (SX.idsOf (RdL g T sv l at_)) w (RdL g T sv l at_)) (hl : l.length ≤ 1000000) (ha : at_ ≤ 8 * l.length) (hb : ∀ x ∈ l, 0 ≤ x ∧ x < 256) :
    Calls Try.prog 28 #[.pointer (some ⟨g, 0, none⟩)] w (SX.Ret fun r w' => r = .int .i64 (alE l at_) ∧ SX.St w (SX.idsOf (RdL g T sv l at_)) w' (RdL g T sv l (alA l at_))) := by
  generalize hM : SX.idsOf (RdL g T sv l at_) = M at *
  have htb : ((8 - (at_ : Int) % 8) % 8) = (toByte at_ : Int) := by unfold toByte; omega
  have ht8 : toByte at_ < 8 ∧ at_ + toByte at_ ≤ 8 * l.length := by unfold toByte; omega
  have he := getE_ok (l := l) (a := at_) (n := toByte at_) ht8.2 (by omega)
  have hv : getV l at_ (toByte at_ : Int) = (val (bitsAt l at_ (toByte at_)) : Int) := by unfold getV; rw [if_pos he, Int.toNat_natCast]
  have hA : getA l at_ (toByte at_ : Int) = at_ + toByte at_ := by unfold getA; rw [if_pos he, Int.toNat_natCast]
  have hvb := val_bd (bs := bitsAt l at_ (toByte at_)) (by rw [bitsAt_length (by omega)]; omega)
  simp only [RdL] at hs
  refine Z.enter Try.func28 rfl Try.ntmps28 rfl rfl ?_
  refine Z.seq ?_
  refine Z.region ?_
  refine Z.lb 1 rfl ?_
  refine Z.lnil ?_
  refine Z.only [0] rfl ?_
  refine Z.nthen ?_
  refine Z.seq ?_
  refine Z.seq ?_
  refine Z.region ?_
  refine Z.lb 1 rfl ?_
  refine Z.l rfl rfl (by rfl) (Z.keepS hs) (Z.Yd.ptrNil rfl rfl Try.underlying51) ?_
  refine Z.lnil ?_
  refine Z.only [0, 7] rfl ?_
  refine Z.nthen ?_
  refine Z.cond rfl (fun h => absurd h (by simp)) (fun hc1 => ?_)
  refine Z.skip ?_
  refine Z.nthen ?_
  refine Z.seq ?_
  refine Z.region ?_
  refine Z.lb 1 rfl ?_
  refine Z.l rfl rfl (by rfl) (Z.keepS hs) (Z.Yd.nilc rfl rfl) ?_
  refine Z.l rfl rfl (by rfl) (Z.keepS hs) (Z.Yd.fieldA (m := 1) rfl (by kernel_rfl)) ?_
  refine Z.l rfl rfl (by rfl) (Z.keepS hs) (by first | exact Z.Yd.load rfl Try.isAgg3 (fun _ => Z.cellB (by first | ((repeat (first | exact List.mem_cons_self | refine List.mem_cons_of_mem _ ?_ | refine List.mem_append_right _ ?_)); done) | fail) rfl) | exact Z.Yd.load rfl Try.isAgg3 (fun _ => Z.cellO (by assumption) (by simp) (by assumption)) | fail "load 3.3") ?_
  refine Z.l rfl rfl (by rfl) (Z.keepS hs) (Z.Yd.rem rfl rfl (by intro hG; first | decide | omega) (by intro hG; first | exact Z.tmodn (by omega) | exact rfl)) ?_
  refine Z.l rfl rfl (by rfl) (Z.keepS hs) (Z.Yd.sub rfl rfl (fun hG => Z.wi64 (by first | omega | (have hG' := Z.gh rfl hG; simp at hG'; omega)))) ?_
  refine Z.l rfl rfl (by rfl) (Z.keepS hs) (Z.Yd.rem rfl rfl (by intro hG; first | decide | omega) (by intro hG; first | exact Z.tmodn (by omega) | exact rfl)) ?_
  refine Z.lb 1 rfl ?_
  refine Z.lnil ?_
  refine Z.only [0, 3] rfl ?_
  refine Z.nthen ?_
  refine Z.seq ?_
  refine Z.region ?_
  refine Z.lb 2 rfl ?_
  rw [htb]
  refine Z.le rfl trivial ?_
  refine Z.ZO.call rfl rfl (by rfl) rfl rfl Try.call25 rfl (rget_any g T sv l at_ (toByte at_) _ hs.all hl ha hb) ?_
  rintro v4_2 w4_2 ⟨rfl, hz⟩
  replace hs := hs.regainAll hz
  rw [he, hv, hA] at *
  simp only [RdL] at hs
  refine Z.lb 5 rfl ?_
  refine Z.lnil ?_
  refine Z.only [0, 3, 4] rfl ?_
  refine Z.nthen ?_
  refine Z.seq ?_
  refine Z.seq ?_
  refine Z.region ?_
  refine Z.lb 2 rfl ?_
  refine Z.lnil ?_
  refine Z.only [0, 3, 22] rfl ?_
  refine Z.nthen ?_
  refine Z.cond rfl (fun hc5 => ?_) (fun hc5 => ?_)
  · first
      | (exfalso; simp at hc5 <;> omega)
      | (
        (try simp at hc5)
        refine Z.seq ?_
        refine Z.region ?_
        refine Z.lb 1 rfl ?_
        refine Z.l rfl rfl (by rfl) (Z.keepS hs) (Z.Yd.nilc rfl rfl) ?_
        refine Z.l rfl rfl (by rfl) (Z.keepS hs) (Z.Yd.fieldA (m := 1) rfl (by kernel_rfl)) ?_
        refine Z.l rfl rfl (by rfl) (Z.keepS hs) (by first | exact Z.Yd.load rfl Try.isAgg3 (fun _ => Z.cellB (by first | ((repeat (first | exact List.mem_cons_self | refine List.mem_cons_of_mem _ ?_ | refine List.mem_append_right _ ?_)); done) | fail) rfl) | exact Z.Yd.load rfl Try.isAgg3 (fun _ => Z.cellO (by assumption) (by simp) (by assumption)) | fail "load 6.3") ?_
        refine Z.lb 1 rfl ?_
        refine Z.l rfl rfl (by rfl) (Z.keepS hs) (Z.Yd.sub rfl rfl (fun hG => Z.wi64 (by first | omega | (have hG' := Z.gh rfl hG; simp at hG'; omega)))) ?_
        refine Z.l rfl rfl (by rfl) (Z.keepS hs) (Z.Yd.nilc rfl rfl) ?_
        refine Z.l rfl rfl (by rfl) (Z.keepS hs) (Z.Yd.fieldA (m := 1) rfl (by kernel_rfl)) ?_
        refine Z.le rfl trivial ?_
        first | refine Z.ZO.store rfl rfl hs Try.sizeOf3 rfl rfl rfl (by first | exact SX.at0 | exact SX.at1 | exact SX.at2 | exact SX.at3 | exact SX.at4 | exact SX.at5 | exact Z.at6 | exact Z.at7 | exact Z.at8 | exact Z.at9 | exact Z.at10 | exact Z.at11 | exact Z.at12) (by simp) ?_ | refine Z.ZO.storeR rfl rfl hs Try.sizeOf3 rfl rfl rfl (by first | exact SX.at0 | exact SX.at1 | exact SX.at2 | exact SX.at3 | exact SX.at4 | exact SX.at5 | exact Z.at6 | exact Z.at7 | exact Z.at8 | exact Z.at9 | exact Z.at10 | exact Z.at11 | exact Z.at12) (by first | omega | (simp [ints_length]; done) | (simp [ints_length]; omega)) ?_
        clear hs; intro ws hs
        simp only [Nat.zero_add, Nat.add_zero, Nat.reduceAdd, List.set_cons_zero, List.set_cons_succ, List.setIfInBounds_toArray] at hs
        refine Z.lnil ?_
        refine Z.only [] rfl ?_
        refine Z.nthen ?_
        refine Z.seq ?_
        refine Z.region ?_
        refine Z.lb 1 rfl ?_
        refine Z.lnil ?_
        refine Z.only [2] rfl ?_
        refine Z.nthen ?_
        refine Z.ret ?_
        repeat (first | refine Z.rthen ?_ | refine Z.rblock ?_ | refine Z.rscope ?_)
        -- ret#0
        refine Z.out1 (by exact ⟨rfl, trivial⟩) ?_
        refine ⟨_, rfl, by unfold alE; rw [if_neg (by omega)], ?_⟩
        have e : (((at_ + toByte at_ : Nat) : Int) - (toByte at_ : Int)) = (at_ : Int) := by omega
        rw [e] at hs
        unfold alA
        rw [if_neg (by omega)]
        exact hs
        )
  · first
      | (exfalso; simp at hc5 <;> omega)
      | (
        (try simp at hc5)
        refine Z.skip ?_
        refine Z.nthen ?_
        refine Z.seq ?_
        refine Z.region ?_
        refine Z.lb 1 rfl ?_
        refine Z.lnil ?_
        refine Z.only [2] rfl ?_
        refine Z.nthen ?_
        refine Z.ret ?_
        -- ret#1
        refine Z.out1 (by exact ⟨rfl, trivial⟩) ?_
        refine ⟨_, rfl, by unfold alE; rw [if_pos (by omega)], ?_⟩
        unfold alA
        rw [if_pos (by omega)]
        exact hs
        )

theorem rend_any (g T : Nat) (sv : Value) (l : List Int) (at_ : Nat) (w : World) (hs : SX.St w (SX.idsOf (RdL g T sv l at_)) w (RdL g T sv l at_)) (hl : l.length ≤ 1000000) (ha : at_ ≤ 8 * l.length) (hb : ∀ x ∈ l, 0 ≤ x ∧ x < 256) :
    Calls Try.prog 27 #[.pointer (some ⟨g, 0, none⟩)] w (SX.Ret fun r w' => r = .int .i64 (endE l at_) ∧ SX.St w (SX.idsOf (RdL g T sv l at_)) w' (RdL g T sv l at_)) := by
  generalize hM : SX.idsOf (RdL g T sv l at_) = M at *
  simp only [RdL] at hs
  obtain ⟨A, c, rfl, -, -, -⟩ := SX.row_slv hs (j := 1) rfl
  refine Z.enter Try.func27 rfl Try.ntmps27 rfl rfl ?_
  refine Z.seq ?_
  refine Z.region ?_
  refine Z.lb 1 rfl ?_
  refine Z.lnil ?_
  refine Z.only [0] rfl ?_
  refine Z.nthen ?_
  refine Z.seq ?_
  refine Z.seq ?_
  refine Z.region ?_
  refine Z.lb 1 rfl ?_
  refine Z.l rfl rfl (by rfl) (Z.keepS hs) (Z.Yd.ptrNil rfl rfl Try.underlying51) ?_
  refine Z.lnil ?_
  refine Z.only [0, 5] rfl ?_
  refine Z.nthen ?_
  refine Z.cond rfl (fun h => absurd h (by simp)) (fun hc1 => ?_)
  refine Z.skip ?_
  refine Z.nthen ?_
  refine Z.seq ?_
  refine Z.region ?_
  refine Z.lb 1 rfl ?_
  refine Z.l rfl rfl (by rfl) (Z.keepS hs) (Z.Yd.nilc rfl rfl) ?_
  refine Z.l rfl rfl (by rfl) (Z.keepS hs) (by first | exact Z.Yd.loadA _ rfl Try.isAgg73 (fun _ => Z.cellsB (by first | ((repeat (first | exact List.mem_cons_self | refine List.mem_cons_of_mem _ ?_ | refine List.mem_append_right _ ?_)); done) | fail)) (by exact Try.sizeOf73) | fail "load 3.2") ?_
  refine Z.le rfl trivial ?_
  refine Z.ZO.alloc rfl rfl (by rfl) Try.zeroValue73 rfl hs ?_
  clear hs; intro g3 w3 hs
  refine Z.le rfl trivial ?_
  refine Z.ZO.storeA rfl rfl hs rfl rfl (by kernel_rfl) (by simp [Value.oneCell']) (by first | exact SX.at0 | exact SX.at1 | exact SX.at2 | exact SX.at3 | exact SX.at4 | exact SX.at5 | exact Z.at6 | exact Z.at7 | exact Z.at8 | exact Z.at9 | exact Z.at10 | exact Z.at11 | exact Z.at12) (by rfl) ?_
  clear hs; intro ws hs
  simp only [Nat.zero_add, Nat.add_zero, Nat.reduceAdd, List.set_cons_zero, List.set_cons_succ, List.setIfInBounds_toArray] at hs
  refine Z.lnil ?_
  refine Z.only [3] rfl ?_
  refine Z.nthen ?_
  refine Z.seq ?_
  refine Z.seq ?_
  refine Z.region ?_
  replace hs : SX.St w M _ (RdL g3 73 (.slice A l.length c) l at_ ++ [SX.Ent.blk g T #[.slice A l.length c, .int .i64 (at_ : Int)]]) := hs.sel [0, 2, 1] (by decide)
  refine Z.le rfl trivial ?_
  refine Z.ZO.call rfl rfl (by rfl) rfl rfl Try.call24 rfl (rleft_any g3 _ _ l at_ _ hs.lend hl ha) ?_
  rintro v4_0 w4_0 ⟨rfl, hz⟩
  replace hs := hs.regain hz
  refine Z.lb 2 rfl ?_
  refine Z.split (s := 11) rfl (fun hsp11 => ?_) (fun hsp11 => ?_)
  · refine Z.yes (s := 11) (b := true) rfl hsp11 rfl ?_
    (try simp at hsp11)
    refine Z.ls rfl rfl rfl (by rfl) ?_
    refine Z.ls rfl rfl rfl (by rfl) ?_
    refine Z.l rfl rfl (by rfl) (Z.keepS hs) (Z.Yd.pickT rfl rfl) ?_
    refine Z.lnil ?_
    refine Z.only [14] rfl ?_
    refine Z.nthen ?_
    refine Z.cond rfl (fun hc4 => ?_) (fun hc4 => ?_)
    · first
        | (exfalso; simp at hc4 <;> omega)
        | (
          (try simp at hc4)
          refine Z.seq ?_
          refine Z.region ?_
          refine Z.lb 1 rfl ?_
          refine Z.lnil ?_
          refine Z.only [2] rfl ?_
          refine Z.nthen ?_
          refine Z.ret ?_
          repeat (first | refine Z.rthen ?_ | refine Z.rblock ?_ | refine Z.rscope ?_)
          -- ret#0
          refine Z.out1 (by exact ⟨rfl, trivial⟩) ?_
          refine ⟨_, rfl, by unfold endE; rw [if_pos (by omega)], ?_⟩
          exact hs.sel [2, 1] (by decide)
          )
    · first
        | (exfalso; simp at hc4 <;> omega)
        | (
          (try simp at hc4)
          refine Z.skip ?_
          refine Z.nthen ?_
          refine Z.seq ?_
          refine Z.region ?_
          refine Z.lb 1 rfl ?_
          refine Z.lnil ?_
          refine Z.only [2] rfl ?_
          refine Z.nthen ?_
          refine Z.ret ?_
          -- ret#1
          refine Z.out1 (by exact ⟨rfl, trivial⟩) ?_
          exact ⟨_, rfl, rfl, hs⟩
          )
  · refine Z.yes (s := 11) (b := false) rfl hsp11 rfl ?_
    (try simp at hsp11)
    refine Z.le rfl (by exact ⟨rfl, trivial⟩) ?_
    refine Z.ZO.call rfl rfl (by rfl) rfl rfl Try.call28 rfl (ralign_any g3 _ _ l at_ _ hs.lend hl ha hb) ?_
    rintro v4_3 w4_3 ⟨rfl, hz⟩
    replace hs := hs.regain hz
    refine Z.lb 1 rfl ?_
    refine Z.yes (s := 11) (b := false) rfl rfl rfl ?_
    refine Z.l rfl rfl (by rfl) (Z.keepS hs) (Z.Yd.pickF rfl rfl) ?_
    refine Z.lnil ?_
    refine Z.only [14] rfl ?_
    refine Z.nthen ?_
    refine Z.cond rfl (fun hc4 => ?_) (fun hc4 => ?_)
    · first
        | (exfalso; simp at hc4 <;> omega)
        | (
          (try simp at hc4)
          refine Z.seq ?_
          refine Z.region ?_
          refine Z.lb 1 rfl ?_
          refine Z.lnil ?_
          refine Z.only [2] rfl ?_
          refine Z.nthen ?_
          refine Z.ret ?_
          repeat (first | refine Z.rthen ?_ | refine Z.rblock ?_ | refine Z.rscope ?_)
          -- ret#2
          refine Z.out1 (by exact ⟨rfl, trivial⟩) ?_
          refine ⟨_, rfl, ?_, hs.sel [2, 1] (by decide)⟩
          have e : alE l at_ = 9 := by unfold alE at hc4 ⊢; split at hc4 <;> simp_all
          unfold endE
          rw [if_neg (by omega), e]
          )
    · first
        | (exfalso; simp at hc4 <;> omega)
        | (
          (try simp at hc4)
          refine Z.skip ?_
          refine Z.nthen ?_
          refine Z.seq ?_
          refine Z.region ?_
          refine Z.lb 1 rfl ?_
          refine Z.lnil ?_
          refine Z.only [2] rfl ?_
          refine Z.nthen ?_
          refine Z.ret ?_
          -- ret#3
          refine Z.out1 (by exact ⟨rfl, trivial⟩) ?_
          refine ⟨_, rfl, ?_, hs.sel [2, 1] (by decide)⟩
          unfold endE
          rw [if_neg (by omega), hc4]
          )

theorem WrL_start {w0 w : World} {M : List Nat} {L : List SX.Ent} {g T : Nat} (hs : SX.St w0 M w (SX.Ent.blk g T #[.slice none 0 0, .int .i64 0] :: L)) : SX.St w0 M w (WrL g T (.slice none 0 0) [] ++ L) := by
  have h := hs.nil 5 1
  exact h.perm (List.Perm.swap _ _ _)

def b9 : List Bool := [true, false, true, false, false, false, false, false, true]
/-- a row of packed bits -/
def rowP (sv : Value) (bs : List Bool) : SX.Ent := SX.Ent.row sv 5 1 (pk bs).length (ints .u8 (pk bs))

set_option maxRecDepth 100000 in
theorem works_any (w : World) : Calls Try.prog 10 #[] w (SX.Ret fun r w' => r = .bool true ∧ SX.St w [] w' []) := by
  have hs := SX.St.start w
  refine Z.enter Try.func10 rfl Try.ntmps10 rfl rfl ?_
  refine Z.seq ?_
  refine Z.region ?_
  refine Z.lb 1 rfl ?_
  refine Z.lnil ?_
  refine Z.only [] rfl ?_
  refine Z.nthen ?_
  refine Z.seq ?_
  refine Z.region ?_
  refine Z.le rfl trivial ?_
  refine Z.ZO.alloc rfl rfl (by rfl) Try.zeroValue29 rfl hs ?_
  clear hs; intro g1 w1 hs
  refine Z.lnil ?_
  refine Z.only [1] rfl ?_
  replace hs := WrL_start hs
  refine Z.nthen ?_
  refine Z.seq ?_
  refine Z.region ?_
  refine Z.le rfl trivial ?_
  refine Z.ZO.call rfl rfl (by rfl) rfl rfl Try.call32 rfl (wput_any g1 _ _ [] 5 3 _ hs.all (by decide) (by unfold GoodF; decide)) ?_
  rintro v2_0 w2_0 ⟨sv1, hv, hz⟩
  replace hs := hs.regainAll hz
  rw [show chkF ((5 : Int), (3 : Int)) = 0 from by decide] at hv
  subst hv
  rw [show resA [] [((5 : Int), (3 : Int))] = [true, false, true] from by decide] at hs
  refine Z.le rfl trivial ?_
  refine Z.ZO.call rfl rfl (by rfl) rfl rfl Try.call32 rfl (wput_any g1 _ _ _ 1 6 _ hs.all (by decide) (by unfold GoodF; decide)) ?_
  rintro v2_1 w2_1 ⟨sv2, hv, hz⟩
  replace hs := hs.regainAll hz
  rw [show chkF ((1 : Int), (6 : Int)) = 0 from by decide] at hv
  subst hv
  rw [show resA [true, false, true] [((1 : Int), (6 : Int))] = b9 from by decide] at hs
  refine Z.lb 2 rfl ?_
  refine Z.lnil ?_
  refine Z.only [1, 2, 3] rfl ?_
  refine Z.nthen ?_
  refine Z.seq ?_
  refine Z.region ?_
  refine Z.le rfl trivial ?_
  refine Z.ZO.call rfl rfl (by rfl) rfl rfl Try.call12 rfl (wlen_any g1 _ _ _ _ hs.all (by decide)) ?_
  rintro v3_0 w3_0 ⟨rfl, hz⟩
  replace hs := hs.regainAll hz
  refine Z.le rfl trivial ?_
  refine Z.ZO.call rfl rfl (by rfl) rfl rfl Try.call14 rfl (wbytes_any g1 _ _ _ _ hs.all (by decide)) ?_
  rintro v3_1 w3_1 hz
  replace hs := (hs.regainAll hz).rot (L1 := [_])
  obtain ⟨A5, c5, rfl, -, -, -⟩ := SX.row_slv hs (j := 2) rfl
  refine Z.lb 2 rfl ?_
  refine Z.lnil ?_
  refine Z.only [1, 2, 3, 4, 5] rfl ?_
  refine Z.nthen ?_
  refine Z.seq ?_
  refine Z.region ?_
  refine Z.le rfl trivial ?_
  refine Z.ZO.call rfl rfl (by rfl) rfl rfl Try.call32 rfl (wput_any g1 _ _ _ 4 2 _ hs.lend (by decide) (by unfold GoodF; decide)) ?_
  rintro v4_0 w4_0 ⟨sv3, hv, hz⟩
  replace hs := hs.regain hz
  rw [show chkF ((4 : Int), (2 : Int)) = 4 from by decide] at hv
  subst hv
  rw [show resA b9 [((4 : Int), (2 : Int))] = b9 from by decide] at hs
  refine Z.le rfl trivial ?_
  refine Z.ZO.call rfl rfl (by rfl) rfl rfl Try.call32 rfl (wput_any g1 _ _ _ 0 65 _ hs.lend (by decide) (by unfold GoodF; decide)) ?_
  rintro v4_1 w4_1 ⟨sv4, hv, hz⟩
  replace hs := hs.regain hz
  rw [show chkF ((0 : Int), (65 : Int)) = 2 from by decide] at hv
  subst hv
  rw [show resA b9 [((0 : Int), (65 : Int))] = b9 from by decide] at hs
  refine Z.lb 2 rfl ?_
  refine Z.lnil ?_
  refine Z.only [1, 2, 3, 4, 5, 6, 7] rfl ?_
  refine Z.nthen ?_
  refine Z.seq ?_
  refine Z.region ?_
  refine Z.le rfl trivial ?_
  refine Z.ZO.call rfl rfl (by rfl) rfl rfl Try.call33 rfl (walign_any g1 _ _ _ _ hs.lend (by decide)) ?_
  rintro v5_0 w5_0 ⟨rfl, hz⟩
  replace hs := hs.regain hz
  refine Z.le rfl trivial ?_
  refine Z.ZO.lit rfl rfl (by rfl) rfl (by intro W; go_simp; exact rfl) hs ?_
  clear hs; intro g29 w29 hs
  replace hs := hs.rot (L1 := [_])
  refine Z.le rfl trivial ?_
  refine Z.ZO.call rfl rfl (by rfl) rfl rfl Try.call16 rfl (wputbytes_any g1 _ _ _ _ 1 1 [255] _ (hs.lend (L1 := WrL _ _ _ _)) (Z.blk_lentj (L1 := WrL _ _ _ _) hs (j := 1) rfl) rfl (by decide) (by decide) (by decide)) ?_
  rintro v5_2 w5_2 ⟨sv5, rfl, hz⟩
  replace hs := hs.regain (L1 := WrL _ _ _ _) hz
  replace hs : SX.St w [] _ (WrL g1 29 sv5 (pad b9 ++ unb [255]) ++ [rowP (.slice A5 (pk b9).length c5) b9]) := hs.sel [0, 1, 2] (by decide)
  refine Z.lb 2 rfl ?_
  refine Z.lnil ?_
  refine Z.only [1, 2, 3, 4, 5, 6, 7, 8, 9] rfl ?_
  refine Z.nthen ?_
  refine Z.seq ?_
  refine Z.region ?_
  refine Z.le rfl trivial ?_
  refine Z.ZO.lit rfl rfl (by rfl) rfl (by intro W; go_simp; exact rfl) hs ?_
  clear hs; intro g31 w31 hs
  replace hs := hs.rot (L1 := [_])
  refine Z.le rfl trivial ?_
  refine Z.ZO.call rfl rfl (by rfl) rfl rfl Try.call21 rfl (newreader_any _ 2 2 [160, 128] _ (Z.blk_lentj (L1 := []) hs (j := 3) rfl) rfl (by decide) (by simp)) ?_
  rintro v6_1 w6_1 ⟨gr, svr, rfl, hy⟩
  replace hs := hs.call hy
  clear hy
  try simp only [List.cons_append, List.nil_append, List.append_nil] at hs
  refine Z.lb 1 rfl ?_
  refine Z.lnil ?_
  refine Z.only [1, 2, 3, 4, 5, 6, 7, 8, 9, 10] rfl ?_
  refine Z.nthen ?_
  refine Z.seq ?_
  refine Z.region ?_
  refine Z.lb 1 rfl ?_
  refine Z.le rfl trivial ?_
  refine Z.ZO.call rfl rfl (by rfl) rfl rfl Try.call25 rfl (rget_any gr _ _ [160, 128] 0 3 _ (hs.lend (L1 := RdL _ _ _ _ _)) (by decide) (by decide) (by decide)) ?_
  rintro v7_1 w7_1 ⟨hv, hz⟩
  replace hs := hs.regain (L1 := RdL _ _ _ _ _) hz
  rw [show getV [160, 128] 0 3 = 5 from by decide, show getE [160, 128] 0 3 = 0 from by decide] at hv
  subst hv
  rw [show getA [160, 128] 0 3 = 3 from by decide] at hs
  refine Z.lb 5 rfl ?_
  refine Z.lnil ?_
  refine Z.only [1, 2, 3, 4, 5, 6, 7, 8, 9, 10, 11, 12] rfl ?_
  refine Z.nthen ?_
  refine Z.seq ?_
  refine Z.region ?_
  refine Z.lb 1 rfl ?_
  refine Z.le rfl trivial ?_
  refine Z.ZO.call rfl rfl (by rfl) rfl rfl Try.call25 rfl (rget_any gr _ _ [160, 128] 3 6 _ (hs.lend (L1 := RdL _ _ _ _ _)) (by decide) (by decide) (by decide)) ?_
  rintro v8_1 w8_1 ⟨hv, hz⟩
  replace hs := hs.regain (L1 := RdL _ _ _ _ _) hz
  rw [show getV [160, 128] 3 6 = 1 from by decide, show getE [160, 128] 3 6 = 0 from by decide] at hv
  subst hv
  rw [show getA [160, 128] 3 6 = 9 from by decide] at hs
  refine Z.lb 5 rfl ?_
  refine Z.lnil ?_
  refine Z.only [1, 2, 3, 4, 5, 6, 7, 8, 9, 10, 11, 12, 13, 14] rfl ?_
  refine Z.nthen ?_
  refine Z.seq ?_
  refine Z.region ?_
  refine Z.lb 1 rfl ?_
  refine Z.le rfl trivial ?_
  refine Z.ZO.call rfl rfl (by rfl) rfl rfl Try.call24 rfl (rleft_any gr _ _ _ _ _ (hs.lend (L1 := RdL _ _ _ _ _)) (by decide) (by decide)) ?_
  rintro v9_1 w9_1 ⟨rfl, hz⟩
  replace hs := hs.regain (L1 := RdL _ _ _ _ _) hz
  refine Z.lb 1 rfl ?_
  refine Z.le rfl trivial ?_
  refine Z.ZO.call rfl rfl (by rfl) rfl rfl Try.call27 rfl (rend_any gr _ _ _ _ _ (hs.lend (L1 := RdL _ _ _ _ _)) (by decide) (by decide) (by decide)) ?_
  rintro v9_3 w9_3 ⟨hv, hz⟩
  replace hs := hs.regain (L1 := RdL _ _ _ _ _) hz
  rw [show endE [160, 128] 9 = 0 from by decide] at hv
  subst hv
  refine Z.lb 2 rfl ?_
  refine Z.lnil ?_
  refine Z.only [1, 2, 3, 4, 5, 6, 7, 8, 9, 10, 11, 12, 13, 14, 15, 16] rfl ?_
  refine Z.nthen ?_
  refine Z.seq ?_
  refine Z.region ?_
  refine Z.lb 1 rfl ?_
  refine Z.le rfl trivial ?_
  refine Z.ZO.call rfl rfl (by rfl) rfl rfl Try.call25 rfl (rget_any gr _ _ [160, 128] 9 8 _ (hs.lend (L1 := RdL _ _ _ _ _)) (by decide) (by decide) (by decide)) ?_
  rintro v10_1 w10_1 ⟨hv, hz⟩
  replace hs := hs.regain (L1 := RdL _ _ _ _ _) hz
  rw [show getV [160, 128] 9 8 = 0 from by decide, show getE [160, 128] 9 8 = 5 from by decide] at hv
  subst hv
  rw [show getA [160, 128] 9 8 = 9 from by decide] at hs
  refine Z.lb 5 rfl ?_
  refine Z.lnil ?_
  refine Z.only [1, 2, 3, 4, 5, 6, 7, 8, 9, 11, 12, 13, 14, 15, 16, 18] rfl ?_
  refine Z.nthen ?_
  refine Z.seq ?_
  refine Z.region ?_
  refine Z.le rfl trivial ?_
  refine Z.ZO.lit rfl rfl (by rfl) rfl (by intro W; go_simp; exact rfl) hs ?_
  clear hs; intro g52 w52 hs
  refine Z.le rfl trivial ?_
  refine Z.ZO.call rfl rfl (by rfl) rfl rfl Try.call21 rfl (newreader_any _ 2 2 [160, 192] _ (Z.blk_lentj (L1 := []) hs (j := 0) rfl) rfl (by decide) (by simp)) ?_
  rintro v11_1 w11_1 ⟨gs, svs, rfl, hy⟩
  replace hs := hs.call hy
  clear hy
  try simp only [List.cons_append, List.nil_append, List.append_nil] at hs
  refine Z.lb 1 rfl ?_
  refine Z.lnil ?_
  refine Z.only [1, 2, 3, 4, 5, 6, 7, 8, 9, 11, 12, 13, 14, 15, 16, 18, 19] rfl ?_
  refine Z.nthen ?_
  refine Z.seq ?_
  refine Z.region ?_
  refine Z.lb 1 rfl ?_
  refine Z.le rfl trivial ?_
  refine Z.ZO.call rfl rfl (by rfl) rfl rfl Try.call25 rfl (rget_any gs _ _ [160, 192] 0 9 _ (hs.lend (L1 := RdL _ _ _ _ _)) (by decide) (by decide) (by decide)) ?_
  rintro v12_1 w12_1 ⟨hv, hz⟩
  replace hs := hs.regain (L1 := RdL _ _ _ _ _) hz
  rw [show getV [160, 192] 0 9 = 321 from by decide, show getE [160, 192] 0 9 = 0 from by decide] at hv
  subst hv
  rw [show getA [160, 192] 0 9 = 9 from by decide] at hs
  refine Z.lb 5 rfl ?_
  refine Z.lnil ?_
  refine Z.only [1, 2, 3, 4, 5, 6, 7, 8, 9, 11, 12, 13, 14, 15, 16, 18, 19, 20, 21] rfl ?_
  replace hs : SX.St w [] _ (RdL gs 73 svs [160, 192] 9 ++ [rowP (.slice A5 (pk b9).length c5) b9] ++ WrL g1 29 sv5 (pad b9 ++ unb [255])) := hs.sel [0, 1, 7, 5, 6] (by decide)
  refine Z.nthen ?_
  refine Z.seq ?_
  refine Z.region ?_
  refine Z.lb 1 rfl ?_
  refine Z.le rfl trivial ?_
  refine Z.ZO.call rfl rfl (by rfl) rfl rfl Try.call18 rfl (num_any _ _) ?_
  rintro v13_1 w13_1 ⟨rfl, hy⟩
  replace hs := hs.call hy
  clear hy
  try simp only [List.cons_append, List.nil_append, List.append_nil] at hs
  refine Z.lb 1 rfl ?_
  refine Z.le rfl trivial ?_
  refine Z.ZO.call rfl rfl (by rfl) rfl rfl Try.call18 rfl (num_any _ _) ?_
  rintro v13_3 w13_3 ⟨rfl, hy⟩
  replace hs := hs.call hy
  clear hy
  try simp only [List.cons_append, List.nil_append, List.append_nil] at hs
  refine Z.l rfl rfl (by rfl) (Z.keepS hs) (Z.Yd.add rfl rfl (fun hG => Z.wi64 (by first | omega | (have hG' := Z.gh rfl hG; simp at hG'; omega)))) ?_
  refine Z.lb 1 rfl ?_
  refine Z.le rfl trivial ?_
  refine Z.ZO.call rfl rfl (by rfl) rfl rfl Try.call18 rfl (num_any _ _) ?_
  rintro v13_6 w13_6 ⟨rfl, hy⟩
  replace hs := hs.call hy
  clear hy
  try simp only [List.cons_append, List.nil_append, List.append_nil] at hs
  refine Z.l rfl rfl (by rfl) (Z.keepS hs) (Z.Yd.add rfl rfl (fun hG => Z.wi64 (by first | omega | (have hG' := Z.gh rfl hG; simp at hG'; omega)))) ?_
  refine Z.lb 1 rfl ?_
  refine Z.le rfl trivial ?_
  refine Z.ZO.call rfl rfl (by rfl) rfl rfl Try.call18 rfl (num_any _ _) ?_
  rintro v13_9 w13_9 ⟨rfl, hy⟩
  replace hs := hs.call hy
  clear hy
  try simp only [List.cons_append, List.nil_append, List.append_nil] at hs
  refine Z.l rfl rfl (by rfl) (Z.keepS hs) (Z.Yd.add rfl rfl (fun hG => Z.wi64 (by first | omega | (have hG' := Z.gh rfl hG; simp at hG'; omega)))) ?_
  refine Z.lb 1 rfl ?_
  refine Z.le rfl trivial ?_
  refine Z.ZO.call rfl rfl (by rfl) rfl rfl Try.call18 rfl (num_any _ _) ?_
  rintro v13_12 w13_12 ⟨rfl, hy⟩
  replace hs := hs.call hy
  clear hy
  try simp only [List.cons_append, List.nil_append, List.append_nil] at hs
  refine Z.l rfl rfl (by rfl) (Z.keepS hs) (Z.Yd.add rfl rfl (fun hG => Z.wi64 (by first | omega | (have hG' := Z.gh rfl hG; simp at hG'; omega)))) ?_
  refine Z.lb 1 rfl ?_
  refine Z.le rfl trivial ?_
  refine Z.ZO.call rfl rfl (by rfl) rfl rfl Try.call18 rfl (num_any _ _) ?_
  rintro v13_15 w13_15 ⟨rfl, hy⟩
  replace hs := hs.call hy
  clear hy
  try simp only [List.cons_append, List.nil_append, List.append_nil] at hs
  refine Z.l rfl rfl (by rfl) (Z.keepS hs) (Z.Yd.add rfl rfl (fun hG => Z.wi64 (by first | omega | (have hG' := Z.gh rfl hG; simp at hG'; omega)))) ?_
  refine Z.lb 1 rfl ?_
  refine Z.le rfl trivial ?_
  refine Z.ZO.call rfl rfl (by rfl) rfl rfl Try.call18 rfl (num_any _ _) ?_
  rintro v13_18 w13_18 ⟨rfl, hy⟩
  replace hs := hs.call hy
  clear hy
  try simp only [List.cons_append, List.nil_append, List.append_nil] at hs
  refine Z.l rfl rfl (by rfl) (Z.keepS hs) (Z.Yd.add rfl rfl (fun hG => Z.wi64 (by first | omega | (have hG' := Z.gh rfl hG; simp at hG'; omega)))) ?_
  refine Z.lb 1 rfl ?_
  refine Z.le rfl trivial ?_
  refine Z.ZO.call rfl rfl (by rfl) rfl rfl Try.call18 rfl (num_any _ _) ?_
  rintro v13_21 w13_21 ⟨rfl, hy⟩
  replace hs := hs.call hy
  clear hy
  try simp only [List.cons_append, List.nil_append, List.append_nil] at hs
  refine Z.l rfl rfl (by rfl) (Z.keepS hs) (Z.Yd.add rfl rfl (fun hG => Z.wi64 (by first | omega | (have hG' := Z.gh rfl hG; simp at hG'; omega)))) ?_
  refine Z.lb 2 rfl ?_
  refine Z.yes (s := 83) (b := true) rfl ((by decide)) rfl ?_
  refine Z.lb 2 rfl ?_
  refine Z.yes (s := 83) (b := true) rfl rfl rfl ?_
  refine Z.l rfl rfl (by rfl) (Z.keepS hs) (Z.Yd.pickT rfl rfl) ?_
  refine Z.lb 1 rfl ?_
  refine Z.yes (s := 87) (b := true) rfl ((by decide)) rfl ?_
  refine Z.lb 1 rfl ?_
  refine Z.yes (s := 87) (b := true) rfl rfl rfl ?_
  refine Z.le rfl (by exact ⟨rfl, trivial⟩) ?_
  refine Z.ZO.lit rfl rfl (by rfl) rfl (by intro W; go_simp; exact rfl) hs ?_
  clear hs; intro g89 w89 hs
  refine Z.le rfl (by exact ⟨rfl, trivial⟩) ?_
  refine Z.ZO.call rfl rfl (by rfl) rfl rfl Try.call13 rfl (same_any A5 _ _ 2 c5 2 (pk b9) [160, 128] _ (SX.row_slB hs (j := 3) rfl) (Z.blk_lentj (L1 := []) hs (j := 0) rfl).sl rfl rfl (by decide) (by decide)) ?_
  rintro v13_31 w13_31 ⟨rfl, hy⟩
  replace hs := hs.call hy
  clear hy
  try simp only [List.cons_append, List.nil_append, List.append_nil] at hs
  refine Z.l rfl rfl (by rfl) (Z.keepS hs) (Z.Yd.pickT rfl rfl) ?_
  refine Z.lb 1 rfl ?_
  refine Z.yes (s := 92) (b := true) rfl ((by decide)) rfl ?_
  refine Z.lb 2 rfl ?_
  refine Z.yes (s := 92) (b := true) rfl rfl rfl ?_
  refine Z.l rfl rfl (by rfl) (Z.keepS hs) (Z.Yd.pickT rfl rfl) ?_
  refine Z.lb 1 rfl ?_
  refine Z.yes (s := 96) (b := true) rfl ((by decide)) rfl ?_
  refine Z.lb 2 rfl ?_
  refine Z.yes (s := 96) (b := true) rfl rfl rfl ?_
  refine Z.l rfl rfl (by rfl) (Z.keepS hs) (Z.Yd.pickT rfl rfl) ?_
  refine Z.lb 1 rfl ?_
  replace hs : SX.St w [] _ (WrL g1 29 sv5 (pad b9 ++ unb [255]) ++ RdL gs 73 svs [160, 192] 9) := hs.sel [4, 5, 1, 2] (by decide)
  refine Z.yes (s := 100) (b := true) rfl ((by decide)) rfl ?_
  refine Z.le rfl (by exact ⟨rfl, trivial⟩) ?_
  refine Z.ZO.call rfl rfl (by rfl) rfl rfl Try.call14 rfl (wbytes_any g1 _ _ _ _ hs.lend (by decide)) ?_
  rintro v13_42 w13_42 hz
  replace hs := hs.regain hz
  obtain ⟨A6, c6, rfl, -, -, -⟩ := SX.row_slv hs (j := 0) rfl
  refine Z.le rfl (by exact ⟨rfl, trivial⟩) ?_
  refine Z.ZO.lit rfl rfl (by rfl) rfl (by intro W; go_simp; exact rfl) hs ?_
  clear hs; intro g102 w102 hs
  refine Z.le rfl (by exact ⟨rfl, trivial⟩) ?_
  refine Z.ZO.call rfl rfl (by rfl) rfl rfl Try.call13 rfl (same_any A6 _ _ 3 c6 3 (pk (pad b9 ++ unb [255])) [160, 128, 255] _ (SX.row_slB hs (j := 1) rfl) (Z.blk_lentj (L1 := []) hs (j := 0) rfl).sl rfl rfl (by decide) (by decide)) ?_
  rintro v13_44 w13_44 ⟨rfl, hy⟩
  replace hs := hs.call hy
  clear hy
  try simp only [List.cons_append, List.nil_append, List.append_nil] at hs
  replace hs : SX.St w [] _ (RdL gs 73 svs [160, 192] 9) := hs.sel [4, 5] (by decide)
  refine Z.l rfl rfl (by rfl) (Z.keepS hs) (Z.Yd.pickT rfl rfl) ?_
  refine Z.lb 1 rfl ?_
  refine Z.yes (s := 105) (b := true) rfl ((by decide)) rfl ?_
  refine Z.lb 2 rfl ?_
  refine Z.yes (s := 105) (b := true) rfl rfl rfl ?_
  refine Z.l rfl rfl (by rfl) (Z.keepS hs) (Z.Yd.pickT rfl rfl) ?_
  refine Z.lb 1 rfl ?_
  refine Z.yes (s := 109) (b := true) rfl ((by decide)) rfl ?_
  refine Z.lb 2 rfl ?_
  refine Z.yes (s := 109) (b := true) rfl rfl rfl ?_
  refine Z.l rfl rfl (by rfl) (Z.keepS hs) (Z.Yd.pickT rfl rfl) ?_
  refine Z.lb 1 rfl ?_
  refine Z.yes (s := 113) (b := true) rfl ((by decide)) rfl ?_
  refine Z.lb 2 rfl ?_
  refine Z.yes (s := 113) (b := true) rfl rfl rfl ?_
  refine Z.l rfl rfl (by rfl) (Z.keepS hs) (Z.Yd.pickT rfl rfl) ?_
  refine Z.lb 1 rfl ?_
  refine Z.yes (s := 117) (b := true) rfl ((by decide)) rfl ?_
  refine Z.lb 2 rfl ?_
  refine Z.yes (s := 117) (b := true) rfl rfl rfl ?_
  refine Z.l rfl rfl (by rfl) (Z.keepS hs) (Z.Yd.pickT rfl rfl) ?_
  refine Z.lb 1 rfl ?_
  refine Z.yes (s := 121) (b := true) rfl ((by decide)) rfl ?_
  refine Z.lb 2 rfl ?_
  refine Z.yes (s := 121) (b := true) rfl rfl rfl ?_
  refine Z.l rfl rfl (by rfl) (Z.keepS hs) (Z.Yd.pickT rfl rfl) ?_
  refine Z.lb 1 rfl ?_
  refine Z.yes (s := 125) (b := true) rfl ((by decide)) rfl ?_
  refine Z.lb 1 rfl ?_
  refine Z.yes (s := 125) (b := true) rfl rfl rfl ?_
  refine Z.le rfl (by exact ⟨rfl, trivial⟩) ?_
  refine Z.ZO.call rfl rfl (by rfl) rfl rfl Try.call28 rfl (ralign_any gs _ _ _ _ _ hs.all (by decide) (by decide) (by decide)) ?_
  rintro v13_68 w13_68 ⟨hv, hz⟩
  replace hs := hs.regainAll hz
  rw [show alE [160, 192] 9 = 9 from by decide] at hv
  subst hv
  rw [show alA [160, 192] 9 = 9 from by decide] at hs
  refine Z.lb 1 rfl ?_
  refine Z.yes (s := 125) (b := true) rfl rfl rfl ?_
  refine Z.l rfl rfl (by rfl) (Z.keepS hs) (Z.Yd.pickT rfl rfl) ?_
  refine Z.lb 1 rfl ?_
  refine Z.yes (s := 130) (b := true) rfl ((by decide)) rfl ?_
  refine Z.lb 1 rfl ?_
  refine Z.yes (s := 130) (b := true) rfl rfl rfl ?_
  refine Z.le rfl (by exact ⟨rfl, trivial⟩) ?_
  refine Z.ZO.call rfl rfl (by rfl) rfl rfl Try.call27 rfl (rend_any gs _ _ _ _ _ hs.all (by decide) (by decide) (by decide)) ?_
  rintro v13_73 w13_73 ⟨hv, hz⟩
  replace hs := hs.regainAll hz
  rw [show endE [160, 192] 9 = 9 from by decide] at hv
  subst hv
  refine Z.lb 1 rfl ?_
  refine Z.yes (s := 130) (b := true) rfl rfl rfl ?_
  refine Z.l rfl rfl (by rfl) (Z.keepS hs) (Z.Yd.pickT rfl rfl) ?_
  refine Z.lb 1 rfl ?_
  refine Z.lnil ?_
  refine Z.only [0] rfl ?_
  refine Z.nthen ?_
  refine Z.ret ?_
  -- ret#0
  refine Z.out1 (by exact ⟨rfl, trivial⟩) ?_
  exact ⟨_, rfl, rfl, hs.sub (List.nil_sublist _)⟩
end Go.Proofs.Ytggikablbdhniaa
