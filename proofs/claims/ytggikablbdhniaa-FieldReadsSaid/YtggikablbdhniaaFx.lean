/- FieldNone. -/
import Derived.Test.YtggikablbdhniaaFw
namespace Go.Proofs.Ytggikablbdhniaa
open Go.RowKit
set_option linter.unusedSimpArgs false
set_option linter.unusedVariables false

structure AskV where
  what : Int
  n : Int
  lA : Option Addr
  lc : Nat
  ll : List Int
def encK (x : AskV) : List Value := [.int .i64 x.what, .int .i64 x.n, .slice x.lA x.ll.length x.lc]
theorem encK_length (x : AskV) : (encK x).length = 3 := rfl
structure GoodK (W : World) (x : AskV) : Prop where
  what : -9223372036854775808 ≤ x.what ∧ x.what ≤ 9223372036854775807
  n : -9223372036854775808 ≤ x.n ∧ x.n ≤ 9223372036854775807
  ls : Sl W x.lA (ints .i64 x.ll)
  l63 : x.ll.length ≤ maxLen

set_option maxRecDepth 100000 in
theorem fieldNone_walk (x : ActV) (y : AskV) (w : World) (hg : GoodA w x) (hk : GoodK w y) :
    Calls Try.prog 8 #[.agg (encA x).toArray, .agg (encK y).toArray] w (SX.Ret fun r w' => r = .bool true ∧ SX.St w [] w' []) := by
  have hs := SX.St.start w
  have hmx : maxLen = 9223372036854775807 := rfl
  obtain ⟨what, v, n, bA, bc, bl, fA, fc, fl⟩ := x
  obtain ⟨what2, n2, lA, lc, ll⟩ := y
  have h63 := hg.b63
  have h64 := hg.f63
  have h65 := hk.l63
  simp only [encA, encK] at *
  refine Z.enter Try.func8 rfl Try.ntmps8 rfl rfl ?_
  refine Z.seq ?_
  refine Z.region ?_
  refine Z.le rfl trivial ?_
  refine Z.ZO.box rfl rfl (by rfl) rfl rfl hs ?_
  clear hs; intro g2 w2 hs
  refine Z.le rfl trivial ?_
  refine Z.ZO.box rfl rfl (by rfl) rfl rfl hs ?_
  clear hs; intro g3 w3 hs
  refine Z.lb 1 rfl ?_
  refine Z.lnil ?_
  refine Z.only [2, 3] rfl ?_
  refine Z.nthen ?_
  refine Z.seq ?_
  refine Z.seq ?_
  refine Z.region ?_
  refine Z.l rfl rfl (by rfl) (Z.keepS hs) (Z.Yd.fieldA (m := 3) rfl (by kernel_rfl)) ?_
  refine Z.l rfl rfl (by rfl) (Z.keepS hs) (by first | exact Z.Yd.load rfl Try.isAgg25 (fun _ => Z.cellB (by first | ((repeat (first | exact List.mem_cons_self | refine List.mem_cons_of_mem _ ?_ | refine List.mem_append_right _ ?_)); done) | fail) rfl) | exact Z.Yd.load rfl Try.isAgg25 (fun _ => Z.cellO (by assumption) (by simp) (by assumption)) | fail "load 1.1") ?_
  refine Z.l rfl rfl (by rfl) (Z.keepS hs) (Z.Yd.lenS rfl Try.underlying25) ?_
  refine Z.lb 2 rfl ?_
  refine Z.split (s := 20) rfl (fun hsp20 => ?_) (fun hsp20 => ?_)
  · first
      | (exfalso; simp at hsp20 <;> omega)
      | (
        refine Z.yes (s := 20) (b := true) rfl hsp20 rfl ?_
        (try simp at hsp20)
        refine Z.ls rfl rfl rfl (by rfl) ?_
        refine Z.ls rfl rfl rfl (by rfl) ?_
        refine Z.ls rfl rfl rfl (by rfl) ?_
        refine Z.ls rfl rfl rfl (by rfl) ?_
        refine Z.l rfl rfl (by rfl) (Z.keepS hs) (Z.Yd.pickT rfl rfl) ?_
        refine Z.lb 1 rfl ?_
        refine Z.split (s := 26) rfl (fun hsp26 => ?_) (fun hsp26 => ?_)
        · first
            | (exfalso; simp at hsp26 <;> omega)
            | (
              refine Z.yes (s := 26) (b := true) rfl hsp26 rfl ?_
              (try simp at hsp26)
              refine Z.ls rfl rfl rfl (by rfl) ?_
              refine Z.ls rfl rfl rfl (by rfl) ?_
              refine Z.ls rfl rfl rfl (by rfl) ?_
              refine Z.ls rfl rfl rfl (by rfl) ?_
              refine Z.l rfl rfl (by rfl) (Z.keepS hs) (Z.Yd.pickT rfl rfl) ?_
              refine Z.lnil ?_
              refine Z.only [2, 3, 31] rfl ?_
              refine Z.nthen ?_
              refine Z.cond rfl (fun hc1 => ?_) (fun hc1 => ?_)
              · first
                  | (exfalso; simp at hc1 <;> omega)
                  | (
                    (try simp at hc1)
                    refine Z.seq ?_
                    refine Z.region ?_
                    refine Z.le rfl trivial ?_
                    refine Z.ZO.call rfl rfl (by rfl) rfl rfl Try.call10 rfl (works_any _) ?_
                    rintro v2_0 w2_0 ⟨rfl, hy⟩
                    replace hs := hs.call hy
                    clear hy
                    try simp only [List.cons_append, List.nil_append, List.append_nil] at hs
                    refine Z.lb 1 rfl ?_
                    refine Z.lnil ?_
                    refine Z.only [4] rfl ?_
                    refine Z.nthen ?_
                    refine Z.ret ?_
                    repeat (first | refine Z.rthen ?_ | refine Z.rblock ?_ | refine Z.rscope ?_)
                    -- ret#0
                    refine Z.out1 (by exact ⟨rfl, trivial⟩) ?_
                    first | exact ⟨_, rfl, rfl, hs⟩ | exact ⟨_, rfl, rfl, hs.sub (List.nil_sublist _)⟩
                    )
              · first
                  | (exfalso; simp at hc1 <;> omega)
                  | (
                    (try simp at hc1)
                    refine Z.skip ?_
                    refine Z.nthen ?_
                    refine Z.seq ?_
                    refine Z.region ?_
                    refine Z.lb 1 rfl ?_
                    refine Z.lnil ?_
                    refine Z.only [2, 3, 5] rfl ?_
                    refine Z.nthen ?_
                    refine Z.seq ?_
                    refine Z.region ?_
                    refine Z.lb 1 rfl ?_
                    refine Z.lnil ?_
                    refine Z.only [2, 3, 5, 6] rfl ?_
                    refine Z.nthen ?_
                    refine Z.seq ?_
                    refine Z.region ?_
                    refine Z.le rfl trivial ?_
                    refine Z.ZO.alloc rfl rfl (by rfl) Try.zeroValue73 rfl hs ?_
                    clear hs; intro g7 w7 hs
                    refine Z.lnil ?_
                    refine Z.only [2, 3, 5, 6, 7] rfl ?_
                    refine Z.nthen ?_
                    refine Z.seq ?_
                    refine Z.region ?_
                    refine Z.lb 1 rfl ?_
                    refine Z.l rfl rfl (by rfl) (Z.keepS hs) (Z.Yd.fieldA (m := 1) rfl (by kernel_rfl)) ?_
                    refine Z.l rfl rfl (by rfl) (Z.keepS hs) (by first | exact Z.Yd.load rfl Try.isAgg3 (fun _ => Z.cellB (by first | ((repeat (first | exact List.mem_cons_self | refine List.mem_cons_of_mem _ ?_ | refine List.mem_append_right _ ?_)); done) | fail) rfl) | exact Z.Yd.load rfl Try.isAgg3 (fun _ => Z.cellO (by assumption) (by simp) (by assumption)) | fail "load 6.2") ?_
                    refine Z.le rfl trivial ?_
                    refine Z.ZO.call rfl rfl (by rfl) rfl rfl Try.call25 rfl (nil_Get _ _) ?_
                    rintro v6_3 w6_3 ⟨rfl, hy⟩
                    replace hs := hs.call hy
                    clear hy
                    try simp only [List.cons_append, List.nil_append, List.append_nil] at hs
                    refine Z.lb 5 rfl ?_
                    refine Z.lnil ?_
                    refine Z.only [2, 3, 5, 6, 7, 9] rfl ?_
                    refine Z.nthen ?_
                    refine Z.seq ?_
                    refine Z.region ?_
                    refine Z.lb 1 rfl ?_
                    refine Z.l rfl rfl (by rfl) (Z.keepS hs) (Z.Yd.fieldA (m := 1) rfl (by kernel_rfl)) ?_
                    refine Z.l rfl rfl (by rfl) (Z.keepS hs) (by first | exact Z.Yd.load rfl Try.isAgg3 (fun _ => Z.cellB (by first | ((repeat (first | exact List.mem_cons_self | refine List.mem_cons_of_mem _ ?_ | refine List.mem_append_right _ ?_)); done) | fail) rfl) | exact Z.Yd.load rfl Try.isAgg3 (fun _ => Z.cellO (by assumption) (by simp) (by assumption)) | fail "load 7.2") ?_
                    refine Z.le rfl trivial ?_
                    refine Z.ZO.call rfl rfl (by rfl) rfl rfl Try.call26 rfl (nil_GetBytes _ _) ?_
                    rintro v7_3 w7_3 ⟨rfl, hy⟩
                    replace hs := hs.call hy
                    clear hy
                    try simp only [List.cons_append, List.nil_append, List.append_nil] at hs
                    refine Z.lb 5 rfl ?_
                    refine Z.lnil ?_
                    refine Z.only [2, 3, 5, 6, 7, 9, 10, 11] rfl ?_
                    refine Z.nthen ?_
                    refine Z.seq ?_
                    refine Z.region ?_
                    refine Z.lb 1 rfl ?_
                    refine Z.l rfl rfl (by rfl) (Z.keepS hs) (Z.Yd.fieldA (m := 2) rfl (by kernel_rfl)) ?_
                    refine Z.l rfl rfl (by rfl) (Z.keepS hs) (by first | exact Z.Yd.load rfl Try.isAgg48 (fun _ => Z.cellB (by first | ((repeat (first | exact List.mem_cons_self | refine List.mem_cons_of_mem _ ?_ | refine List.mem_append_right _ ?_)); done) | fail) rfl) | exact Z.Yd.load rfl Try.isAgg48 (fun _ => Z.cellO (by assumption) (by simp) (by assumption)) | fail "load 8.2") ?_
                    refine Z.le rfl trivial ?_
                    refine Z.ZO.call rfl rfl (by rfl) rfl rfl Try.call22 rfl (nil_GetAll _ _ _ _) ?_
                    rintro v8_3 w8_3 ⟨rfl, hy⟩
                    replace hs := hs.call hy
                    clear hy
                    try simp only [List.cons_append, List.nil_append, List.append_nil] at hs
                    refine Z.lb 5 rfl ?_
                    refine Z.lnil ?_
                    refine Z.only [2, 5, 6, 7, 9, 10, 11, 12, 13] rfl ?_
                    refine Z.nthen ?_
                    refine Z.seq ?_
                    refine Z.region ?_
                    replace hs := (hs.nil 5 1)
                    replace hs : SX.St w [] _ (RdL g7 73 (.slice none 0 0) [] 0 ++ [SX.Ent.blk g3 68 #[.int .i64 what2, .int .i64 n2, .slice lA ll.length lc], SX.Ent.blk g2 36 #[.int .i64 what, .int .u64 v, .int .i64 n, .slice bA bl.length bc, .slice fA fl.length fc]]) := hs.sel [1, 0, 2, 3] (by decide)
                    refine Z.le rfl trivial ?_
                    refine Z.ZO.call rfl rfl (by rfl) rfl rfl Try.call25 rfl (rget_any g7 _ _ [] 0 1 _ (hs.lend (L1 := RdL _ _ _ _ _)) (by decide) (by decide) (by simp)) ?_
                    rintro v9_0 w9_0 ⟨hv, hz⟩
                    replace hs := hs.regain (L1 := RdL _ _ _ _ _) hz
                    rw [show getV [] 0 1 = 0 from by decide, show getE [] 0 1 = 5 from by decide] at hv
                    subst hv
                    rw [show getA [] 0 1 = 0 from by decide] at hs
                    refine Z.lb 5 rfl ?_
                    refine Z.lnil ?_
                    refine Z.only [2, 5, 6, 7, 9, 10, 11, 12, 13, 15] rfl ?_
                    refine Z.nthen ?_
                    refine Z.seq ?_
                    refine Z.region ?_
                    refine Z.lb 1 rfl ?_
                    refine Z.l rfl rfl (by rfl) (Z.keepS hs) (Z.Yd.fieldA (m := 1) rfl (by kernel_rfl)) ?_
                    refine Z.l rfl rfl (by rfl) (Z.keepS hs) (by first | exact Z.Yd.load rfl Try.isAgg33 (fun _ => Z.cellB (by first | ((repeat (first | exact List.mem_cons_self | refine List.mem_cons_of_mem _ ?_ | refine List.mem_append_right _ ?_)); done) | fail) rfl) | exact Z.Yd.load rfl Try.isAgg33 (fun _ => Z.cellO (by assumption) (by simp) (by assumption)) | fail "load 10.2") ?_
                    refine Z.l rfl rfl (by rfl) (Z.keepS hs) (Z.Yd.fieldA (m := 2) rfl (by kernel_rfl)) ?_
                    refine Z.l rfl rfl (by rfl) (Z.keepS hs) (by first | exact Z.Yd.load rfl Try.isAgg3 (fun _ => Z.cellB (by first | ((repeat (first | exact List.mem_cons_self | refine List.mem_cons_of_mem _ ?_ | refine List.mem_append_right _ ?_)); done) | fail) rfl) | exact Z.Yd.load rfl Try.isAgg3 (fun _ => Z.cellO (by assumption) (by simp) (by assumption)) | fail "load 10.4") ?_
                    refine Z.le rfl trivial ?_
                    refine Z.ZO.call rfl rfl (by rfl) rfl rfl Try.call32 rfl (nil_Put _ _ _) ?_
                    rintro v10_5 w10_5 ⟨rfl, hy⟩
                    replace hs := hs.call hy
                    clear hy
                    try simp only [List.cons_append, List.nil_append, List.append_nil] at hs
                    refine Z.le rfl trivial ?_
                    refine Z.ZO.call rfl rfl (by rfl) rfl rfl Try.call18 rfl (num_any _ _) ?_
                    rintro v10_6 w10_6 ⟨rfl, hy⟩
                    replace hs := hs.call hy
                    clear hy
                    try simp only [List.cons_append, List.nil_append, List.append_nil] at hs
                    refine Z.lb 2 rfl ?_
                    refine Z.yes (s := 66) (b := true) rfl ((by decide)) rfl ?_
                    refine Z.lb 1 rfl ?_
                    refine Z.l rfl rfl (by rfl) (Z.keepS hs) (Z.Yd.fieldA (m := 3) rfl (by kernel_rfl)) ?_
                    refine Z.l rfl rfl (by rfl) (Z.keepS hs) (by first | exact Z.Yd.load rfl Try.isAgg25 (fun _ => Z.cellB (by first | ((repeat (first | exact List.mem_cons_self | refine List.mem_cons_of_mem _ ?_ | refine List.mem_append_right _ ?_)); done) | fail) rfl) | exact Z.Yd.load rfl Try.isAgg25 (fun _ => Z.cellO (by assumption) (by simp) (by assumption)) | fail "load 10.11") ?_
                    refine Z.yes (s := 66) (b := true) rfl rfl rfl ?_
                    refine Z.le rfl (by exact ⟨rfl, trivial⟩) ?_
                    refine Z.ZO.call rfl rfl (by rfl) rfl rfl Try.call16 rfl (nil_PutBytes _ _ _ _) ?_
                    rintro v10_12 w10_12 ⟨rfl, hy⟩
                    replace hs := hs.call hy
                    clear hy
                    try simp only [List.cons_append, List.nil_append, List.append_nil] at hs
                    refine Z.le rfl (by exact ⟨rfl, trivial⟩) ?_
                    refine Z.ZO.call rfl rfl (by rfl) rfl rfl Try.call18 rfl (num_any _ _) ?_
                    rintro v10_13 w10_13 ⟨rfl, hy⟩
                    replace hs := hs.call hy
                    clear hy
                    try simp only [List.cons_append, List.nil_append, List.append_nil] at hs
                    refine Z.lb 1 rfl ?_
                    refine Z.yes (s := 66) (b := true) rfl rfl rfl ?_
                    refine Z.l rfl rfl (by rfl) (Z.keepS hs) (Z.Yd.pickT rfl rfl) ?_
                    refine Z.lb 1 rfl ?_
                    refine Z.yes (s := 74) (b := true) rfl ((by decide)) rfl ?_
                    refine Z.lb 1 rfl ?_
                    refine Z.l rfl rfl (by rfl) (Z.keepS hs) (Z.Yd.fieldA (m := 4) rfl (by kernel_rfl)) ?_
                    refine Z.l rfl rfl (by rfl) (Z.keepS hs) (by first | exact Z.Yd.load rfl Try.isAgg34 (fun _ => Z.cellB (by first | ((repeat (first | exact List.mem_cons_self | refine List.mem_cons_of_mem _ ?_ | refine List.mem_append_right _ ?_)); done) | fail) rfl) | exact Z.Yd.load rfl Try.isAgg34 (fun _ => Z.cellO (by assumption) (by simp) (by assumption)) | fail "load 10.19") ?_
                    refine Z.yes (s := 74) (b := true) rfl rfl rfl ?_
                    refine Z.le rfl (by exact ⟨rfl, trivial⟩) ?_
                    refine Z.ZO.call rfl rfl (by rfl) rfl rfl Try.call20 rfl (nil_PutAll _ _ _ _) ?_
                    rintro v10_20 w10_20 ⟨rfl, hy⟩
                    replace hs := hs.call hy
                    clear hy
                    try simp only [List.cons_append, List.nil_append, List.append_nil] at hs
                    refine Z.le rfl (by exact ⟨rfl, trivial⟩) ?_
                    refine Z.ZO.call rfl rfl (by rfl) rfl rfl Try.call18 rfl (num_any _ _) ?_
                    rintro v10_21 w10_21 ⟨rfl, hy⟩
                    replace hs := hs.call hy
                    clear hy
                    try simp only [List.cons_append, List.nil_append, List.append_nil] at hs
                    refine Z.lb 1 rfl ?_
                    refine Z.yes (s := 74) (b := true) rfl rfl rfl ?_
                    refine Z.l rfl rfl (by rfl) (Z.keepS hs) (Z.Yd.pickT rfl rfl) ?_
                    refine Z.lb 1 rfl ?_
                    refine Z.yes (s := 82) (b := true) rfl ((by decide)) rfl ?_
                    refine Z.lb 1 rfl ?_
                    refine Z.yes (s := 82) (b := true) rfl rfl rfl ?_
                    refine Z.le rfl (by exact ⟨rfl, trivial⟩) ?_
                    refine Z.ZO.call rfl rfl (by rfl) rfl rfl Try.call33 rfl (nil_Align _) ?_
                    rintro v10_26 w10_26 ⟨rfl, hy⟩
                    replace hs := hs.call hy
                    clear hy
                    try simp only [List.cons_append, List.nil_append, List.append_nil] at hs
                    refine Z.le rfl (by exact ⟨rfl, trivial⟩) ?_
                    refine Z.ZO.call rfl rfl (by rfl) rfl rfl Try.call18 rfl (num_any _ _) ?_
                    rintro v10_27 w10_27 ⟨rfl, hy⟩
                    replace hs := hs.call hy
                    clear hy
                    try simp only [List.cons_append, List.nil_append, List.append_nil] at hs
                    refine Z.lb 1 rfl ?_
                    refine Z.yes (s := 82) (b := true) rfl rfl rfl ?_
                    refine Z.l rfl rfl (by rfl) (Z.keepS hs) (Z.Yd.pickT rfl rfl) ?_
                    refine Z.lb 1 rfl ?_
                    refine Z.yes (s := 88) (b := true) rfl ((by decide)) rfl ?_
                    refine Z.lb 1 rfl ?_
                    refine Z.yes (s := 88) (b := true) rfl rfl rfl ?_
                    refine Z.le rfl (by exact ⟨rfl, trivial⟩) ?_
                    refine Z.ZO.call rfl rfl (by rfl) rfl rfl Try.call12 rfl (nil_Len _) ?_
                    rintro v10_32 w10_32 ⟨rfl, hy⟩
                    replace hs := hs.call hy
                    clear hy
                    try simp only [List.cons_append, List.nil_append, List.append_nil] at hs
                    refine Z.lb 1 rfl ?_
                    refine Z.yes (s := 88) (b := true) rfl rfl rfl ?_
                    refine Z.l rfl rfl (by rfl) (Z.keepS hs) (Z.Yd.pickT rfl rfl) ?_
                    refine Z.lb 1 rfl ?_
                    refine Z.yes (s := 93) (b := true) rfl ((by decide)) rfl ?_
                    refine Z.lb 1 rfl ?_
                    refine Z.yes (s := 93) (b := true) rfl rfl rfl ?_
                    refine Z.le rfl (by exact ⟨rfl, trivial⟩) ?_
                    refine Z.ZO.call rfl rfl (by rfl) rfl rfl Try.call14 rfl (nil_Bytes _) ?_
                    rintro v10_37 w10_37 ⟨rfl, hy⟩
                    replace hs := hs.call hy
                    clear hy
                    try simp only [List.cons_append, List.nil_append, List.append_nil] at hs
                    refine Z.l rfl rfl (by rfl) (Z.keepS hs) (Z.Yd.lenS rfl Try.underlying25) ?_
                    refine Z.lb 1 rfl ?_
                    refine Z.yes (s := 93) (b := true) rfl rfl rfl ?_
                    refine Z.l rfl rfl (by rfl) (Z.keepS hs) (Z.Yd.pickT rfl rfl) ?_
                    refine Z.lb 1 rfl ?_
                    refine Z.yes (s := 99) (b := true) rfl ((by decide)) rfl ?_
                    refine Z.lb 1 rfl ?_
                    refine Z.yes (s := 99) (b := true) rfl rfl rfl ?_
                    refine Z.le rfl (by exact ⟨rfl, trivial⟩) ?_
                    refine Z.ZO.call rfl rfl (by rfl) rfl rfl Try.call18 rfl (num_any _ _) ?_
                    rintro v10_43 w10_43 ⟨rfl, hy⟩
                    replace hs := hs.call hy
                    clear hy
                    try simp only [List.cons_append, List.nil_append, List.append_nil] at hs
                    refine Z.lb 1 rfl ?_
                    refine Z.yes (s := 99) (b := true) rfl rfl rfl ?_
                    refine Z.l rfl rfl (by rfl) (Z.keepS hs) (Z.Yd.pickT rfl rfl) ?_
                    refine Z.lb 1 rfl ?_
                    refine Z.yes (s := 104) (b := true) rfl ((by decide)) rfl ?_
                    refine Z.lb 1 rfl ?_
                    refine Z.yes (s := 104) (b := true) rfl rfl rfl ?_
                    refine Z.le rfl (by exact ⟨rfl, trivial⟩) ?_
                    refine Z.ZO.call rfl rfl (by rfl) rfl rfl Try.call18 rfl (num_any _ _) ?_
                    rintro v10_48 w10_48 ⟨rfl, hy⟩
                    replace hs := hs.call hy
                    clear hy
                    try simp only [List.cons_append, List.nil_append, List.append_nil] at hs
                    refine Z.lb 1 rfl ?_
                    refine Z.yes (s := 104) (b := true) rfl rfl rfl ?_
                    refine Z.l rfl rfl (by rfl) (Z.keepS hs) (Z.Yd.pickT rfl rfl) ?_
                    refine Z.lb 1 rfl ?_
                    refine Z.yes (s := 109) (b := true) rfl ((by decide)) rfl ?_
                    refine Z.lb 1 rfl ?_
                    refine Z.yes (s := 109) (b := true) rfl rfl rfl ?_
                    refine Z.le rfl (by exact ⟨rfl, trivial⟩) ?_
                    refine Z.ZO.call rfl rfl (by rfl) rfl rfl Try.call18 rfl (num_any _ _) ?_
                    rintro v10_53 w10_53 ⟨rfl, hy⟩
                    replace hs := hs.call hy
                    clear hy
                    try simp only [List.cons_append, List.nil_append, List.append_nil] at hs
                    refine Z.lb 1 rfl ?_
                    refine Z.yes (s := 109) (b := true) rfl rfl rfl ?_
                    refine Z.l rfl rfl (by rfl) (Z.keepS hs) (Z.Yd.pickT rfl rfl) ?_
                    refine Z.lb 1 rfl ?_
                    refine Z.yes (s := 114) (b := true) rfl ((by decide)) rfl ?_
                    refine Z.lb 1 rfl ?_
                    refine Z.l rfl rfl (by rfl) (Z.keepS hs) (Z.Yd.lenS rfl Try.underlying25) ?_
                    refine Z.lb 1 rfl ?_
                    refine Z.l rfl rfl (by rfl) (Z.keepS hs) (Z.Yd.lenS rfl Try.underlying53) ?_
                    refine Z.l rfl rfl (by rfl) (Z.keepS hs) (Z.Yd.add rfl rfl (fun hG => Z.wi64 (by first | omega | (have hG' := Z.gh rfl hG; simp at hG'; omega)))) ?_
                    refine Z.lb 1 rfl ?_
                    refine Z.yes (s := 114) (b := true) rfl rfl rfl ?_
                    refine Z.l rfl rfl (by rfl) (Z.keepS hs) (Z.Yd.pickT rfl rfl) ?_
                    refine Z.lb 1 rfl ?_
                    refine Z.yes (s := 122) (b := true) rfl ((by decide)) rfl ?_
                    refine Z.lb 1 rfl ?_
                    refine Z.yes (s := 122) (b := true) rfl rfl rfl ?_
                    refine Z.le rfl (by exact ⟨rfl, trivial⟩) ?_
                    refine Z.ZO.call rfl rfl (by rfl) rfl rfl Try.call28 rfl (nil_RAlign _) ?_
                    rintro v10_66 w10_66 ⟨rfl, hy⟩
                    replace hs := hs.call hy
                    clear hy
                    try simp only [List.cons_append, List.nil_append, List.append_nil] at hs
                    refine Z.le rfl (by exact ⟨rfl, trivial⟩) ?_
                    refine Z.ZO.call rfl rfl (by rfl) rfl rfl Try.call18 rfl (num_any _ _) ?_
                    rintro v10_67 w10_67 ⟨rfl, hy⟩
                    replace hs := hs.call hy
                    clear hy
                    try simp only [List.cons_append, List.nil_append, List.append_nil] at hs
                    refine Z.lb 1 rfl ?_
                    refine Z.yes (s := 122) (b := true) rfl rfl rfl ?_
                    refine Z.l rfl rfl (by rfl) (Z.keepS hs) (Z.Yd.pickT rfl rfl) ?_
                    refine Z.lb 1 rfl ?_
                    refine Z.yes (s := 128) (b := true) rfl ((by decide)) rfl ?_
                    refine Z.lb 1 rfl ?_
                    refine Z.yes (s := 128) (b := true) rfl rfl rfl ?_
                    refine Z.le rfl (by exact ⟨rfl, trivial⟩) ?_
                    refine Z.ZO.call rfl rfl (by rfl) rfl rfl Try.call23 rfl (nil_At _) ?_
                    rintro v10_72 w10_72 ⟨rfl, hy⟩
                    replace hs := hs.call hy
                    clear hy
                    try simp only [List.cons_append, List.nil_append, List.append_nil] at hs
                    refine Z.lb 1 rfl ?_
                    refine Z.yes (s := 128) (b := true) rfl rfl rfl ?_
                    refine Z.le rfl (by exact ⟨rfl, trivial⟩) ?_
                    refine Z.ZO.call rfl rfl (by rfl) rfl rfl Try.call24 rfl (nil_Left _) ?_
                    rintro v10_74 w10_74 ⟨rfl, hy⟩
                    replace hs := hs.call hy
                    clear hy
                    try simp only [List.cons_append, List.nil_append, List.append_nil] at hs
                    refine Z.l rfl rfl (by rfl) (Z.keepS hs) (Z.Yd.add rfl rfl (fun hG => Z.wi64 (by first | omega | (have hG' := Z.gh rfl hG; simp at hG'; omega)))) ?_
                    refine Z.lb 1 rfl ?_
                    refine Z.yes (s := 128) (b := true) rfl rfl rfl ?_
                    refine Z.l rfl rfl (by rfl) (Z.keepS hs) (Z.Yd.pickT rfl rfl) ?_
                    refine Z.lb 1 rfl ?_
                    refine Z.yes (s := 136) (b := true) rfl ((by decide)) rfl ?_
                    refine Z.lb 1 rfl ?_
                    refine Z.yes (s := 136) (b := true) rfl rfl rfl ?_
                    refine Z.le rfl (by exact ⟨rfl, trivial⟩) ?_
                    refine Z.ZO.call rfl rfl (by rfl) rfl rfl Try.call27 rfl (nil_End _) ?_
                    rintro v10_80 w10_80 ⟨rfl, hy⟩
                    replace hs := hs.call hy
                    clear hy
                    try simp only [List.cons_append, List.nil_append, List.append_nil] at hs
                    refine Z.le rfl (by exact ⟨rfl, trivial⟩) ?_
                    refine Z.ZO.call rfl rfl (by rfl) rfl rfl Try.call18 rfl (num_any _ _) ?_
                    rintro v10_81 w10_81 ⟨rfl, hy⟩
                    replace hs := hs.call hy
                    clear hy
                    try simp only [List.cons_append, List.nil_append, List.append_nil] at hs
                    refine Z.lb 1 rfl ?_
                    refine Z.yes (s := 136) (b := true) rfl rfl rfl ?_
                    refine Z.l rfl rfl (by rfl) (Z.keepS hs) (Z.Yd.pickT rfl rfl) ?_
                    refine Z.lb 1 rfl ?_
                    refine Z.yes (s := 142) (b := true) rfl ((by decide)) rfl ?_
                    refine Z.lb 2 rfl ?_
                    refine Z.yes (s := 142) (b := true) rfl rfl rfl ?_
                    refine Z.l rfl rfl (by rfl) (Z.keepS hs) (Z.Yd.pickT rfl rfl) ?_
                    refine Z.lb 1 rfl ?_
                    refine Z.yes (s := 146) (b := true) rfl ((by decide)) rfl ?_
                    refine Z.le rfl (by exact ⟨rfl, trivial⟩) ?_
                    refine Z.ZO.call rfl rfl (by rfl) rfl rfl Try.call24 rfl (rleft_any g7 _ _ [] 0 _ (hs.lend (L1 := RdL _ _ _ _ _)) (by decide) (by decide)) ?_
                    rintro v10_89 w10_89 ⟨hv, hz⟩
                    replace hs := hs.regain (L1 := RdL _ _ _ _ _) hz
                    rw [show (8 * (([] : List Int).length : Int)) - ((0 : Nat) : Int) = 0 from by decide] at hv
                    subst hv
                    refine Z.lb 1 rfl ?_
                    refine Z.yes (s := 146) (b := true) rfl rfl rfl ?_
                    refine Z.l rfl rfl (by rfl) (Z.keepS hs) (Z.Yd.pickT rfl rfl) ?_
                    refine Z.lb 1 rfl ?_
                    refine Z.yes (s := 150) (b := true) rfl ((by decide)) rfl ?_
                    refine Z.le rfl (by exact ⟨rfl, trivial⟩) ?_
                    refine Z.ZO.call rfl rfl (by rfl) rfl rfl Try.call27 rfl (rend_any g7 _ _ [] 0 _ (hs.lend (L1 := RdL _ _ _ _ _)) (by decide) (by decide) (by simp)) ?_
                    rintro v10_93 w10_93 ⟨hv, hz⟩
                    replace hs := hs.regain (L1 := RdL _ _ _ _ _) hz
                    rw [show endE [] 0 = 0 from by decide] at hv
                    subst hv
                    refine Z.lb 1 rfl ?_
                    refine Z.yes (s := 150) (b := true) rfl rfl rfl ?_
                    refine Z.l rfl rfl (by rfl) (Z.keepS hs) (Z.Yd.pickT rfl rfl) ?_
                    refine Z.lb 1 rfl ?_
                    refine Z.yes (s := 154) (b := true) rfl ((by decide)) rfl ?_
                    refine Z.le rfl (by exact ⟨rfl, trivial⟩) ?_
                    refine Z.ZO.call rfl rfl (by rfl) rfl rfl Try.call10 rfl (works_any _) ?_
                    rintro v10_97 w10_97 ⟨rfl, hy⟩
                    replace hs := hs.call hy
                    clear hy
                    try simp only [List.cons_append, List.nil_append, List.append_nil] at hs
                    refine Z.l rfl rfl (by rfl) (Z.keepS hs) (Z.Yd.pickT rfl rfl) ?_
                    refine Z.lb 1 rfl ?_
                    refine Z.lnil ?_
                    refine Z.only [4] rfl ?_
                    refine Z.nthen ?_
                    refine Z.ret ?_
                    -- ret#1
                    refine Z.out1 (by exact ⟨rfl, trivial⟩) ?_
                    first | exact ⟨_, rfl, rfl, hs⟩ | exact ⟨_, rfl, rfl, hs.sub (List.nil_sublist _)⟩
                    )
              )
        · first
            | (exfalso; simp at hsp26 <;> omega)
            | (
              refine Z.yes (s := 26) (b := false) rfl hsp26 rfl ?_
              (try simp at hsp26)
              refine Z.l rfl rfl (by rfl) (Z.keepS hs) (Z.Yd.fieldA (m := 2) rfl (by kernel_rfl)) ?_
              refine Z.l rfl rfl (by rfl) (Z.keepS hs) (by first | exact Z.Yd.load rfl Try.isAgg48 (fun _ => Z.cellB (by first | ((repeat (first | exact List.mem_cons_self | refine List.mem_cons_of_mem _ ?_ | refine List.mem_append_right _ ?_)); done) | fail) rfl) | exact Z.Yd.load rfl Try.isAgg48 (fun _ => Z.cellO (by assumption) (by simp) (by assumption)) | fail "load 1.12") ?_
              refine Z.l rfl rfl (by rfl) (Z.keepS hs) (Z.Yd.lenS rfl Try.underlying48) ?_
              refine Z.lb 1 rfl ?_
              refine Z.yes (s := 26) (b := false) rfl rfl rfl ?_
              refine Z.l rfl rfl (by rfl) (Z.keepS hs) (Z.Yd.pickF rfl rfl) ?_
              refine Z.lnil ?_
              refine Z.only [2, 3, 31] rfl ?_
              refine Z.nthen ?_
              refine Z.cond rfl (fun hc1 => ?_) (fun hc1 => ?_)
              · first
                  | (exfalso; simp at hc1 <;> omega)
                  | (
                    (try simp at hc1)
                    refine Z.seq ?_
                    refine Z.region ?_
                    refine Z.le rfl trivial ?_
                    refine Z.ZO.call rfl rfl (by rfl) rfl rfl Try.call10 rfl (works_any _) ?_
                    rintro v2_0 w2_0 ⟨rfl, hy⟩
                    replace hs := hs.call hy
                    clear hy
                    try simp only [List.cons_append, List.nil_append, List.append_nil] at hs
                    refine Z.lb 1 rfl ?_
                    refine Z.lnil ?_
                    refine Z.only [4] rfl ?_
                    refine Z.nthen ?_
                    refine Z.ret ?_
                    repeat (first | refine Z.rthen ?_ | refine Z.rblock ?_ | refine Z.rscope ?_)
                    -- ret#2
                    refine Z.out1 (by exact ⟨rfl, trivial⟩) ?_
                    first | exact ⟨_, rfl, rfl, hs⟩ | exact ⟨_, rfl, rfl, hs.sub (List.nil_sublist _)⟩
                    )
              · first
                  | (exfalso; simp at hc1 <;> omega)
                  | (
                    (try simp at hc1)
                    refine Z.skip ?_
                    refine Z.nthen ?_
                    refine Z.seq ?_
                    refine Z.region ?_
                    refine Z.lb 1 rfl ?_
                    refine Z.lnil ?_
                    refine Z.only [2, 3, 5] rfl ?_
                    refine Z.nthen ?_
                    refine Z.seq ?_
                    refine Z.region ?_
                    refine Z.lb 1 rfl ?_
                    refine Z.lnil ?_
                    refine Z.only [2, 3, 5, 6] rfl ?_
                    refine Z.nthen ?_
                    refine Z.seq ?_
                    refine Z.region ?_
                    refine Z.le rfl trivial ?_
                    refine Z.ZO.alloc rfl rfl (by rfl) Try.zeroValue73 rfl hs ?_
                    clear hs; intro g7 w7 hs
                    refine Z.lnil ?_
                    refine Z.only [2, 3, 5, 6, 7] rfl ?_
                    refine Z.nthen ?_
                    refine Z.seq ?_
                    refine Z.region ?_
                    refine Z.lb 1 rfl ?_
                    refine Z.l rfl rfl (by rfl) (Z.keepS hs) (Z.Yd.fieldA (m := 1) rfl (by kernel_rfl)) ?_
                    refine Z.l rfl rfl (by rfl) (Z.keepS hs) (by first | exact Z.Yd.load rfl Try.isAgg3 (fun _ => Z.cellB (by first | ((repeat (first | exact List.mem_cons_self | refine List.mem_cons_of_mem _ ?_ | refine List.mem_append_right _ ?_)); done) | fail) rfl) | exact Z.Yd.load rfl Try.isAgg3 (fun _ => Z.cellO (by assumption) (by simp) (by assumption)) | fail "load 6.2") ?_
                    refine Z.le rfl trivial ?_
                    refine Z.ZO.call rfl rfl (by rfl) rfl rfl Try.call25 rfl (nil_Get _ _) ?_
                    rintro v6_3 w6_3 ⟨rfl, hy⟩
                    replace hs := hs.call hy
                    clear hy
                    try simp only [List.cons_append, List.nil_append, List.append_nil] at hs
                    refine Z.lb 5 rfl ?_
                    refine Z.lnil ?_
                    refine Z.only [2, 3, 5, 6, 7, 9] rfl ?_
                    refine Z.nthen ?_
                    refine Z.seq ?_
                    refine Z.region ?_
                    refine Z.lb 1 rfl ?_
                    refine Z.l rfl rfl (by rfl) (Z.keepS hs) (Z.Yd.fieldA (m := 1) rfl (by kernel_rfl)) ?_
                    refine Z.l rfl rfl (by rfl) (Z.keepS hs) (by first | exact Z.Yd.load rfl Try.isAgg3 (fun _ => Z.cellB (by first | ((repeat (first | exact List.mem_cons_self | refine List.mem_cons_of_mem _ ?_ | refine List.mem_append_right _ ?_)); done) | fail) rfl) | exact Z.Yd.load rfl Try.isAgg3 (fun _ => Z.cellO (by assumption) (by simp) (by assumption)) | fail "load 7.2") ?_
                    refine Z.le rfl trivial ?_
                    refine Z.ZO.call rfl rfl (by rfl) rfl rfl Try.call26 rfl (nil_GetBytes _ _) ?_
                    rintro v7_3 w7_3 ⟨rfl, hy⟩
                    replace hs := hs.call hy
                    clear hy
                    try simp only [List.cons_append, List.nil_append, List.append_nil] at hs
                    refine Z.lb 5 rfl ?_
                    refine Z.lnil ?_
                    refine Z.only [2, 3, 5, 6, 7, 9, 10, 11] rfl ?_
                    refine Z.nthen ?_
                    refine Z.seq ?_
                    refine Z.region ?_
                    refine Z.lb 1 rfl ?_
                    refine Z.l rfl rfl (by rfl) (Z.keepS hs) (Z.Yd.fieldA (m := 2) rfl (by kernel_rfl)) ?_
                    refine Z.l rfl rfl (by rfl) (Z.keepS hs) (by first | exact Z.Yd.load rfl Try.isAgg48 (fun _ => Z.cellB (by first | ((repeat (first | exact List.mem_cons_self | refine List.mem_cons_of_mem _ ?_ | refine List.mem_append_right _ ?_)); done) | fail) rfl) | exact Z.Yd.load rfl Try.isAgg48 (fun _ => Z.cellO (by assumption) (by simp) (by assumption)) | fail "load 8.2") ?_
                    refine Z.le rfl trivial ?_
                    refine Z.ZO.call rfl rfl (by rfl) rfl rfl Try.call22 rfl (nil_GetAll _ _ _ _) ?_
                    rintro v8_3 w8_3 ⟨rfl, hy⟩
                    replace hs := hs.call hy
                    clear hy
                    try simp only [List.cons_append, List.nil_append, List.append_nil] at hs
                    refine Z.lb 5 rfl ?_
                    refine Z.lnil ?_
                    refine Z.only [2, 5, 6, 7, 9, 10, 11, 12, 13] rfl ?_
                    refine Z.nthen ?_
                    refine Z.seq ?_
                    refine Z.region ?_
                    replace hs := (hs.nil 5 1)
                    replace hs : SX.St w [] _ (RdL g7 73 (.slice none 0 0) [] 0 ++ [SX.Ent.blk g3 68 #[.int .i64 what2, .int .i64 n2, .slice lA ll.length lc], SX.Ent.blk g2 36 #[.int .i64 what, .int .u64 v, .int .i64 n, .slice bA bl.length bc, .slice fA fl.length fc]]) := hs.sel [1, 0, 2, 3] (by decide)
                    refine Z.le rfl trivial ?_
                    refine Z.ZO.call rfl rfl (by rfl) rfl rfl Try.call25 rfl (rget_any g7 _ _ [] 0 1 _ (hs.lend (L1 := RdL _ _ _ _ _)) (by decide) (by decide) (by simp)) ?_
                    rintro v9_0 w9_0 ⟨hv, hz⟩
                    replace hs := hs.regain (L1 := RdL _ _ _ _ _) hz
                    rw [show getV [] 0 1 = 0 from by decide, show getE [] 0 1 = 5 from by decide] at hv
                    subst hv
                    rw [show getA [] 0 1 = 0 from by decide] at hs
                    refine Z.lb 5 rfl ?_
                    refine Z.lnil ?_
                    refine Z.only [2, 5, 6, 7, 9, 10, 11, 12, 13, 15] rfl ?_
                    refine Z.nthen ?_
                    refine Z.seq ?_
                    refine Z.region ?_
                    refine Z.lb 1 rfl ?_
                    refine Z.l rfl rfl (by rfl) (Z.keepS hs) (Z.Yd.fieldA (m := 1) rfl (by kernel_rfl)) ?_
                    refine Z.l rfl rfl (by rfl) (Z.keepS hs) (by first | exact Z.Yd.load rfl Try.isAgg33 (fun _ => Z.cellB (by first | ((repeat (first | exact List.mem_cons_self | refine List.mem_cons_of_mem _ ?_ | refine List.mem_append_right _ ?_)); done) | fail) rfl) | exact Z.Yd.load rfl Try.isAgg33 (fun _ => Z.cellO (by assumption) (by simp) (by assumption)) | fail "load 10.2") ?_
                    refine Z.l rfl rfl (by rfl) (Z.keepS hs) (Z.Yd.fieldA (m := 2) rfl (by kernel_rfl)) ?_
                    refine Z.l rfl rfl (by rfl) (Z.keepS hs) (by first | exact Z.Yd.load rfl Try.isAgg3 (fun _ => Z.cellB (by first | ((repeat (first | exact List.mem_cons_self | refine List.mem_cons_of_mem _ ?_ | refine List.mem_append_right _ ?_)); done) | fail) rfl) | exact Z.Yd.load rfl Try.isAgg3 (fun _ => Z.cellO (by assumption) (by simp) (by assumption)) | fail "load 10.4") ?_
                    refine Z.le rfl trivial ?_
                    refine Z.ZO.call rfl rfl (by rfl) rfl rfl Try.call32 rfl (nil_Put _ _ _) ?_
                    rintro v10_5 w10_5 ⟨rfl, hy⟩
                    replace hs := hs.call hy
                    clear hy
                    try simp only [List.cons_append, List.nil_append, List.append_nil] at hs
                    refine Z.le rfl trivial ?_
                    refine Z.ZO.call rfl rfl (by rfl) rfl rfl Try.call18 rfl (num_any _ _) ?_
                    rintro v10_6 w10_6 ⟨rfl, hy⟩
                    replace hs := hs.call hy
                    clear hy
                    try simp only [List.cons_append, List.nil_append, List.append_nil] at hs
                    refine Z.lb 2 rfl ?_
                    refine Z.yes (s := 66) (b := true) rfl ((by decide)) rfl ?_
                    refine Z.lb 1 rfl ?_
                    refine Z.l rfl rfl (by rfl) (Z.keepS hs) (Z.Yd.fieldA (m := 3) rfl (by kernel_rfl)) ?_
                    refine Z.l rfl rfl (by rfl) (Z.keepS hs) (by first | exact Z.Yd.load rfl Try.isAgg25 (fun _ => Z.cellB (by first | ((repeat (first | exact List.mem_cons_self | refine List.mem_cons_of_mem _ ?_ | refine List.mem_append_right _ ?_)); done) | fail) rfl) | exact Z.Yd.load rfl Try.isAgg25 (fun _ => Z.cellO (by assumption) (by simp) (by assumption)) | fail "load 10.11") ?_
                    refine Z.yes (s := 66) (b := true) rfl rfl rfl ?_
                    refine Z.le rfl (by exact ⟨rfl, trivial⟩) ?_
                    refine Z.ZO.call rfl rfl (by rfl) rfl rfl Try.call16 rfl (nil_PutBytes _ _ _ _) ?_
                    rintro v10_12 w10_12 ⟨rfl, hy⟩
                    replace hs := hs.call hy
                    clear hy
                    try simp only [List.cons_append, List.nil_append, List.append_nil] at hs
                    refine Z.le rfl (by exact ⟨rfl, trivial⟩) ?_
                    refine Z.ZO.call rfl rfl (by rfl) rfl rfl Try.call18 rfl (num_any _ _) ?_
                    rintro v10_13 w10_13 ⟨rfl, hy⟩
                    replace hs := hs.call hy
                    clear hy
                    try simp only [List.cons_append, List.nil_append, List.append_nil] at hs
                    refine Z.lb 1 rfl ?_
                    refine Z.yes (s := 66) (b := true) rfl rfl rfl ?_
                    refine Z.l rfl rfl (by rfl) (Z.keepS hs) (Z.Yd.pickT rfl rfl) ?_
                    refine Z.lb 1 rfl ?_
                    refine Z.yes (s := 74) (b := true) rfl ((by decide)) rfl ?_
                    refine Z.lb 1 rfl ?_
                    refine Z.l rfl rfl (by rfl) (Z.keepS hs) (Z.Yd.fieldA (m := 4) rfl (by kernel_rfl)) ?_
                    refine Z.l rfl rfl (by rfl) (Z.keepS hs) (by first | exact Z.Yd.load rfl Try.isAgg34 (fun _ => Z.cellB (by first | ((repeat (first | exact List.mem_cons_self | refine List.mem_cons_of_mem _ ?_ | refine List.mem_append_right _ ?_)); done) | fail) rfl) | exact Z.Yd.load rfl Try.isAgg34 (fun _ => Z.cellO (by assumption) (by simp) (by assumption)) | fail "load 10.19") ?_
                    refine Z.yes (s := 74) (b := true) rfl rfl rfl ?_
                    refine Z.le rfl (by exact ⟨rfl, trivial⟩) ?_
                    refine Z.ZO.call rfl rfl (by rfl) rfl rfl Try.call20 rfl (nil_PutAll _ _ _ _) ?_
                    rintro v10_20 w10_20 ⟨rfl, hy⟩
                    replace hs := hs.call hy
                    clear hy
                    try simp only [List.cons_append, List.nil_append, List.append_nil] at hs
                    refine Z.le rfl (by exact ⟨rfl, trivial⟩) ?_
                    refine Z.ZO.call rfl rfl (by rfl) rfl rfl Try.call18 rfl (num_any _ _) ?_
                    rintro v10_21 w10_21 ⟨rfl, hy⟩
                    replace hs := hs.call hy
                    clear hy
                    try simp only [List.cons_append, List.nil_append, List.append_nil] at hs
                    refine Z.lb 1 rfl ?_
                    refine Z.yes (s := 74) (b := true) rfl rfl rfl ?_
                    refine Z.l rfl rfl (by rfl) (Z.keepS hs) (Z.Yd.pickT rfl rfl) ?_
                    refine Z.lb 1 rfl ?_
                    refine Z.yes (s := 82) (b := true) rfl ((by decide)) rfl ?_
                    refine Z.lb 1 rfl ?_
                    refine Z.yes (s := 82) (b := true) rfl rfl rfl ?_
                    refine Z.le rfl (by exact ⟨rfl, trivial⟩) ?_
                    refine Z.ZO.call rfl rfl (by rfl) rfl rfl Try.call33 rfl (nil_Align _) ?_
                    rintro v10_26 w10_26 ⟨rfl, hy⟩
                    replace hs := hs.call hy
                    clear hy
                    try simp only [List.cons_append, List.nil_append, List.append_nil] at hs
                    refine Z.le rfl (by exact ⟨rfl, trivial⟩) ?_
                    refine Z.ZO.call rfl rfl (by rfl) rfl rfl Try.call18 rfl (num_any _ _) ?_
                    rintro v10_27 w10_27 ⟨rfl, hy⟩
                    replace hs := hs.call hy
                    clear hy
                    try simp only [List.cons_append, List.nil_append, List.append_nil] at hs
                    refine Z.lb 1 rfl ?_
                    refine Z.yes (s := 82) (b := true) rfl rfl rfl ?_
                    refine Z.l rfl rfl (by rfl) (Z.keepS hs) (Z.Yd.pickT rfl rfl) ?_
                    refine Z.lb 1 rfl ?_
                    refine Z.yes (s := 88) (b := true) rfl ((by decide)) rfl ?_
                    refine Z.lb 1 rfl ?_
                    refine Z.yes (s := 88) (b := true) rfl rfl rfl ?_
                    refine Z.le rfl (by exact ⟨rfl, trivial⟩) ?_
                    refine Z.ZO.call rfl rfl (by rfl) rfl rfl Try.call12 rfl (nil_Len _) ?_
                    rintro v10_32 w10_32 ⟨rfl, hy⟩
                    replace hs := hs.call hy
                    clear hy
                    try simp only [List.cons_append, List.nil_append, List.append_nil] at hs
                    refine Z.lb 1 rfl ?_
                    refine Z.yes (s := 88) (b := true) rfl rfl rfl ?_
                    refine Z.l rfl rfl (by rfl) (Z.keepS hs) (Z.Yd.pickT rfl rfl) ?_
                    refine Z.lb 1 rfl ?_
                    refine Z.yes (s := 93) (b := true) rfl ((by decide)) rfl ?_
                    refine Z.lb 1 rfl ?_
                    refine Z.yes (s := 93) (b := true) rfl rfl rfl ?_
                    refine Z.le rfl (by exact ⟨rfl, trivial⟩) ?_
                    refine Z.ZO.call rfl rfl (by rfl) rfl rfl Try.call14 rfl (nil_Bytes _) ?_
                    rintro v10_37 w10_37 ⟨rfl, hy⟩
                    replace hs := hs.call hy
                    clear hy
                    try simp only [List.cons_append, List.nil_append, List.append_nil] at hs
                    refine Z.l rfl rfl (by rfl) (Z.keepS hs) (Z.Yd.lenS rfl Try.underlying25) ?_
                    refine Z.lb 1 rfl ?_
                    refine Z.yes (s := 93) (b := true) rfl rfl rfl ?_
                    refine Z.l rfl rfl (by rfl) (Z.keepS hs) (Z.Yd.pickT rfl rfl) ?_
                    refine Z.lb 1 rfl ?_
                    refine Z.yes (s := 99) (b := true) rfl ((by decide)) rfl ?_
                    refine Z.lb 1 rfl ?_
                    refine Z.yes (s := 99) (b := true) rfl rfl rfl ?_
                    refine Z.le rfl (by exact ⟨rfl, trivial⟩) ?_
                    refine Z.ZO.call rfl rfl (by rfl) rfl rfl Try.call18 rfl (num_any _ _) ?_
                    rintro v10_43 w10_43 ⟨rfl, hy⟩
                    replace hs := hs.call hy
                    clear hy
                    try simp only [List.cons_append, List.nil_append, List.append_nil] at hs
                    refine Z.lb 1 rfl ?_
                    refine Z.yes (s := 99) (b := true) rfl rfl rfl ?_
                    refine Z.l rfl rfl (by rfl) (Z.keepS hs) (Z.Yd.pickT rfl rfl) ?_
                    refine Z.lb 1 rfl ?_
                    refine Z.yes (s := 104) (b := true) rfl ((by decide)) rfl ?_
                    refine Z.lb 1 rfl ?_
                    refine Z.yes (s := 104) (b := true) rfl rfl rfl ?_
                    refine Z.le rfl (by exact ⟨rfl, trivial⟩) ?_
                    refine Z.ZO.call rfl rfl (by rfl) rfl rfl Try.call18 rfl (num_any _ _) ?_
                    rintro v10_48 w10_48 ⟨rfl, hy⟩
                    replace hs := hs.call hy
                    clear hy
                    try simp only [List.cons_append, List.nil_append, List.append_nil] at hs
                    refine Z.lb 1 rfl ?_
                    refine Z.yes (s := 104) (b := true) rfl rfl rfl ?_
                    refine Z.l rfl rfl (by rfl) (Z.keepS hs) (Z.Yd.pickT rfl rfl) ?_
                    refine Z.lb 1 rfl ?_
                    refine Z.yes (s := 109) (b := true) rfl ((by decide)) rfl ?_
                    refine Z.lb 1 rfl ?_
                    refine Z.yes (s := 109) (b := true) rfl rfl rfl ?_
                    refine Z.le rfl (by exact ⟨rfl, trivial⟩) ?_
                    refine Z.ZO.call rfl rfl (by rfl) rfl rfl Try.call18 rfl (num_any _ _) ?_
                    rintro v10_53 w10_53 ⟨rfl, hy⟩
                    replace hs := hs.call hy
                    clear hy
                    try simp only [List.cons_append, List.nil_append, List.append_nil] at hs
                    refine Z.lb 1 rfl ?_
                    refine Z.yes (s := 109) (b := true) rfl rfl rfl ?_
                    refine Z.l rfl rfl (by rfl) (Z.keepS hs) (Z.Yd.pickT rfl rfl) ?_
                    refine Z.lb 1 rfl ?_
                    refine Z.yes (s := 114) (b := true) rfl ((by decide)) rfl ?_
                    refine Z.lb 1 rfl ?_
                    refine Z.l rfl rfl (by rfl) (Z.keepS hs) (Z.Yd.lenS rfl Try.underlying25) ?_
                    refine Z.lb 1 rfl ?_
                    refine Z.l rfl rfl (by rfl) (Z.keepS hs) (Z.Yd.lenS rfl Try.underlying53) ?_
                    refine Z.l rfl rfl (by rfl) (Z.keepS hs) (Z.Yd.add rfl rfl (fun hG => Z.wi64 (by first | omega | (have hG' := Z.gh rfl hG; simp at hG'; omega)))) ?_
                    refine Z.lb 1 rfl ?_
                    refine Z.yes (s := 114) (b := true) rfl rfl rfl ?_
                    refine Z.l rfl rfl (by rfl) (Z.keepS hs) (Z.Yd.pickT rfl rfl) ?_
                    refine Z.lb 1 rfl ?_
                    refine Z.yes (s := 122) (b := true) rfl ((by decide)) rfl ?_
                    refine Z.lb 1 rfl ?_
                    refine Z.yes (s := 122) (b := true) rfl rfl rfl ?_
                    refine Z.le rfl (by exact ⟨rfl, trivial⟩) ?_
                    refine Z.ZO.call rfl rfl (by rfl) rfl rfl Try.call28 rfl (nil_RAlign _) ?_
                    rintro v10_66 w10_66 ⟨rfl, hy⟩
                    replace hs := hs.call hy
                    clear hy
                    try simp only [List.cons_append, List.nil_append, List.append_nil] at hs
                    refine Z.le rfl (by exact ⟨rfl, trivial⟩) ?_
                    refine Z.ZO.call rfl rfl (by rfl) rfl rfl Try.call18 rfl (num_any _ _) ?_
                    rintro v10_67 w10_67 ⟨rfl, hy⟩
                    replace hs := hs.call hy
                    clear hy
                    try simp only [List.cons_append, List.nil_append, List.append_nil] at hs
                    refine Z.lb 1 rfl ?_
                    refine Z.yes (s := 122) (b := true) rfl rfl rfl ?_
                    refine Z.l rfl rfl (by rfl) (Z.keepS hs) (Z.Yd.pickT rfl rfl) ?_
                    refine Z.lb 1 rfl ?_
                    refine Z.yes (s := 128) (b := true) rfl ((by decide)) rfl ?_
                    refine Z.lb 1 rfl ?_
                    refine Z.yes (s := 128) (b := true) rfl rfl rfl ?_
                    refine Z.le rfl (by exact ⟨rfl, trivial⟩) ?_
                    refine Z.ZO.call rfl rfl (by rfl) rfl rfl Try.call23 rfl (nil_At _) ?_
                    rintro v10_72 w10_72 ⟨rfl, hy⟩
                    replace hs := hs.call hy
                    clear hy
                    try simp only [List.cons_append, List.nil_append, List.append_nil] at hs
                    refine Z.lb 1 rfl ?_
                    refine Z.yes (s := 128) (b := true) rfl rfl rfl ?_
                    refine Z.le rfl (by exact ⟨rfl, trivial⟩) ?_
                    refine Z.ZO.call rfl rfl (by rfl) rfl rfl Try.call24 rfl (nil_Left _) ?_
                    rintro v10_74 w10_74 ⟨rfl, hy⟩
                    replace hs := hs.call hy
                    clear hy
                    try simp only [List.cons_append, List.nil_append, List.append_nil] at hs
                    refine Z.l rfl rfl (by rfl) (Z.keepS hs) (Z.Yd.add rfl rfl (fun hG => Z.wi64 (by first | omega | (have hG' := Z.gh rfl hG; simp at hG'; omega)))) ?_
                    refine Z.lb 1 rfl ?_
                    refine Z.yes (s := 128) (b := true) rfl rfl rfl ?_
                    refine Z.l rfl rfl (by rfl) (Z.keepS hs) (Z.Yd.pickT rfl rfl) ?_
                    refine Z.lb 1 rfl ?_
                    refine Z.yes (s := 136) (b := true) rfl ((by decide)) rfl ?_
                    refine Z.lb 1 rfl ?_
                    refine Z.yes (s := 136) (b := true) rfl rfl rfl ?_
                    refine Z.le rfl (by exact ⟨rfl, trivial⟩) ?_
                    refine Z.ZO.call rfl rfl (by rfl) rfl rfl Try.call27 rfl (nil_End _) ?_
                    rintro v10_80 w10_80 ⟨rfl, hy⟩
                    replace hs := hs.call hy
                    clear hy
                    try simp only [List.cons_append, List.nil_append, List.append_nil] at hs
                    refine Z.le rfl (by exact ⟨rfl, trivial⟩) ?_
                    refine Z.ZO.call rfl rfl (by rfl) rfl rfl Try.call18 rfl (num_any _ _) ?_
                    rintro v10_81 w10_81 ⟨rfl, hy⟩
                    replace hs := hs.call hy
                    clear hy
                    try simp only [List.cons_append, List.nil_append, List.append_nil] at hs
                    refine Z.lb 1 rfl ?_
                    refine Z.yes (s := 136) (b := true) rfl rfl rfl ?_
                    refine Z.l rfl rfl (by rfl) (Z.keepS hs) (Z.Yd.pickT rfl rfl) ?_
                    refine Z.lb 1 rfl ?_
                    refine Z.yes (s := 142) (b := true) rfl ((by decide)) rfl ?_
                    refine Z.lb 2 rfl ?_
                    refine Z.yes (s := 142) (b := true) rfl rfl rfl ?_
                    refine Z.l rfl rfl (by rfl) (Z.keepS hs) (Z.Yd.pickT rfl rfl) ?_
                    refine Z.lb 1 rfl ?_
                    refine Z.yes (s := 146) (b := true) rfl ((by decide)) rfl ?_
                    refine Z.le rfl (by exact ⟨rfl, trivial⟩) ?_
                    refine Z.ZO.call rfl rfl (by rfl) rfl rfl Try.call24 rfl (rleft_any g7 _ _ [] 0 _ (hs.lend (L1 := RdL _ _ _ _ _)) (by decide) (by decide)) ?_
                    rintro v10_89 w10_89 ⟨hv, hz⟩
                    replace hs := hs.regain (L1 := RdL _ _ _ _ _) hz
                    rw [show (8 * (([] : List Int).length : Int)) - ((0 : Nat) : Int) = 0 from by decide] at hv
                    subst hv
                    refine Z.lb 1 rfl ?_
                    refine Z.yes (s := 146) (b := true) rfl rfl rfl ?_
                    refine Z.l rfl rfl (by rfl) (Z.keepS hs) (Z.Yd.pickT rfl rfl) ?_
                    refine Z.lb 1 rfl ?_
                    refine Z.yes (s := 150) (b := true) rfl ((by decide)) rfl ?_
                    refine Z.le rfl (by exact ⟨rfl, trivial⟩) ?_
                    refine Z.ZO.call rfl rfl (by rfl) rfl rfl Try.call27 rfl (rend_any g7 _ _ [] 0 _ (hs.lend (L1 := RdL _ _ _ _ _)) (by decide) (by decide) (by simp)) ?_
                    rintro v10_93 w10_93 ⟨hv, hz⟩
                    replace hs := hs.regain (L1 := RdL _ _ _ _ _) hz
                    rw [show endE [] 0 = 0 from by decide] at hv
                    subst hv
                    refine Z.lb 1 rfl ?_
                    refine Z.yes (s := 150) (b := true) rfl rfl rfl ?_
                    refine Z.l rfl rfl (by rfl) (Z.keepS hs) (Z.Yd.pickT rfl rfl) ?_
                    refine Z.lb 1 rfl ?_
                    refine Z.yes (s := 154) (b := true) rfl ((by decide)) rfl ?_
                    refine Z.le rfl (by exact ⟨rfl, trivial⟩) ?_
                    refine Z.ZO.call rfl rfl (by rfl) rfl rfl Try.call10 rfl (works_any _) ?_
                    rintro v10_97 w10_97 ⟨rfl, hy⟩
                    replace hs := hs.call hy
                    clear hy
                    try simp only [List.cons_append, List.nil_append, List.append_nil] at hs
                    refine Z.l rfl rfl (by rfl) (Z.keepS hs) (Z.Yd.pickT rfl rfl) ?_
                    refine Z.lb 1 rfl ?_
                    refine Z.lnil ?_
                    refine Z.only [4] rfl ?_
                    refine Z.nthen ?_
                    refine Z.ret ?_
                    -- ret#3
                    refine Z.out1 (by exact ⟨rfl, trivial⟩) ?_
                    first | exact ⟨_, rfl, rfl, hs⟩ | exact ⟨_, rfl, rfl, hs.sub (List.nil_sublist _)⟩
                    )
              )
        )
  · first
      | (exfalso; simp at hsp20 <;> omega)
      | (
        refine Z.yes (s := 20) (b := false) rfl hsp20 rfl ?_
        (try simp at hsp20)
        refine Z.l rfl rfl (by rfl) (Z.keepS hs) (Z.Yd.fieldA (m := 4) rfl (by kernel_rfl)) ?_
        refine Z.l rfl rfl (by rfl) (Z.keepS hs) (by first | exact Z.Yd.load rfl Try.isAgg34 (fun _ => Z.cellB (by first | ((repeat (first | exact List.mem_cons_self | refine List.mem_cons_of_mem _ ?_ | refine List.mem_append_right _ ?_)); done) | fail) rfl) | exact Z.Yd.load rfl Try.isAgg34 (fun _ => Z.cellO (by assumption) (by simp) (by assumption)) | fail "load 1.6") ?_
        refine Z.l rfl rfl (by rfl) (Z.keepS hs) (Z.Yd.lenS rfl Try.underlying34) ?_
        refine Z.lb 1 rfl ?_
        refine Z.yes (s := 20) (b := false) rfl rfl rfl ?_
        refine Z.l rfl rfl (by rfl) (Z.keepS hs) (Z.Yd.pickF rfl rfl) ?_
        refine Z.lb 1 rfl ?_
        refine Z.split (s := 26) rfl (fun hsp26 => ?_) (fun hsp26 => ?_)
        · first
            | (exfalso; simp at hsp26 <;> omega)
            | (
              refine Z.yes (s := 26) (b := true) rfl hsp26 rfl ?_
              (try simp at hsp26)
              refine Z.ls rfl rfl rfl (by rfl) ?_
              refine Z.ls rfl rfl rfl (by rfl) ?_
              refine Z.ls rfl rfl rfl (by rfl) ?_
              refine Z.ls rfl rfl rfl (by rfl) ?_
              refine Z.l rfl rfl (by rfl) (Z.keepS hs) (Z.Yd.pickT rfl rfl) ?_
              refine Z.lnil ?_
              refine Z.only [2, 3, 31] rfl ?_
              refine Z.nthen ?_
              refine Z.cond rfl (fun hc1 => ?_) (fun hc1 => ?_)
              · first
                  | (exfalso; simp at hc1 <;> omega)
                  | (
                    (try simp at hc1)
                    refine Z.seq ?_
                    refine Z.region ?_
                    refine Z.le rfl trivial ?_
                    refine Z.ZO.call rfl rfl (by rfl) rfl rfl Try.call10 rfl (works_any _) ?_
                    rintro v2_0 w2_0 ⟨rfl, hy⟩
                    replace hs := hs.call hy
                    clear hy
                    try simp only [List.cons_append, List.nil_append, List.append_nil] at hs
                    refine Z.lb 1 rfl ?_
                    refine Z.lnil ?_
                    refine Z.only [4] rfl ?_
                    refine Z.nthen ?_
                    refine Z.ret ?_
                    repeat (first | refine Z.rthen ?_ | refine Z.rblock ?_ | refine Z.rscope ?_)
                    -- ret#4
                    refine Z.out1 (by exact ⟨rfl, trivial⟩) ?_
                    first | exact ⟨_, rfl, rfl, hs⟩ | exact ⟨_, rfl, rfl, hs.sub (List.nil_sublist _)⟩
                    )
              · first
                  | (exfalso; simp at hc1 <;> omega)
                  | (
                    (try simp at hc1)
                    refine Z.skip ?_
                    refine Z.nthen ?_
                    refine Z.seq ?_
                    refine Z.region ?_
                    refine Z.lb 1 rfl ?_
                    refine Z.lnil ?_
                    refine Z.only [2, 3, 5] rfl ?_
                    refine Z.nthen ?_
                    refine Z.seq ?_
                    refine Z.region ?_
                    refine Z.lb 1 rfl ?_
                    refine Z.lnil ?_
                    refine Z.only [2, 3, 5, 6] rfl ?_
                    refine Z.nthen ?_
                    refine Z.seq ?_
                    refine Z.region ?_
                    refine Z.le rfl trivial ?_
                    refine Z.ZO.alloc rfl rfl (by rfl) Try.zeroValue73 rfl hs ?_
                    clear hs; intro g7 w7 hs
                    refine Z.lnil ?_
                    refine Z.only [2, 3, 5, 6, 7] rfl ?_
                    refine Z.nthen ?_
                    refine Z.seq ?_
                    refine Z.region ?_
                    refine Z.lb 1 rfl ?_
                    refine Z.l rfl rfl (by rfl) (Z.keepS hs) (Z.Yd.fieldA (m := 1) rfl (by kernel_rfl)) ?_
                    refine Z.l rfl rfl (by rfl) (Z.keepS hs) (by first | exact Z.Yd.load rfl Try.isAgg3 (fun _ => Z.cellB (by first | ((repeat (first | exact List.mem_cons_self | refine List.mem_cons_of_mem _ ?_ | refine List.mem_append_right _ ?_)); done) | fail) rfl) | exact Z.Yd.load rfl Try.isAgg3 (fun _ => Z.cellO (by assumption) (by simp) (by assumption)) | fail "load 6.2") ?_
                    refine Z.le rfl trivial ?_
                    refine Z.ZO.call rfl rfl (by rfl) rfl rfl Try.call25 rfl (nil_Get _ _) ?_
                    rintro v6_3 w6_3 ⟨rfl, hy⟩
                    replace hs := hs.call hy
                    clear hy
                    try simp only [List.cons_append, List.nil_append, List.append_nil] at hs
                    refine Z.lb 5 rfl ?_
                    refine Z.lnil ?_
                    refine Z.only [2, 3, 5, 6, 7, 9] rfl ?_
                    refine Z.nthen ?_
                    refine Z.seq ?_
                    refine Z.region ?_
                    refine Z.lb 1 rfl ?_
                    refine Z.l rfl rfl (by rfl) (Z.keepS hs) (Z.Yd.fieldA (m := 1) rfl (by kernel_rfl)) ?_
                    refine Z.l rfl rfl (by rfl) (Z.keepS hs) (by first | exact Z.Yd.load rfl Try.isAgg3 (fun _ => Z.cellB (by first | ((repeat (first | exact List.mem_cons_self | refine List.mem_cons_of_mem _ ?_ | refine List.mem_append_right _ ?_)); done) | fail) rfl) | exact Z.Yd.load rfl Try.isAgg3 (fun _ => Z.cellO (by assumption) (by simp) (by assumption)) | fail "load 7.2") ?_
                    refine Z.le rfl trivial ?_
                    refine Z.ZO.call rfl rfl (by rfl) rfl rfl Try.call26 rfl (nil_GetBytes _ _) ?_
                    rintro v7_3 w7_3 ⟨rfl, hy⟩
                    replace hs := hs.call hy
                    clear hy
                    try simp only [List.cons_append, List.nil_append, List.append_nil] at hs
                    refine Z.lb 5 rfl ?_
                    refine Z.lnil ?_
                    refine Z.only [2, 3, 5, 6, 7, 9, 10, 11] rfl ?_
                    refine Z.nthen ?_
                    refine Z.seq ?_
                    refine Z.region ?_
                    refine Z.lb 1 rfl ?_
                    refine Z.l rfl rfl (by rfl) (Z.keepS hs) (Z.Yd.fieldA (m := 2) rfl (by kernel_rfl)) ?_
                    refine Z.l rfl rfl (by rfl) (Z.keepS hs) (by first | exact Z.Yd.load rfl Try.isAgg48 (fun _ => Z.cellB (by first | ((repeat (first | exact List.mem_cons_self | refine List.mem_cons_of_mem _ ?_ | refine List.mem_append_right _ ?_)); done) | fail) rfl) | exact Z.Yd.load rfl Try.isAgg48 (fun _ => Z.cellO (by assumption) (by simp) (by assumption)) | fail "load 8.2") ?_
                    refine Z.le rfl trivial ?_
                    refine Z.ZO.call rfl rfl (by rfl) rfl rfl Try.call22 rfl (nil_GetAll _ _ _ _) ?_
                    rintro v8_3 w8_3 ⟨rfl, hy⟩
                    replace hs := hs.call hy
                    clear hy
                    try simp only [List.cons_append, List.nil_append, List.append_nil] at hs
                    refine Z.lb 5 rfl ?_
                    refine Z.lnil ?_
                    refine Z.only [2, 5, 6, 7, 9, 10, 11, 12, 13] rfl ?_
                    refine Z.nthen ?_
                    refine Z.seq ?_
                    refine Z.region ?_
                    replace hs := (hs.nil 5 1)
                    replace hs : SX.St w [] _ (RdL g7 73 (.slice none 0 0) [] 0 ++ [SX.Ent.blk g3 68 #[.int .i64 what2, .int .i64 n2, .slice lA ll.length lc], SX.Ent.blk g2 36 #[.int .i64 what, .int .u64 v, .int .i64 n, .slice bA bl.length bc, .slice fA fl.length fc]]) := hs.sel [1, 0, 2, 3] (by decide)
                    refine Z.le rfl trivial ?_
                    refine Z.ZO.call rfl rfl (by rfl) rfl rfl Try.call25 rfl (rget_any g7 _ _ [] 0 1 _ (hs.lend (L1 := RdL _ _ _ _ _)) (by decide) (by decide) (by simp)) ?_
                    rintro v9_0 w9_0 ⟨hv, hz⟩
                    replace hs := hs.regain (L1 := RdL _ _ _ _ _) hz
                    rw [show getV [] 0 1 = 0 from by decide, show getE [] 0 1 = 5 from by decide] at hv
                    subst hv
                    rw [show getA [] 0 1 = 0 from by decide] at hs
                    refine Z.lb 5 rfl ?_
                    refine Z.lnil ?_
                    refine Z.only [2, 5, 6, 7, 9, 10, 11, 12, 13, 15] rfl ?_
                    refine Z.nthen ?_
                    refine Z.seq ?_
                    refine Z.region ?_
                    refine Z.lb 1 rfl ?_
                    refine Z.l rfl rfl (by rfl) (Z.keepS hs) (Z.Yd.fieldA (m := 1) rfl (by kernel_rfl)) ?_
                    refine Z.l rfl rfl (by rfl) (Z.keepS hs) (by first | exact Z.Yd.load rfl Try.isAgg33 (fun _ => Z.cellB (by first | ((repeat (first | exact List.mem_cons_self | refine List.mem_cons_of_mem _ ?_ | refine List.mem_append_right _ ?_)); done) | fail) rfl) | exact Z.Yd.load rfl Try.isAgg33 (fun _ => Z.cellO (by assumption) (by simp) (by assumption)) | fail "load 10.2") ?_
                    refine Z.l rfl rfl (by rfl) (Z.keepS hs) (Z.Yd.fieldA (m := 2) rfl (by kernel_rfl)) ?_
                    refine Z.l rfl rfl (by rfl) (Z.keepS hs) (by first | exact Z.Yd.load rfl Try.isAgg3 (fun _ => Z.cellB (by first | ((repeat (first | exact List.mem_cons_self | refine List.mem_cons_of_mem _ ?_ | refine List.mem_append_right _ ?_)); done) | fail) rfl) | exact Z.Yd.load rfl Try.isAgg3 (fun _ => Z.cellO (by assumption) (by simp) (by assumption)) | fail "load 10.4") ?_
                    refine Z.le rfl trivial ?_
                    refine Z.ZO.call rfl rfl (by rfl) rfl rfl Try.call32 rfl (nil_Put _ _ _) ?_
                    rintro v10_5 w10_5 ⟨rfl, hy⟩
                    replace hs := hs.call hy
                    clear hy
                    try simp only [List.cons_append, List.nil_append, List.append_nil] at hs
                    refine Z.le rfl trivial ?_
                    refine Z.ZO.call rfl rfl (by rfl) rfl rfl Try.call18 rfl (num_any _ _) ?_
                    rintro v10_6 w10_6 ⟨rfl, hy⟩
                    replace hs := hs.call hy
                    clear hy
                    try simp only [List.cons_append, List.nil_append, List.append_nil] at hs
                    refine Z.lb 2 rfl ?_
                    refine Z.yes (s := 66) (b := true) rfl ((by decide)) rfl ?_
                    refine Z.lb 1 rfl ?_
                    refine Z.l rfl rfl (by rfl) (Z.keepS hs) (Z.Yd.fieldA (m := 3) rfl (by kernel_rfl)) ?_
                    refine Z.l rfl rfl (by rfl) (Z.keepS hs) (by first | exact Z.Yd.load rfl Try.isAgg25 (fun _ => Z.cellB (by first | ((repeat (first | exact List.mem_cons_self | refine List.mem_cons_of_mem _ ?_ | refine List.mem_append_right _ ?_)); done) | fail) rfl) | exact Z.Yd.load rfl Try.isAgg25 (fun _ => Z.cellO (by assumption) (by simp) (by assumption)) | fail "load 10.11") ?_
                    refine Z.yes (s := 66) (b := true) rfl rfl rfl ?_
                    refine Z.le rfl (by exact ⟨rfl, trivial⟩) ?_
                    refine Z.ZO.call rfl rfl (by rfl) rfl rfl Try.call16 rfl (nil_PutBytes _ _ _ _) ?_
                    rintro v10_12 w10_12 ⟨rfl, hy⟩
                    replace hs := hs.call hy
                    clear hy
                    try simp only [List.cons_append, List.nil_append, List.append_nil] at hs
                    refine Z.le rfl (by exact ⟨rfl, trivial⟩) ?_
                    refine Z.ZO.call rfl rfl (by rfl) rfl rfl Try.call18 rfl (num_any _ _) ?_
                    rintro v10_13 w10_13 ⟨rfl, hy⟩
                    replace hs := hs.call hy
                    clear hy
                    try simp only [List.cons_append, List.nil_append, List.append_nil] at hs
                    refine Z.lb 1 rfl ?_
                    refine Z.yes (s := 66) (b := true) rfl rfl rfl ?_
                    refine Z.l rfl rfl (by rfl) (Z.keepS hs) (Z.Yd.pickT rfl rfl) ?_
                    refine Z.lb 1 rfl ?_
                    refine Z.yes (s := 74) (b := true) rfl ((by decide)) rfl ?_
                    refine Z.lb 1 rfl ?_
                    refine Z.l rfl rfl (by rfl) (Z.keepS hs) (Z.Yd.fieldA (m := 4) rfl (by kernel_rfl)) ?_
                    refine Z.l rfl rfl (by rfl) (Z.keepS hs) (by first | exact Z.Yd.load rfl Try.isAgg34 (fun _ => Z.cellB (by first | ((repeat (first | exact List.mem_cons_self | refine List.mem_cons_of_mem _ ?_ | refine List.mem_append_right _ ?_)); done) | fail) rfl) | exact Z.Yd.load rfl Try.isAgg34 (fun _ => Z.cellO (by assumption) (by simp) (by assumption)) | fail "load 10.19") ?_
                    refine Z.yes (s := 74) (b := true) rfl rfl rfl ?_
                    refine Z.le rfl (by exact ⟨rfl, trivial⟩) ?_
                    refine Z.ZO.call rfl rfl (by rfl) rfl rfl Try.call20 rfl (nil_PutAll _ _ _ _) ?_
                    rintro v10_20 w10_20 ⟨rfl, hy⟩
                    replace hs := hs.call hy
                    clear hy
                    try simp only [List.cons_append, List.nil_append, List.append_nil] at hs
                    refine Z.le rfl (by exact ⟨rfl, trivial⟩) ?_
                    refine Z.ZO.call rfl rfl (by rfl) rfl rfl Try.call18 rfl (num_any _ _) ?_
                    rintro v10_21 w10_21 ⟨rfl, hy⟩
                    replace hs := hs.call hy
                    clear hy
                    try simp only [List.cons_append, List.nil_append, List.append_nil] at hs
                    refine Z.lb 1 rfl ?_
                    refine Z.yes (s := 74) (b := true) rfl rfl rfl ?_
                    refine Z.l rfl rfl (by rfl) (Z.keepS hs) (Z.Yd.pickT rfl rfl) ?_
                    refine Z.lb 1 rfl ?_
                    refine Z.yes (s := 82) (b := true) rfl ((by decide)) rfl ?_
                    refine Z.lb 1 rfl ?_
                    refine Z.yes (s := 82) (b := true) rfl rfl rfl ?_
                    refine Z.le rfl (by exact ⟨rfl, trivial⟩) ?_
                    refine Z.ZO.call rfl rfl (by rfl) rfl rfl Try.call33 rfl (nil_Align _) ?_
                    rintro v10_26 w10_26 ⟨rfl, hy⟩
                    replace hs := hs.call hy
                    clear hy
                    try simp only [List.cons_append, List.nil_append, List.append_nil] at hs
                    refine Z.le rfl (by exact ⟨rfl, trivial⟩) ?_
                    refine Z.ZO.call rfl rfl (by rfl) rfl rfl Try.call18 rfl (num_any _ _) ?_
                    rintro v10_27 w10_27 ⟨rfl, hy⟩
                    replace hs := hs.call hy
                    clear hy
                    try simp only [List.cons_append, List.nil_append, List.append_nil] at hs
                    refine Z.lb 1 rfl ?_
                    refine Z.yes (s := 82) (b := true) rfl rfl rfl ?_
                    refine Z.l rfl rfl (by rfl) (Z.keepS hs) (Z.Yd.pickT rfl rfl) ?_
                    refine Z.lb 1 rfl ?_
                    refine Z.yes (s := 88) (b := true) rfl ((by decide)) rfl ?_
                    refine Z.lb 1 rfl ?_
                    refine Z.yes (s := 88) (b := true) rfl rfl rfl ?_
                    refine Z.le rfl (by exact ⟨rfl, trivial⟩) ?_
                    refine Z.ZO.call rfl rfl (by rfl) rfl rfl Try.call12 rfl (nil_Len _) ?_
                    rintro v10_32 w10_32 ⟨rfl, hy⟩
                    replace hs := hs.call hy
                    clear hy
                    try simp only [List.cons_append, List.nil_append, List.append_nil] at hs
                    refine Z.lb 1 rfl ?_
                    refine Z.yes (s := 88) (b := true) rfl rfl rfl ?_
                    refine Z.l rfl rfl (by rfl) (Z.keepS hs) (Z.Yd.pickT rfl rfl) ?_
                    refine Z.lb 1 rfl ?_
                    refine Z.yes (s := 93) (b := true) rfl ((by decide)) rfl ?_
                    refine Z.lb 1 rfl ?_
                    refine Z.yes (s := 93) (b := true) rfl rfl rfl ?_
                    refine Z.le rfl (by exact ⟨rfl, trivial⟩) ?_
                    refine Z.ZO.call rfl rfl (by rfl) rfl rfl Try.call14 rfl (nil_Bytes _) ?_
                    rintro v10_37 w10_37 ⟨rfl, hy⟩
                    replace hs := hs.call hy
                    clear hy
                    try simp only [List.cons_append, List.nil_append, List.append_nil] at hs
                    refine Z.l rfl rfl (by rfl) (Z.keepS hs) (Z.Yd.lenS rfl Try.underlying25) ?_
                    refine Z.lb 1 rfl ?_
                    refine Z.yes (s := 93) (b := true) rfl rfl rfl ?_
                    refine Z.l rfl rfl (by rfl) (Z.keepS hs) (Z.Yd.pickT rfl rfl) ?_
                    refine Z.lb 1 rfl ?_
                    refine Z.yes (s := 99) (b := true) rfl ((by decide)) rfl ?_
                    refine Z.lb 1 rfl ?_
                    refine Z.yes (s := 99) (b := true) rfl rfl rfl ?_
                    refine Z.le rfl (by exact ⟨rfl, trivial⟩) ?_
                    refine Z.ZO.call rfl rfl (by rfl) rfl rfl Try.call18 rfl (num_any _ _) ?_
                    rintro v10_43 w10_43 ⟨rfl, hy⟩
                    replace hs := hs.call hy
                    clear hy
                    try simp only [List.cons_append, List.nil_append, List.append_nil] at hs
                    refine Z.lb 1 rfl ?_
                    refine Z.yes (s := 99) (b := true) rfl rfl rfl ?_
                    refine Z.l rfl rfl (by rfl) (Z.keepS hs) (Z.Yd.pickT rfl rfl) ?_
                    refine Z.lb 1 rfl ?_
                    refine Z.yes (s := 104) (b := true) rfl ((by decide)) rfl ?_
                    refine Z.lb 1 rfl ?_
                    refine Z.yes (s := 104) (b := true) rfl rfl rfl ?_
                    refine Z.le rfl (by exact ⟨rfl, trivial⟩) ?_
                    refine Z.ZO.call rfl rfl (by rfl) rfl rfl Try.call18 rfl (num_any _ _) ?_
                    rintro v10_48 w10_48 ⟨rfl, hy⟩
                    replace hs := hs.call hy
                    clear hy
                    try simp only [List.cons_append, List.nil_append, List.append_nil] at hs
                    refine Z.lb 1 rfl ?_
                    refine Z.yes (s := 104) (b := true) rfl rfl rfl ?_
                    refine Z.l rfl rfl (by rfl) (Z.keepS hs) (Z.Yd.pickT rfl rfl) ?_
                    refine Z.lb 1 rfl ?_
                    refine Z.yes (s := 109) (b := true) rfl ((by decide)) rfl ?_
                    refine Z.lb 1 rfl ?_
                    refine Z.yes (s := 109) (b := true) rfl rfl rfl ?_
                    refine Z.le rfl (by exact ⟨rfl, trivial⟩) ?_
                    refine Z.ZO.call rfl rfl (by rfl) rfl rfl Try.call18 rfl (num_any _ _) ?_
                    rintro v10_53 w10_53 ⟨rfl, hy⟩
                    replace hs := hs.call hy
                    clear hy
                    try simp only [List.cons_append, List.nil_append, List.append_nil] at hs
                    refine Z.lb 1 rfl ?_
                    refine Z.yes (s := 109) (b := true) rfl rfl rfl ?_
                    refine Z.l rfl rfl (by rfl) (Z.keepS hs) (Z.Yd.pickT rfl rfl) ?_
                    refine Z.lb 1 rfl ?_
                    refine Z.yes (s := 114) (b := true) rfl ((by decide)) rfl ?_
                    refine Z.lb 1 rfl ?_
                    refine Z.l rfl rfl (by rfl) (Z.keepS hs) (Z.Yd.lenS rfl Try.underlying25) ?_
                    refine Z.lb 1 rfl ?_
                    refine Z.l rfl rfl (by rfl) (Z.keepS hs) (Z.Yd.lenS rfl Try.underlying53) ?_
                    refine Z.l rfl rfl (by rfl) (Z.keepS hs) (Z.Yd.add rfl rfl (fun hG => Z.wi64 (by first | omega | (have hG' := Z.gh rfl hG; simp at hG'; omega)))) ?_
                    refine Z.lb 1 rfl ?_
                    refine Z.yes (s := 114) (b := true) rfl rfl rfl ?_
                    refine Z.l rfl rfl (by rfl) (Z.keepS hs) (Z.Yd.pickT rfl rfl) ?_
                    refine Z.lb 1 rfl ?_
                    refine Z.yes (s := 122) (b := true) rfl ((by decide)) rfl ?_
                    refine Z.lb 1 rfl ?_
                    refine Z.yes (s := 122) (b := true) rfl rfl rfl ?_
                    refine Z.le rfl (by exact ⟨rfl, trivial⟩) ?_
                    refine Z.ZO.call rfl rfl (by rfl) rfl rfl Try.call28 rfl (nil_RAlign _) ?_
                    rintro v10_66 w10_66 ⟨rfl, hy⟩
                    replace hs := hs.call hy
                    clear hy
                    try simp only [List.cons_append, List.nil_append, List.append_nil] at hs
                    refine Z.le rfl (by exact ⟨rfl, trivial⟩) ?_
                    refine Z.ZO.call rfl rfl (by rfl) rfl rfl Try.call18 rfl (num_any _ _) ?_
                    rintro v10_67 w10_67 ⟨rfl, hy⟩
                    replace hs := hs.call hy
                    clear hy
                    try simp only [List.cons_append, List.nil_append, List.append_nil] at hs
                    refine Z.lb 1 rfl ?_
                    refine Z.yes (s := 122) (b := true) rfl rfl rfl ?_
                    refine Z.l rfl rfl (by rfl) (Z.keepS hs) (Z.Yd.pickT rfl rfl) ?_
                    refine Z.lb 1 rfl ?_
                    refine Z.yes (s := 128) (b := true) rfl ((by decide)) rfl ?_
                    refine Z.lb 1 rfl ?_
                    refine Z.yes (s := 128) (b := true) rfl rfl rfl ?_
                    refine Z.le rfl (by exact ⟨rfl, trivial⟩) ?_
                    refine Z.ZO.call rfl rfl (by rfl) rfl rfl Try.call23 rfl (nil_At _) ?_
                    rintro v10_72 w10_72 ⟨rfl, hy⟩
                    replace hs := hs.call hy
                    clear hy
                    try simp only [List.cons_append, List.nil_append, List.append_nil] at hs
                    refine Z.lb 1 rfl ?_
                    refine Z.yes (s := 128) (b := true) rfl rfl rfl ?_
                    refine Z.le rfl (by exact ⟨rfl, trivial⟩) ?_
                    refine Z.ZO.call rfl rfl (by rfl) rfl rfl Try.call24 rfl (nil_Left _) ?_
                    rintro v10_74 w10_74 ⟨rfl, hy⟩
                    replace hs := hs.call hy
                    clear hy
                    try simp only [List.cons_append, List.nil_append, List.append_nil] at hs
                    refine Z.l rfl rfl (by rfl) (Z.keepS hs) (Z.Yd.add rfl rfl (fun hG => Z.wi64 (by first | omega | (have hG' := Z.gh rfl hG; simp at hG'; omega)))) ?_
                    refine Z.lb 1 rfl ?_
                    refine Z.yes (s := 128) (b := true) rfl rfl rfl ?_
                    refine Z.l rfl rfl (by rfl) (Z.keepS hs) (Z.Yd.pickT rfl rfl) ?_
                    refine Z.lb 1 rfl ?_
                    refine Z.yes (s := 136) (b := true) rfl ((by decide)) rfl ?_
                    refine Z.lb 1 rfl ?_
                    refine Z.yes (s := 136) (b := true) rfl rfl rfl ?_
                    refine Z.le rfl (by exact ⟨rfl, trivial⟩) ?_
                    refine Z.ZO.call rfl rfl (by rfl) rfl rfl Try.call27 rfl (nil_End _) ?_
                    rintro v10_80 w10_80 ⟨rfl, hy⟩
                    replace hs := hs.call hy
                    clear hy
                    try simp only [List.cons_append, List.nil_append, List.append_nil] at hs
                    refine Z.le rfl (by exact ⟨rfl, trivial⟩) ?_
                    refine Z.ZO.call rfl rfl (by rfl) rfl rfl Try.call18 rfl (num_any _ _) ?_
                    rintro v10_81 w10_81 ⟨rfl, hy⟩
                    replace hs := hs.call hy
                    clear hy
                    try simp only [List.cons_append, List.nil_append, List.append_nil] at hs
                    refine Z.lb 1 rfl ?_
                    refine Z.yes (s := 136) (b := true) rfl rfl rfl ?_
                    refine Z.l rfl rfl (by rfl) (Z.keepS hs) (Z.Yd.pickT rfl rfl) ?_
                    refine Z.lb 1 rfl ?_
                    refine Z.yes (s := 142) (b := true) rfl ((by decide)) rfl ?_
                    refine Z.lb 2 rfl ?_
                    refine Z.yes (s := 142) (b := true) rfl rfl rfl ?_
                    refine Z.l rfl rfl (by rfl) (Z.keepS hs) (Z.Yd.pickT rfl rfl) ?_
                    refine Z.lb 1 rfl ?_
                    refine Z.yes (s := 146) (b := true) rfl ((by decide)) rfl ?_
                    refine Z.le rfl (by exact ⟨rfl, trivial⟩) ?_
                    refine Z.ZO.call rfl rfl (by rfl) rfl rfl Try.call24 rfl (rleft_any g7 _ _ [] 0 _ (hs.lend (L1 := RdL _ _ _ _ _)) (by decide) (by decide)) ?_
                    rintro v10_89 w10_89 ⟨hv, hz⟩
                    replace hs := hs.regain (L1 := RdL _ _ _ _ _) hz
                    rw [show (8 * (([] : List Int).length : Int)) - ((0 : Nat) : Int) = 0 from by decide] at hv
                    subst hv
                    refine Z.lb 1 rfl ?_
                    refine Z.yes (s := 146) (b := true) rfl rfl rfl ?_
                    refine Z.l rfl rfl (by rfl) (Z.keepS hs) (Z.Yd.pickT rfl rfl) ?_
                    refine Z.lb 1 rfl ?_
                    refine Z.yes (s := 150) (b := true) rfl ((by decide)) rfl ?_
                    refine Z.le rfl (by exact ⟨rfl, trivial⟩) ?_
                    refine Z.ZO.call rfl rfl (by rfl) rfl rfl Try.call27 rfl (rend_any g7 _ _ [] 0 _ (hs.lend (L1 := RdL _ _ _ _ _)) (by decide) (by decide) (by simp)) ?_
                    rintro v10_93 w10_93 ⟨hv, hz⟩
                    replace hs := hs.regain (L1 := RdL _ _ _ _ _) hz
                    rw [show endE [] 0 = 0 from by decide] at hv
                    subst hv
                    refine Z.lb 1 rfl ?_
                    refine Z.yes (s := 150) (b := true) rfl rfl rfl ?_
                    refine Z.l rfl rfl (by rfl) (Z.keepS hs) (Z.Yd.pickT rfl rfl) ?_
                    refine Z.lb 1 rfl ?_
                    refine Z.yes (s := 154) (b := true) rfl ((by decide)) rfl ?_
                    refine Z.le rfl (by exact ⟨rfl, trivial⟩) ?_
                    refine Z.ZO.call rfl rfl (by rfl) rfl rfl Try.call10 rfl (works_any _) ?_
                    rintro v10_97 w10_97 ⟨rfl, hy⟩
                    replace hs := hs.call hy
                    clear hy
                    try simp only [List.cons_append, List.nil_append, List.append_nil] at hs
                    refine Z.l rfl rfl (by rfl) (Z.keepS hs) (Z.Yd.pickT rfl rfl) ?_
                    refine Z.lb 1 rfl ?_
                    refine Z.lnil ?_
                    refine Z.only [4] rfl ?_
                    refine Z.nthen ?_
                    refine Z.ret ?_
                    -- ret#5
                    refine Z.out1 (by exact ⟨rfl, trivial⟩) ?_
                    first | exact ⟨_, rfl, rfl, hs⟩ | exact ⟨_, rfl, rfl, hs.sub (List.nil_sublist _)⟩
                    )
              )
        · first
            | (exfalso; simp at hsp26 <;> omega)
            | (
              refine Z.yes (s := 26) (b := false) rfl hsp26 rfl ?_
              (try simp at hsp26)
              refine Z.l rfl rfl (by rfl) (Z.keepS hs) (Z.Yd.fieldA (m := 2) rfl (by kernel_rfl)) ?_
              refine Z.l rfl rfl (by rfl) (Z.keepS hs) (by first | exact Z.Yd.load rfl Try.isAgg48 (fun _ => Z.cellB (by first | ((repeat (first | exact List.mem_cons_self | refine List.mem_cons_of_mem _ ?_ | refine List.mem_append_right _ ?_)); done) | fail) rfl) | exact Z.Yd.load rfl Try.isAgg48 (fun _ => Z.cellO (by assumption) (by simp) (by assumption)) | fail "load 1.12") ?_
              refine Z.l rfl rfl (by rfl) (Z.keepS hs) (Z.Yd.lenS rfl Try.underlying48) ?_
              refine Z.lb 1 rfl ?_
              refine Z.yes (s := 26) (b := false) rfl rfl rfl ?_
              refine Z.l rfl rfl (by rfl) (Z.keepS hs) (Z.Yd.pickF rfl rfl) ?_
              refine Z.lnil ?_
              refine Z.only [2, 3, 31] rfl ?_
              refine Z.nthen ?_
              refine Z.cond rfl (fun hc1 => ?_) (fun hc1 => ?_)
              · first
                  | (exfalso; simp at hc1 <;> omega)
                  | (
                    (try simp at hc1)
                    refine Z.seq ?_
                    refine Z.region ?_
                    refine Z.le rfl trivial ?_
                    refine Z.ZO.call rfl rfl (by rfl) rfl rfl Try.call10 rfl (works_any _) ?_
                    rintro v2_0 w2_0 ⟨rfl, hy⟩
                    replace hs := hs.call hy
                    clear hy
                    try simp only [List.cons_append, List.nil_append, List.append_nil] at hs
                    refine Z.lb 1 rfl ?_
                    refine Z.lnil ?_
                    refine Z.only [4] rfl ?_
                    refine Z.nthen ?_
                    refine Z.ret ?_
                    repeat (first | refine Z.rthen ?_ | refine Z.rblock ?_ | refine Z.rscope ?_)
                    -- ret#6
                    refine Z.out1 (by exact ⟨rfl, trivial⟩) ?_
                    first | exact ⟨_, rfl, rfl, hs⟩ | exact ⟨_, rfl, rfl, hs.sub (List.nil_sublist _)⟩
                    )
              · first
                  | (exfalso; simp at hc1 <;> omega)
                  | (
                    (try simp at hc1)
                    refine Z.skip ?_
                    refine Z.nthen ?_
                    refine Z.seq ?_
                    refine Z.region ?_
                    refine Z.lb 1 rfl ?_
                    refine Z.lnil ?_
                    refine Z.only [2, 3, 5] rfl ?_
                    refine Z.nthen ?_
                    refine Z.seq ?_
                    refine Z.region ?_
                    refine Z.lb 1 rfl ?_
                    refine Z.lnil ?_
                    refine Z.only [2, 3, 5, 6] rfl ?_
                    refine Z.nthen ?_
                    refine Z.seq ?_
                    refine Z.region ?_
                    refine Z.le rfl trivial ?_
                    refine Z.ZO.alloc rfl rfl (by rfl) Try.zeroValue73 rfl hs ?_
                    clear hs; intro g7 w7 hs
                    refine Z.lnil ?_
                    refine Z.only [2, 3, 5, 6, 7] rfl ?_
                    refine Z.nthen ?_
                    refine Z.seq ?_
                    refine Z.region ?_
                    refine Z.lb 1 rfl ?_
                    refine Z.l rfl rfl (by rfl) (Z.keepS hs) (Z.Yd.fieldA (m := 1) rfl (by kernel_rfl)) ?_
                    refine Z.l rfl rfl (by rfl) (Z.keepS hs) (by first | exact Z.Yd.load rfl Try.isAgg3 (fun _ => Z.cellB (by first | ((repeat (first | exact List.mem_cons_self | refine List.mem_cons_of_mem _ ?_ | refine List.mem_append_right _ ?_)); done) | fail) rfl) | exact Z.Yd.load rfl Try.isAgg3 (fun _ => Z.cellO (by assumption) (by simp) (by assumption)) | fail "load 6.2") ?_
                    refine Z.le rfl trivial ?_
                    refine Z.ZO.call rfl rfl (by rfl) rfl rfl Try.call25 rfl (nil_Get _ _) ?_
                    rintro v6_3 w6_3 ⟨rfl, hy⟩
                    replace hs := hs.call hy
                    clear hy
                    try simp only [List.cons_append, List.nil_append, List.append_nil] at hs
                    refine Z.lb 5 rfl ?_
                    refine Z.lnil ?_
                    refine Z.only [2, 3, 5, 6, 7, 9] rfl ?_
                    refine Z.nthen ?_
                    refine Z.seq ?_
                    refine Z.region ?_
                    refine Z.lb 1 rfl ?_
                    refine Z.l rfl rfl (by rfl) (Z.keepS hs) (Z.Yd.fieldA (m := 1) rfl (by kernel_rfl)) ?_
                    refine Z.l rfl rfl (by rfl) (Z.keepS hs) (by first | exact Z.Yd.load rfl Try.isAgg3 (fun _ => Z.cellB (by first | ((repeat (first | exact List.mem_cons_self | refine List.mem_cons_of_mem _ ?_ | refine List.mem_append_right _ ?_)); done) | fail) rfl) | exact Z.Yd.load rfl Try.isAgg3 (fun _ => Z.cellO (by assumption) (by simp) (by assumption)) | fail "load 7.2") ?_
                    refine Z.le rfl trivial ?_
                    refine Z.ZO.call rfl rfl (by rfl) rfl rfl Try.call26 rfl (nil_GetBytes _ _) ?_
                    rintro v7_3 w7_3 ⟨rfl, hy⟩
                    replace hs := hs.call hy
                    clear hy
                    try simp only [List.cons_append, List.nil_append, List.append_nil] at hs
                    refine Z.lb 5 rfl ?_
                    refine Z.lnil ?_
                    refine Z.only [2, 3, 5, 6, 7, 9, 10, 11] rfl ?_
                    refine Z.nthen ?_
                    refine Z.seq ?_
                    refine Z.region ?_
                    refine Z.lb 1 rfl ?_
                    refine Z.l rfl rfl (by rfl) (Z.keepS hs) (Z.Yd.fieldA (m := 2) rfl (by kernel_rfl)) ?_
                    refine Z.l rfl rfl (by rfl) (Z.keepS hs) (by first | exact Z.Yd.load rfl Try.isAgg48 (fun _ => Z.cellB (by first | ((repeat (first | exact List.mem_cons_self | refine List.mem_cons_of_mem _ ?_ | refine List.mem_append_right _ ?_)); done) | fail) rfl) | exact Z.Yd.load rfl Try.isAgg48 (fun _ => Z.cellO (by assumption) (by simp) (by assumption)) | fail "load 8.2") ?_
                    refine Z.le rfl trivial ?_
                    refine Z.ZO.call rfl rfl (by rfl) rfl rfl Try.call22 rfl (nil_GetAll _ _ _ _) ?_
                    rintro v8_3 w8_3 ⟨rfl, hy⟩
                    replace hs := hs.call hy
                    clear hy
                    try simp only [List.cons_append, List.nil_append, List.append_nil] at hs
                    refine Z.lb 5 rfl ?_
                    refine Z.lnil ?_
                    refine Z.only [2, 5, 6, 7, 9, 10, 11, 12, 13] rfl ?_
                    refine Z.nthen ?_
                    refine Z.seq ?_
                    refine Z.region ?_
                    replace hs := (hs.nil 5 1)
                    replace hs : SX.St w [] _ (RdL g7 73 (.slice none 0 0) [] 0 ++ [SX.Ent.blk g3 68 #[.int .i64 what2, .int .i64 n2, .slice lA ll.length lc], SX.Ent.blk g2 36 #[.int .i64 what, .int .u64 v, .int .i64 n, .slice bA bl.length bc, .slice fA fl.length fc]]) := hs.sel [1, 0, 2, 3] (by decide)
                    refine Z.le rfl trivial ?_
                    refine Z.ZO.call rfl rfl (by rfl) rfl rfl Try.call25 rfl (rget_any g7 _ _ [] 0 1 _ (hs.lend (L1 := RdL _ _ _ _ _)) (by decide) (by decide) (by simp)) ?_
                    rintro v9_0 w9_0 ⟨hv, hz⟩
                    replace hs := hs.regain (L1 := RdL _ _ _ _ _) hz
                    rw [show getV [] 0 1 = 0 from by decide, show getE [] 0 1 = 5 from by decide] at hv
                    subst hv
                    rw [show getA [] 0 1 = 0 from by decide] at hs
                    refine Z.lb 5 rfl ?_
                    refine Z.lnil ?_
                    refine Z.only [2, 5, 6, 7, 9, 10, 11, 12, 13, 15] rfl ?_
                    refine Z.nthen ?_
                    refine Z.seq ?_
                    refine Z.region ?_
                    refine Z.lb 1 rfl ?_
                    refine Z.l rfl rfl (by rfl) (Z.keepS hs) (Z.Yd.fieldA (m := 1) rfl (by kernel_rfl)) ?_
                    refine Z.l rfl rfl (by rfl) (Z.keepS hs) (by first | exact Z.Yd.load rfl Try.isAgg33 (fun _ => Z.cellB (by first | ((repeat (first | exact List.mem_cons_self | refine List.mem_cons_of_mem _ ?_ | refine List.mem_append_right _ ?_)); done) | fail) rfl) | exact Z.Yd.load rfl Try.isAgg33 (fun _ => Z.cellO (by assumption) (by simp) (by assumption)) | fail "load 10.2") ?_
                    refine Z.l rfl rfl (by rfl) (Z.keepS hs) (Z.Yd.fieldA (m := 2) rfl (by kernel_rfl)) ?_
                    refine Z.l rfl rfl (by rfl) (Z.keepS hs) (by first | exact Z.Yd.load rfl Try.isAgg3 (fun _ => Z.cellB (by first | ((repeat (first | exact List.mem_cons_self | refine List.mem_cons_of_mem _ ?_ | refine List.mem_append_right _ ?_)); done) | fail) rfl) | exact Z.Yd.load rfl Try.isAgg3 (fun _ => Z.cellO (by assumption) (by simp) (by assumption)) | fail "load 10.4") ?_
                    refine Z.le rfl trivial ?_
                    refine Z.ZO.call rfl rfl (by rfl) rfl rfl Try.call32 rfl (nil_Put _ _ _) ?_
                    rintro v10_5 w10_5 ⟨rfl, hy⟩
                    replace hs := hs.call hy
                    clear hy
                    try simp only [List.cons_append, List.nil_append, List.append_nil] at hs
                    refine Z.le rfl trivial ?_
                    refine Z.ZO.call rfl rfl (by rfl) rfl rfl Try.call18 rfl (num_any _ _) ?_
                    rintro v10_6 w10_6 ⟨rfl, hy⟩
                    replace hs := hs.call hy
                    clear hy
                    try simp only [List.cons_append, List.nil_append, List.append_nil] at hs
                    refine Z.lb 2 rfl ?_
                    refine Z.yes (s := 66) (b := true) rfl ((by decide)) rfl ?_
                    refine Z.lb 1 rfl ?_
                    refine Z.l rfl rfl (by rfl) (Z.keepS hs) (Z.Yd.fieldA (m := 3) rfl (by kernel_rfl)) ?_
                    refine Z.l rfl rfl (by rfl) (Z.keepS hs) (by first | exact Z.Yd.load rfl Try.isAgg25 (fun _ => Z.cellB (by first | ((repeat (first | exact List.mem_cons_self | refine List.mem_cons_of_mem _ ?_ | refine List.mem_append_right _ ?_)); done) | fail) rfl) | exact Z.Yd.load rfl Try.isAgg25 (fun _ => Z.cellO (by assumption) (by simp) (by assumption)) | fail "load 10.11") ?_
                    refine Z.yes (s := 66) (b := true) rfl rfl rfl ?_
                    refine Z.le rfl (by exact ⟨rfl, trivial⟩) ?_
                    refine Z.ZO.call rfl rfl (by rfl) rfl rfl Try.call16 rfl (nil_PutBytes _ _ _ _) ?_
                    rintro v10_12 w10_12 ⟨rfl, hy⟩
                    replace hs := hs.call hy
                    clear hy
                    try simp only [List.cons_append, List.nil_append, List.append_nil] at hs
                    refine Z.le rfl (by exact ⟨rfl, trivial⟩) ?_
                    refine Z.ZO.call rfl rfl (by rfl) rfl rfl Try.call18 rfl (num_any _ _) ?_
                    rintro v10_13 w10_13 ⟨rfl, hy⟩
                    replace hs := hs.call hy
                    clear hy
                    try simp only [List.cons_append, List.nil_append, List.append_nil] at hs
                    refine Z.lb 1 rfl ?_
                    refine Z.yes (s := 66) (b := true) rfl rfl rfl ?_
                    refine Z.l rfl rfl (by rfl) (Z.keepS hs) (Z.Yd.pickT rfl rfl) ?_
                    refine Z.lb 1 rfl ?_
                    refine Z.yes (s := 74) (b := true) rfl ((by decide)) rfl ?_
                    refine Z.lb 1 rfl ?_
                    refine Z.l rfl rfl (by rfl) (Z.keepS hs) (Z.Yd.fieldA (m := 4) rfl (by kernel_rfl)) ?_
                    refine Z.l rfl rfl (by rfl) (Z.keepS hs) (by first | exact Z.Yd.load rfl Try.isAgg34 (fun _ => Z.cellB (by first | ((repeat (first | exact List.mem_cons_self | refine List.mem_cons_of_mem _ ?_ | refine List.mem_append_right _ ?_)); done) | fail) rfl) | exact Z.Yd.load rfl Try.isAgg34 (fun _ => Z.cellO (by assumption) (by simp) (by assumption)) | fail "load 10.19") ?_
                    refine Z.yes (s := 74) (b := true) rfl rfl rfl ?_
                    refine Z.le rfl (by exact ⟨rfl, trivial⟩) ?_
                    refine Z.ZO.call rfl rfl (by rfl) rfl rfl Try.call20 rfl (nil_PutAll _ _ _ _) ?_
                    rintro v10_20 w10_20 ⟨rfl, hy⟩
                    replace hs := hs.call hy
                    clear hy
                    try simp only [List.cons_append, List.nil_append, List.append_nil] at hs
                    refine Z.le rfl (by exact ⟨rfl, trivial⟩) ?_
                    refine Z.ZO.call rfl rfl (by rfl) rfl rfl Try.call18 rfl (num_any _ _) ?_
                    rintro v10_21 w10_21 ⟨rfl, hy⟩
                    replace hs := hs.call hy
                    clear hy
                    try simp only [List.cons_append, List.nil_append, List.append_nil] at hs
                    refine Z.lb 1 rfl ?_
                    refine Z.yes (s := 74) (b := true) rfl rfl rfl ?_
                    refine Z.l rfl rfl (by rfl) (Z.keepS hs) (Z.Yd.pickT rfl rfl) ?_
                    refine Z.lb 1 rfl ?_
                    refine Z.yes (s := 82) (b := true) rfl ((by decide)) rfl ?_
                    refine Z.lb 1 rfl ?_
                    refine Z.yes (s := 82) (b := true) rfl rfl rfl ?_
                    refine Z.le rfl (by exact ⟨rfl, trivial⟩) ?_
                    refine Z.ZO.call rfl rfl (by rfl) rfl rfl Try.call33 rfl (nil_Align _) ?_
                    rintro v10_26 w10_26 ⟨rfl, hy⟩
                    replace hs := hs.call hy
                    clear hy
                    try simp only [List.cons_append, List.nil_append, List.append_nil] at hs
                    refine Z.le rfl (by exact ⟨rfl, trivial⟩) ?_
                    refine Z.ZO.call rfl rfl (by rfl) rfl rfl Try.call18 rfl (num_any _ _) ?_
                    rintro v10_27 w10_27 ⟨rfl, hy⟩
                    replace hs := hs.call hy
                    clear hy
                    try simp only [List.cons_append, List.nil_append, List.append_nil] at hs
                    refine Z.lb 1 rfl ?_
                    refine Z.yes (s := 82) (b := true) rfl rfl rfl ?_
                    refine Z.l rfl rfl (by rfl) (Z.keepS hs) (Z.Yd.pickT rfl rfl) ?_
                    refine Z.lb 1 rfl ?_
                    refine Z.yes (s := 88) (b := true) rfl ((by decide)) rfl ?_
                    refine Z.lb 1 rfl ?_
                    refine Z.yes (s := 88) (b := true) rfl rfl rfl ?_
                    refine Z.le rfl (by exact ⟨rfl, trivial⟩) ?_
                    refine Z.ZO.call rfl rfl (by rfl) rfl rfl Try.call12 rfl (nil_Len _) ?_
                    rintro v10_32 w10_32 ⟨rfl, hy⟩
                    replace hs := hs.call hy
                    clear hy
                    try simp only [List.cons_append, List.nil_append, List.append_nil] at hs
                    refine Z.lb 1 rfl ?_
                    refine Z.yes (s := 88) (b := true) rfl rfl rfl ?_
                    refine Z.l rfl rfl (by rfl) (Z.keepS hs) (Z.Yd.pickT rfl rfl) ?_
                    refine Z.lb 1 rfl ?_
                    refine Z.yes (s := 93) (b := true) rfl ((by decide)) rfl ?_
                    refine Z.lb 1 rfl ?_
                    refine Z.yes (s := 93) (b := true) rfl rfl rfl ?_
                    refine Z.le rfl (by exact ⟨rfl, trivial⟩) ?_
                    refine Z.ZO.call rfl rfl (by rfl) rfl rfl Try.call14 rfl (nil_Bytes _) ?_
                    rintro v10_37 w10_37 ⟨rfl, hy⟩
                    replace hs := hs.call hy
                    clear hy
                    try simp only [List.cons_append, List.nil_append, List.append_nil] at hs
                    refine Z.l rfl rfl (by rfl) (Z.keepS hs) (Z.Yd.lenS rfl Try.underlying25) ?_
                    refine Z.lb 1 rfl ?_
                    refine Z.yes (s := 93) (b := true) rfl rfl rfl ?_
                    refine Z.l rfl rfl (by rfl) (Z.keepS hs) (Z.Yd.pickT rfl rfl) ?_
                    refine Z.lb 1 rfl ?_
                    refine Z.yes (s := 99) (b := true) rfl ((by decide)) rfl ?_
                    refine Z.lb 1 rfl ?_
                    refine Z.yes (s := 99) (b := true) rfl rfl rfl ?_
                    refine Z.le rfl (by exact ⟨rfl, trivial⟩) ?_
                    refine Z.ZO.call rfl rfl (by rfl) rfl rfl Try.call18 rfl (num_any _ _) ?_
                    rintro v10_43 w10_43 ⟨rfl, hy⟩
                    replace hs := hs.call hy
                    clear hy
                    try simp only [List.cons_append, List.nil_append, List.append_nil] at hs
                    refine Z.lb 1 rfl ?_
                    refine Z.yes (s := 99) (b := true) rfl rfl rfl ?_
                    refine Z.l rfl rfl (by rfl) (Z.keepS hs) (Z.Yd.pickT rfl rfl) ?_
                    refine Z.lb 1 rfl ?_
                    refine Z.yes (s := 104) (b := true) rfl ((by decide)) rfl ?_
                    refine Z.lb 1 rfl ?_
                    refine Z.yes (s := 104) (b := true) rfl rfl rfl ?_
                    refine Z.le rfl (by exact ⟨rfl, trivial⟩) ?_
                    refine Z.ZO.call rfl rfl (by rfl) rfl rfl Try.call18 rfl (num_any _ _) ?_
                    rintro v10_48 w10_48 ⟨rfl, hy⟩
                    replace hs := hs.call hy
                    clear hy
                    try simp only [List.cons_append, List.nil_append, List.append_nil] at hs
                    refine Z.lb 1 rfl ?_
                    refine Z.yes (s := 104) (b := true) rfl rfl rfl ?_
                    refine Z.l rfl rfl (by rfl) (Z.keepS hs) (Z.Yd.pickT rfl rfl) ?_
                    refine Z.lb 1 rfl ?_
                    refine Z.yes (s := 109) (b := true) rfl ((by decide)) rfl ?_
                    refine Z.lb 1 rfl ?_
                    refine Z.yes (s := 109) (b := true) rfl rfl rfl ?_
                    refine Z.le rfl (by exact ⟨rfl, trivial⟩) ?_
                    refine Z.ZO.call rfl rfl (by rfl) rfl rfl Try.call18 rfl (num_any _ _) ?_
                    rintro v10_53 w10_53 ⟨rfl, hy⟩
                    replace hs := hs.call hy
                    clear hy
                    try simp only [List.cons_append, List.nil_append, List.append_nil] at hs
                    refine Z.lb 1 rfl ?_
                    refine Z.yes (s := 109) (b := true) rfl rfl rfl ?_
                    refine Z.l rfl rfl (by rfl) (Z.keepS hs) (Z.Yd.pickT rfl rfl) ?_
                    refine Z.lb 1 rfl ?_
                    refine Z.yes (s := 114) (b := true) rfl ((by decide)) rfl ?_
                    refine Z.lb 1 rfl ?_
                    refine Z.l rfl rfl (by rfl) (Z.keepS hs) (Z.Yd.lenS rfl Try.underlying25) ?_
                    refine Z.lb 1 rfl ?_
                    refine Z.l rfl rfl (by rfl) (Z.keepS hs) (Z.Yd.lenS rfl Try.underlying53) ?_
                    refine Z.l rfl rfl (by rfl) (Z.keepS hs) (Z.Yd.add rfl rfl (fun hG => Z.wi64 (by first | omega | (have hG' := Z.gh rfl hG; simp at hG'; omega)))) ?_
                    refine Z.lb 1 rfl ?_
                    refine Z.yes (s := 114) (b := true) rfl rfl rfl ?_
                    refine Z.l rfl rfl (by rfl) (Z.keepS hs) (Z.Yd.pickT rfl rfl) ?_
                    refine Z.lb 1 rfl ?_
                    refine Z.yes (s := 122) (b := true) rfl ((by decide)) rfl ?_
                    refine Z.lb 1 rfl ?_
                    refine Z.yes (s := 122) (b := true) rfl rfl rfl ?_
                    refine Z.le rfl (by exact ⟨rfl, trivial⟩) ?_
                    refine Z.ZO.call rfl rfl (by rfl) rfl rfl Try.call28 rfl (nil_RAlign _) ?_
                    rintro v10_66 w10_66 ⟨rfl, hy⟩
                    replace hs := hs.call hy
                    clear hy
                    try simp only [List.cons_append, List.nil_append, List.append_nil] at hs
                    refine Z.le rfl (by exact ⟨rfl, trivial⟩) ?_
                    refine Z.ZO.call rfl rfl (by rfl) rfl rfl Try.call18 rfl (num_any _ _) ?_
                    rintro v10_67 w10_67 ⟨rfl, hy⟩
                    replace hs := hs.call hy
                    clear hy
                    try simp only [List.cons_append, List.nil_append, List.append_nil] at hs
                    refine Z.lb 1 rfl ?_
                    refine Z.yes (s := 122) (b := true) rfl rfl rfl ?_
                    refine Z.l rfl rfl (by rfl) (Z.keepS hs) (Z.Yd.pickT rfl rfl) ?_
                    refine Z.lb 1 rfl ?_
                    refine Z.yes (s := 128) (b := true) rfl ((by decide)) rfl ?_
                    refine Z.lb 1 rfl ?_
                    refine Z.yes (s := 128) (b := true) rfl rfl rfl ?_
                    refine Z.le rfl (by exact ⟨rfl, trivial⟩) ?_
                    refine Z.ZO.call rfl rfl (by rfl) rfl rfl Try.call23 rfl (nil_At _) ?_
                    rintro v10_72 w10_72 ⟨rfl, hy⟩
                    replace hs := hs.call hy
                    clear hy
                    try simp only [List.cons_append, List.nil_append, List.append_nil] at hs
                    refine Z.lb 1 rfl ?_
                    refine Z.yes (s := 128) (b := true) rfl rfl rfl ?_
                    refine Z.le rfl (by exact ⟨rfl, trivial⟩) ?_
                    refine Z.ZO.call rfl rfl (by rfl) rfl rfl Try.call24 rfl (nil_Left _) ?_
                    rintro v10_74 w10_74 ⟨rfl, hy⟩
                    replace hs := hs.call hy
                    clear hy
                    try simp only [List.cons_append, List.nil_append, List.append_nil] at hs
                    refine Z.l rfl rfl (by rfl) (Z.keepS hs) (Z.Yd.add rfl rfl (fun hG => Z.wi64 (by first | omega | (have hG' := Z.gh rfl hG; simp at hG'; omega)))) ?_
                    refine Z.lb 1 rfl ?_
                    refine Z.yes (s := 128) (b := true) rfl rfl rfl ?_
                    refine Z.l rfl rfl (by rfl) (Z.keepS hs) (Z.Yd.pickT rfl rfl) ?_
                    refine Z.lb 1 rfl ?_
                    refine Z.yes (s := 136) (b := true) rfl ((by decide)) rfl ?_
                    refine Z.lb 1 rfl ?_
                    refine Z.yes (s := 136) (b := true) rfl rfl rfl ?_
                    refine Z.le rfl (by exact ⟨rfl, trivial⟩) ?_
                    refine Z.ZO.call rfl rfl (by rfl) rfl rfl Try.call27 rfl (nil_End _) ?_
                    rintro v10_80 w10_80 ⟨rfl, hy⟩
                    replace hs := hs.call hy
                    clear hy
                    try simp only [List.cons_append, List.nil_append, List.append_nil] at hs
                    refine Z.le rfl (by exact ⟨rfl, trivial⟩) ?_
                    refine Z.ZO.call rfl rfl (by rfl) rfl rfl Try.call18 rfl (num_any _ _) ?_
                    rintro v10_81 w10_81 ⟨rfl, hy⟩
                    replace hs := hs.call hy
                    clear hy
                    try simp only [List.cons_append, List.nil_append, List.append_nil] at hs
                    refine Z.lb 1 rfl ?_
                    refine Z.yes (s := 136) (b := true) rfl rfl rfl ?_
                    refine Z.l rfl rfl (by rfl) (Z.keepS hs) (Z.Yd.pickT rfl rfl) ?_
                    refine Z.lb 1 rfl ?_
                    refine Z.yes (s := 142) (b := true) rfl ((by decide)) rfl ?_
                    refine Z.lb 2 rfl ?_
                    refine Z.yes (s := 142) (b := true) rfl rfl rfl ?_
                    refine Z.l rfl rfl (by rfl) (Z.keepS hs) (Z.Yd.pickT rfl rfl) ?_
                    refine Z.lb 1 rfl ?_
                    refine Z.yes (s := 146) (b := true) rfl ((by decide)) rfl ?_
                    refine Z.le rfl (by exact ⟨rfl, trivial⟩) ?_
                    refine Z.ZO.call rfl rfl (by rfl) rfl rfl Try.call24 rfl (rleft_any g7 _ _ [] 0 _ (hs.lend (L1 := RdL _ _ _ _ _)) (by decide) (by decide)) ?_
                    rintro v10_89 w10_89 ⟨hv, hz⟩
                    replace hs := hs.regain (L1 := RdL _ _ _ _ _) hz
                    rw [show (8 * (([] : List Int).length : Int)) - ((0 : Nat) : Int) = 0 from by decide] at hv
                    subst hv
                    refine Z.lb 1 rfl ?_
                    refine Z.yes (s := 146) (b := true) rfl rfl rfl ?_
                    refine Z.l rfl rfl (by rfl) (Z.keepS hs) (Z.Yd.pickT rfl rfl) ?_
                    refine Z.lb 1 rfl ?_
                    refine Z.yes (s := 150) (b := true) rfl ((by decide)) rfl ?_
                    refine Z.le rfl (by exact ⟨rfl, trivial⟩) ?_
                    refine Z.ZO.call rfl rfl (by rfl) rfl rfl Try.call27 rfl (rend_any g7 _ _ [] 0 _ (hs.lend (L1 := RdL _ _ _ _ _)) (by decide) (by decide) (by simp)) ?_
                    rintro v10_93 w10_93 ⟨hv, hz⟩
                    replace hs := hs.regain (L1 := RdL _ _ _ _ _) hz
                    rw [show endE [] 0 = 0 from by decide] at hv
                    subst hv
                    refine Z.lb 1 rfl ?_
                    refine Z.yes (s := 150) (b := true) rfl rfl rfl ?_
                    refine Z.l rfl rfl (by rfl) (Z.keepS hs) (Z.Yd.pickT rfl rfl) ?_
                    refine Z.lb 1 rfl ?_
                    refine Z.yes (s := 154) (b := true) rfl ((by decide)) rfl ?_
                    refine Z.le rfl (by exact ⟨rfl, trivial⟩) ?_
                    refine Z.ZO.call rfl rfl (by rfl) rfl rfl Try.call10 rfl (works_any _) ?_
                    rintro v10_97 w10_97 ⟨rfl, hy⟩
                    replace hs := hs.call hy
                    clear hy
                    try simp only [List.cons_append, List.nil_append, List.append_nil] at hs
                    refine Z.l rfl rfl (by rfl) (Z.keepS hs) (Z.Yd.pickT rfl rfl) ?_
                    refine Z.lb 1 rfl ?_
                    refine Z.lnil ?_
                    refine Z.only [4] rfl ?_
                    refine Z.nthen ?_
                    refine Z.ret ?_
                    -- ret#7
                    refine Z.out1 (by exact ⟨rfl, trivial⟩) ?_
                    first | exact ⟨_, rfl, rfl, hs⟩ | exact ⟨_, rfl, rfl, hs.sub (List.nil_sublist _)⟩
                    )
              )
        )

theorem rd_ints {W : World} {A : Option Addr} {n c : Nat} (z : Rd Try.prog W 48 [.slice A n c]) : ∃ l : List Int, l.length = n ∧ n ≤ maxLen ∧ Sl W A (ints .i64 l) := by
  have c1 : Try.prog.cellsOf 3 = 1 := by kernel_rfl
  obtain ⟨xs, h1, h2, h3, h4, h5⟩ := Rd.rows (fun x : Int => [Value.int .i64 x]) (fun _ => True) Try.underlying48 (by rw [c1]; decide)
    (fun r hr => by
      obtain ⟨x, hx, wx⟩ := Rd.int Try.underlying3 hr
      exact ⟨x, hx, trivial⟩) (fun x => c1.symm) z
  rw [flat_ints] at h5
  exact ⟨xs, h1, Nat.le_trans h2 h3, h5⟩
theorem rd_ask {W : World} {cs : List Value} (z : Rd Try.prog W 68 cs) : ∃ x : AskV, cs = encK x ∧ GoodK W x := by
  obtain ⟨hl, hf⟩ := Rd.field Try.underlying68 z
  have c3 : Try.prog.cellsOf 68 = 3 := by kernel_rfl
  have c1 : Try.prog.cellsOf 3 = 1 := by kernel_rfl
  have c2 : Try.prog.cellsOf 48 = 1 := by kernel_rfl
  rw [c3] at hl
  obtain ⟨a, b, c, rfl⟩ := list3 hl
  obtain ⟨x, hx, wx⟩ := Rd.int Try.underlying3 (hf 0 _ rfl)
  obtain ⟨y, hy, wy⟩ := Rd.int Try.underlying3 (hf 1 _ rfl)
  have zb := hf 2 _ rfl
  obtain ⟨A, n, c0, hb⟩ := Rd.sliceV Try.underlying48 zb
  rw [hb] at zb
  simp [c1, c2] at hx hy hb
  subst hx hy hb
  obtain ⟨ll, rfl, h2, h3⟩ := rd_ints zb
  exact ⟨⟨x, y, A, c0, ll⟩, rfl, wf_i64 wx, wf_i64 wy, h3, h2⟩
theorem fieldNone_rd (cs0 : Array Value) (cs1 : Array Value) (w : World) (z0 : Rd Try.prog w 36 (Value.agg cs0).cells.toList) (z1 : Rd Try.prog w 68 (Value.agg cs1).cells.toList) :
    Calls Try.prog 8 #[.agg cs0, .agg cs1] w fun e w' => e = .returned (.bool true) ∧ Below w.heap.size w w' := by
  obtain ⟨x, h1, h2⟩ := rd_act z0
  obtain ⟨y, h3, h4⟩ := rd_ask z1
  obtain rfl : cs0 = (encA x).toArray := Array.ext' h1
  obtain rfl : cs1 = (encK y).toArray := Array.ext' h3
  exact rowOf (fieldNone_walk x y w h2 h4)
end Go.Proofs.Ytggikablbdhniaa
