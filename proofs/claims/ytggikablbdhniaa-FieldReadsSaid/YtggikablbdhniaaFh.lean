/- The law's few and act. -/
import Derived.Test.YtggikablbdhniaaFg
namespace Go.Proofs.Ytggikablbdhniaa
open Go.RowKit
set_option linter.unusedSimpArgs false
set_option linter.unusedVariables false

structure ActV where
  what : Int
  v : Int
  n : Int
  bA : Option Addr
  bc : Nat
  bl : List Int
  fA : Option Addr
  fc : Nat
  fl : List (Int × Int)
def encA (x : ActV) : List Value := [.int .i64 x.what, .int .u64 x.v, .int .i64 x.n, .slice x.bA x.bl.length x.bc, .slice x.fA x.fl.length x.fc]
theorem encA_length (x : ActV) : (encA x).length = 5 := rfl
structure GoodA (W : World) (x : ActV) : Prop where
  what : -9223372036854775808 ≤ x.what ∧ x.what ≤ 9223372036854775807
  vn : GoodF (x.v, x.n)
  bl : ∀ b ∈ x.bl, 0 ≤ b ∧ b < 256
  fl : ∀ f ∈ x.fl, GoodF f
  bs : Sl W x.bA (ints .u8 x.bl)
  fs : Sl W x.fA (x.fl.flatMap encF)
  b63 : x.bl.length ≤ maxLen
  f63 : x.fl.length ≤ maxLen
/-- the bits after a call -/
def actB (bs : List Bool) (x : ActV) : List Bool :=
  if x.what = 0 then resA bs [(x.v, x.n)] else if x.what = 1 then bs ++ unb x.bl else if x.what = 2 then resA bs x.fl else pad bs
def fewA (l : List ActV) : Bool := decide (l.length ≤ 40) && l.all fun x => decide (x.bl.length ≤ 40) && decide (x.fl.length ≤ 20)
theorem actB_length {bs : List Bool} {x : ActV} (h1 : x.bl.length ≤ 40) (h2 : x.fl.length ≤ 20) : (actB bs x).length ≤ bs.length + 1280 := by
  unfold actB
  split
  · have := resA_length (bs := bs) (fs := [(x.v, x.n)]); simp at this; omega
  · split
    · simp [unb_length]; omega
    · split
      · have := resA_length (bs := bs) (fs := x.fl); omega
      · rw [pad_length]; omega

set_option maxRecDepth 100000 in
theorem few_any (A : Option Addr) (n c : Nat) (l : List ActV) (w : World) (hx : Sx w [] A (l.flatMap encA)) (hl : l.length = n) {W : World} (hg : ∀ x ∈ l, GoodA W x) :
    Calls Try.prog 9 #[.slice A n c] w (SX.Ret fun r w' => r = .bool (fewA l) ∧ SX.St w [] w' []) := by
  have hs := SX.St.start w
  have hfl : (l.flatMap encA).length = n * 5 := by rw [Z.flat_length (s := 5) encA_length, hl]
  refine Z.enter Try.func9 rfl Try.ntmps9 rfl rfl ?_
  refine Z.seq ?_
  refine Z.region ?_
  refine Z.lb 1 rfl ?_
  refine Z.lnil ?_
  refine Z.only [0] rfl ?_
  refine Z.nthen ?_
  refine Z.seq ?_
  refine Z.seq ?_
  refine Z.region ?_
  refine Z.lb 1 rfl ?_
  refine Z.l rfl rfl (by rfl) (Z.keepS hs) (Z.Yd.lenS rfl Try.underlying22) ?_
  refine Z.lb 1 rfl ?_
  refine Z.lnil ?_
  refine Z.only [0, 6] rfl ?_
  refine Z.nthen ?_
  refine Z.cond rfl (fun hc1 => ?_) (fun hc1 => ?_)
  · first
      | (exfalso; simp at hc1 <;> omega)
      | (
        (try simp at hc1)
        refine Z.seq ?_
        refine Z.region ?_
        refine Z.lb 1 rfl ?_
        refine Z.lnil ?_
        refine Z.only [2] rfl ?_
        refine Z.nthen ?_
        refine Z.ret ?_
        repeat (first | refine Z.rthen ?_ | refine Z.rblock ?_ | refine Z.rscope ?_)
        -- ret#0
        refine Z.out1 (by exact ⟨rfl, trivial⟩) ?_
        exact ⟨_, rfl, by unfold fewA; rw [decide_eq_false (by omega)]; rfl, hs⟩
        )
  · first
      | (exfalso; simp at hc1 <;> omega)
      | (
        (try simp at hc1)
        refine Z.skip ?_
        refine Z.nthen ?_
        refine Z.seq ?_
        refine Z.seq ?_
        refine Z.region ?_
        refine Z.lb 1 rfl ?_
        refine Z.lnil ?_
        refine Z.only [0, 3] rfl ?_
        refine Z.nthen ?_
        refine Z.block ?_
        refine Z.loopk (ι := Nat) [0] rfl (fun k => [(3, [], .int .i64 (k : Int))]) (fun k wr => k ≤ n ∧ (l.take k).all (fun x => decide (x.bl.length ≤ 40) && decide (x.fl.length ≤ 20)) = true ∧ SX.St w [] wr []) (fun k => n - k) 0 (by refine ⟨?_, trivial⟩ <;> (first | rfl | (refine Z.lookv rfl ?_; simp; done) | (refine Z.lookv rfl ?_; simp; omega))) ⟨by omega, rfl, hs⟩ ?_
        clear hs
        rintro k w1 ⟨hkn, hz, hs⟩
        refine Z.only [0, 3] rfl ?_
        refine Z.seq ?_
        refine Z.seq ?_
        refine Z.region ?_
        refine Z.lb 2 rfl ?_
        refine Z.l rfl rfl (by rfl) (Z.keepS hs) (Z.Yd.lenS rfl Try.underlying22) ?_
        refine Z.lb 1 rfl ?_
        refine Z.lnil ?_
        refine Z.only [0, 3, 10] rfl ?_
        refine Z.nthen ?_
        refine Z.cond rfl (fun hc4 => ?_) (fun hc4 => ?_)
        · first
            | (exfalso; simp at hc4 <;> omega)
            | (
              (try simp at hc4)
              obtain ⟨b, off, rfl, hx⟩ := hx.some (by omega)
              obtain ⟨x, hf⟩ : ∃ x, l[k]? = some x := ⟨_, List.getElem?_eq_getElem (by omega)⟩
              have hgx := hg _ (List.mem_of_getElem? hf)
              have h63 := hgx.b63
              have h64 := hgx.f63
              have hmx : maxLen = 9223372036854775807 := rfl
              refine Z.skip ?_
              refine Z.nthen ?_
              refine Z.seq ?_
              refine Z.block ?_
              refine Z.seq ?_
              refine Z.region ?_
              refine Z.lb 2 rfl ?_
              refine Z.l rfl rfl (by rfl) (Z.keepS hs) (Z.Yd.elem rfl rfl Try.underlying22 Try.sizeOf36 (fun hG => ⟨(by first | omega | (have hG' := Z.gh rfl hG; simp at hG'; omega)), (by first | omega | (have hG' := Z.gh rfl hG; simp at hG'; omega))⟩)) ?_
              refine Z.l rfl rfl (by rfl) (Z.keepS hs) (Z.Yd.fieldA (m := 3) rfl (by kernel_rfl)) ?_
              refine Z.l rfl rfl (by rfl) (Z.keepS hs) (Z.Yd.load rfl Try.isAgg25 (fun _ => Z.cellXq (j := 3) hx encA_length hf rfl)) ?_
              refine Z.l rfl rfl (by rfl) (Z.keepS hs) (Z.Yd.lenS rfl Try.underlying25) ?_
              refine Z.lb 4 rfl ?_
              refine Z.l rfl rfl (by rfl) (Z.keepS hs) (Z.Yd.elem rfl rfl Try.underlying22 Try.sizeOf36 (fun hG => ⟨(by first | omega | (have hG' := Z.gh rfl hG; simp at hG'; omega)), (by first | omega | (have hG' := Z.gh rfl hG; simp at hG'; omega))⟩)) ?_
              refine Z.l rfl rfl (by rfl) (Z.keepS hs) (Z.Yd.fieldA (m := 4) rfl (by kernel_rfl)) ?_
              refine Z.l rfl rfl (by rfl) (Z.keepS hs) (Z.Yd.load rfl Try.isAgg34 (fun _ => Z.cellXq (j := 4) hx encA_length hf rfl)) ?_
              refine Z.l rfl rfl (by rfl) (Z.keepS hs) (Z.Yd.lenS rfl Try.underlying34) ?_
              refine Z.lb 2 rfl ?_
              refine Z.lnil ?_
              refine Z.only [0, 3, 28] rfl ?_
              refine Z.nthen ?_
              refine Z.cond rfl (fun hc6 => ?_) (fun hc6 => ?_)
              · first
                  | (exfalso; simp at hc6 <;> omega)
                  | (
                    (try simp at hc6)
                    refine Z.seq ?_
                    refine Z.region ?_
                    refine Z.lb 1 rfl ?_
                    refine Z.lnil ?_
                    refine Z.only [2] rfl ?_
                    refine Z.nthen ?_
                    refine Z.ret ?_
                    repeat (first | refine Z.rthen ?_ | refine Z.rblock ?_ | refine Z.rscope ?_)
                    -- ret#1
                    refine Z.out1 (by exact ⟨rfl, trivial⟩) ?_
                    refine ⟨_, rfl, ?_, hs⟩
                    have hm := List.mem_of_getElem? hf
                    have : fewA l = false := by
                      cases hfa : fewA l with
                      | false => rfl
                      | true =>
                        unfold fewA at hfa
                        simp only [Bool.and_eq_true, List.all_eq_true, decide_eq_true_eq] at hfa
                        have := hfa.2 x hm
                        omega
                    rw [this]
                    )
              · first
                  | (exfalso; simp at hc6 <;> omega)
                  | (
                    (try simp at hc6)
                    refine Z.skip ?_
                    refine Z.nblock ?_
                    refine Z.nthen ?_
                    refine Z.region ?_
                    refine Z.lb 1 rfl ?_
                    refine Z.l rfl rfl (by rfl) (Z.keepS hs) (Z.Yd.add rfl rfl (fun hG => Z.wi64 (by first | omega | (have hG' := Z.gh rfl hG; simp at hG'; omega)))) ?_
                    refine Z.lb 1 rfl ?_
                    refine Z.lnil ?_
                    refine Z.only [0, 3] rfl ?_
                    refine Z.nthen ?_
                    refine Z.again (k + 1) (by refine ⟨?_, ?_, trivial⟩ <;> (first | rfl | (refine Z.lookv rfl ?_; simp; done) | (refine Z.lookv rfl ?_; simp; omega))) ⟨by omega, ?_, hs⟩ (by omega)
                    rw [← take_snoc hf, List.all_append, hz]
                    have h1 : x.bl.length ≤ 40 := by omega
                    have h2 : x.fl.length ≤ 20 := by omega
                    simp [h1, h2]
                    )
              )
        · first
            | (exfalso; simp at hc4 <;> omega)
            | (
              (try simp at hc4)
              refine Z.exit ?_
              refine Z.xthen ?_
              refine Z.xthen ?_
              refine Z.xblock ?_
              refine Z.nthen ?_
              refine Z.seq ?_
              refine Z.region ?_
              refine Z.lb 1 rfl ?_
              refine Z.lnil ?_
              refine Z.only [2] rfl ?_
              refine Z.nthen ?_
              refine Z.ret ?_
              -- ret#2
              refine Z.out1 (by exact ⟨rfl, trivial⟩) ?_
              refine ⟨_, rfl, ?_, hs⟩
              rw [List.take_of_length_le (by omega)] at hz
              unfold fewA
              rw [hz, decide_eq_true (by omega)]
              rfl
              )
        )

/-- a writer and its bits -/
def WbL (g T : Nat) (sv : Value) (sb : Value) (bs : List Bool) : List SX.Ent := WrL g T sv bs ++ [rowB sb bs]

set_option maxRecDepth 100000 in
theorem act_any (g T : Nat) (sv sb : Value) (bs : List Bool) (x : ActV) (w : World) (hs : SX.St w (SX.idsOf (WbL g T sv sb bs)) w (WbL g T sv sb bs)) (hb : bs.length ≤ 1000000) {W : World} (hg : GoodA W x)
    (hx1 : Sx w (SX.idsOf (WbL g T sv sb bs)) x.bA (ints .u8 x.bl)) (hx2 : Sx w (SX.idsOf (WbL g T sv sb bs)) x.fA (x.fl.flatMap encF)) (h40 : x.bl.length ≤ 40) (h20 : x.fl.length ≤ 20) :
    Calls Try.prog 11 #[.pointer (some ⟨g, 0, none⟩), sb, .agg (encA x).toArray] w (SX.Ret fun r w' => ∃ sv' sb', r = .tuple #[sb', .bool true] ∧
      SX.St w (SX.idsOf (WbL g T sv sb bs)) w' (WbL g T sv' sb' (actB bs x))) := by
  generalize hM : SX.idsOf (WbL g T sv sb bs) = M at *
  obtain ⟨what, v, n, bA, bc, bl, fA, fc, fl⟩ := x
  have hw := hg.what
  have hvn := hg.vn
  have hbl := hg.bl
  have hfl := hg.fl
  clear hg
  simp only at *
  simp only [encA]
  have hq := resA_one bs (v, n)
  have hfb := Z.flat_length (s := 2) encF_length (xs := fl)
  obtain ⟨A, c, rfl, -, -, -⟩ := SX.row_slv hs (j := 2) rfl
  simp only [WbL, WrL, List.cons_append, List.nil_append] at hs
  refine Z.enter Try.func11 rfl Try.ntmps11 rfl rfl ?_
  refine Z.seq ?_
  refine Z.region ?_
  refine Z.le rfl trivial ?_
  refine Z.ZO.box rfl rfl (by rfl) rfl rfl hs ?_
  clear hs; intro g5 w5 hs
  refine Z.lb 2 rfl ?_
  refine Z.lnil ?_
  refine Z.only [0, 1, 5] rfl ?_
  refine Z.nthen ?_
  refine Z.seq ?_
  refine Z.seq ?_
  refine Z.region ?_
  refine Z.l rfl rfl (by rfl) (Z.keepS hs) (Z.Yd.fieldA (m := 0) rfl (by kernel_rfl)) ?_
  refine Z.l rfl rfl (by rfl) (Z.keepS hs) (by first | exact Z.Yd.load rfl Try.isAgg3 (fun _ => Z.cellB (by first | ((repeat (first | exact List.mem_cons_self | refine List.mem_cons_of_mem _ ?_ | refine List.mem_append_right _ ?_)); done) | fail) rfl) | exact Z.Yd.load rfl Try.isAgg3 (fun _ => Z.cellO (by assumption) (by simp) (by assumption)) | fail "load 1.1") ?_
  refine Z.lnil ?_
  refine Z.only [0, 1, 5, 13] rfl ?_
  refine Z.nthen ?_
  refine Z.block ?_
  refine Z.seq ?_
  refine Z.region ?_
  refine Z.lb 2 rfl ?_
  refine Z.lnil ?_
  refine Z.only [0, 1, 5, 13, 14] rfl ?_
  refine Z.nthen ?_
  refine Z.cond rfl (fun hc2 => ?_) (fun hc2 => ?_)
  · first
      | (exfalso; simp at hc2 <;> omega)
      | (
        (try simp at hc2)
        refine Z.seq ?_
        refine Z.region ?_
        refine Z.lb 1 rfl ?_
        refine Z.l rfl rfl (by rfl) (Z.keepS hs) (Z.Yd.fieldA (m := 1) rfl (by kernel_rfl)) ?_
        refine Z.l rfl rfl (by rfl) (Z.keepS hs) (by first | exact Z.Yd.load rfl Try.isAgg33 (fun _ => Z.cellB (by first | ((repeat (first | exact List.mem_cons_self | refine List.mem_cons_of_mem _ ?_ | refine List.mem_append_right _ ?_)); done) | fail) rfl) | exact Z.Yd.load rfl Try.isAgg33 (fun _ => Z.cellO (by assumption) (by simp) (by assumption)) | fail "load 3.2") ?_
        refine Z.l rfl rfl (by rfl) (Z.keepS hs) (Z.Yd.fieldA (m := 2) rfl (by kernel_rfl)) ?_
        refine Z.l rfl rfl (by rfl) (Z.keepS hs) (by first | exact Z.Yd.load rfl Try.isAgg3 (fun _ => Z.cellB (by first | ((repeat (first | exact List.mem_cons_self | refine List.mem_cons_of_mem _ ?_ | refine List.mem_append_right _ ?_)); done) | fail) rfl) | exact Z.Yd.load rfl Try.isAgg3 (fun _ => Z.cellO (by assumption) (by simp) (by assumption)) | fail "load 3.4") ?_
        refine Z.le rfl trivial ?_
        refine Z.ZO.call rfl rfl (by rfl) rfl rfl Try.call34 rfl (refput_any A _ c bs v n _ (SX.row_slB hs (j := 3) rfl) rfl (by omega) hvn) ?_
        rintro v3_5 w3_5 ⟨sb2, rfl, hne, hy⟩
        replace hs := hs.call hy
        clear hy
        try simp only [List.cons_append, List.nil_append, List.append_nil] at hs
        replace hs : SX.St w M w3_5 (WrL g T sv bs ++ [rowB sb2 (resA bs [(v, n)]), SX.Ent.blk g5 36 #[.int .i64 what, .int .u64 v, .int .i64 n, .slice bA bl.length bc, .slice fA fl.length fc]]) := by
          rw [hq]
          by_cases h : chkF (v, n) = 0
          · rw [if_pos h] at hs ⊢
            exact hs.sel [2, 3, 0, 1] (by decide)
          · rw [if_neg h] at hs ⊢
            rw [hne h]
            exact hs.sel [1, 2, 3, 0] (by decide)
        refine Z.lb 5 rfl ?_
        refine Z.lnil ?_
        refine Z.only [0, 5, 8, 9] rfl ?_
        refine Z.nthen ?_
        refine Z.seq ?_
        refine Z.region ?_
        refine Z.lb 2 rfl ?_
        refine Z.l rfl rfl (by rfl) (Z.keepS hs) (Z.Yd.fieldA (m := 1) rfl (by kernel_rfl)) ?_
        refine Z.l rfl rfl (by rfl) (Z.keepS hs) (by first | exact Z.Yd.load rfl Try.isAgg33 (fun _ => Z.cellB (by first | ((repeat (first | exact List.mem_cons_self | refine List.mem_cons_of_mem _ ?_ | refine List.mem_append_right _ ?_)); done) | fail) rfl) | exact Z.Yd.load rfl Try.isAgg33 (fun _ => Z.cellO (by assumption) (by simp) (by assumption)) | fail "load 4.3") ?_
        refine Z.l rfl rfl (by rfl) (Z.keepS hs) (Z.Yd.fieldA (m := 2) rfl (by kernel_rfl)) ?_
        refine Z.l rfl rfl (by rfl) (Z.keepS hs) (by first | exact Z.Yd.load rfl Try.isAgg3 (fun _ => Z.cellB (by first | ((repeat (first | exact List.mem_cons_self | refine List.mem_cons_of_mem _ ?_ | refine List.mem_append_right _ ?_)); done) | fail) rfl) | exact Z.Yd.load rfl Try.isAgg3 (fun _ => Z.cellO (by assumption) (by simp) (by assumption)) | fail "load 4.5") ?_
        refine Z.le rfl trivial ?_
        refine Z.ZO.call rfl rfl (by rfl) rfl rfl Try.call32 rfl (wput_any g T sv bs v n _ hs.lend hb hvn) ?_
        rintro v4_6 w4_6 ⟨sv2, rfl, hz⟩
        replace hs := hs.regain hz
        refine Z.le rfl trivial ?_
        refine Z.ZO.call rfl rfl (by rfl) rfl rfl Try.call18 rfl (num_any _ _) ?_
        rintro v4_7 w4_7 ⟨rfl, hy⟩
        replace hs := hs.call hy
        clear hy
        try simp only [List.cons_append, List.nil_append, List.append_nil] at hs
        refine Z.lb 4 rfl ?_
        refine Z.lnil ?_
        refine Z.only [6, 7] rfl ?_
        refine Z.nthen ?_
        refine Z.ret ?_
        repeat (first | refine Z.rthen ?_ | refine Z.rblock ?_ | refine Z.rscope ?_)
        -- ret#0
        refine Z.out2 (by exact ⟨rfl, rfl, trivial⟩) ?_
        refine ⟨_, rfl, sv2, sb2, by simp, ?_⟩
        have e : actB bs ⟨what, v, n, bA, bc, bl, fA, fc, fl⟩ = resA bs [(v, n)] := by unfold actB; rw [if_pos hc2]
        rw [e]
        exact hs.sel [0, 1, 2] (by decide)
        )
  · first
      | (exfalso; simp at hc2 <;> omega)
      | (
        (try simp at hc2)
        refine Z.seq ?_
        refine Z.region ?_
        refine Z.lb 2 rfl ?_
        refine Z.lnil ?_
        refine Z.only [0, 1, 5, 13, 35] rfl ?_
        refine Z.nthen ?_
        refine Z.cond rfl (fun hc5 => ?_) (fun hc5 => ?_)
        · first
            | (exfalso; simp at hc5 <;> omega)
            | (
              (try simp at hc5)
              refine Z.seq ?_
              refine Z.drawL [SX.Ent.blk g5 36 #[.int .i64 what, .int .u64 v, .int .i64 n, .slice bA bl.length bc, .slice fA fl.length fc]] (fun _ => true) mixed hs ?_
              clear hs; intro wd6 hs
              refine Z.tb [0] (by kernel_rfl) rfl ⟨_, hs, by first | (simp; done) | exact fun e he => List.mem_append_right _ he⟩ rfl ?_
              refine Z.t 1 rfl rfl rfl (by rfl) (by kernel_rfl) ⟨_, hs, by first | (simp; done) | exact fun e he => List.mem_append_right _ he⟩ (Z.Yd.fieldA (m := 3) rfl (by kernel_rfl)) ?_
              refine Z.t 2 rfl rfl rfl (by rfl) (by kernel_rfl) ⟨_, hs, by first | (simp; done) | exact fun e he => List.mem_append_right _ he⟩ (by first | exact Z.Yd.load rfl Try.isAgg25 (fun _ => Z.cellB (by first | ((repeat (first | exact List.mem_cons_self | refine List.mem_cons_of_mem _ ?_ | refine List.mem_append_right _ ?_)); done) | fail) rfl) | exact Z.Yd.load rfl Try.isAgg25 (fun _ => Z.cellO (by assumption) (by simp) (by assumption)) | fail "load 6.2") ?_
              refine Z.tb [4] (by kernel_rfl) rfl ⟨_, hs, by first | (simp; done) | exact fun e he => List.mem_append_right _ he⟩ rfl ?_
              refine Z.t 5 rfl rfl rfl (by rfl) (by kernel_rfl) ⟨_, hs, by first | (simp; done) | exact fun e he => List.mem_append_right _ he⟩ (Z.Yd.fieldA (m := 3) rfl (by kernel_rfl)) ?_
              refine Z.t 6 rfl rfl rfl (by rfl) (by kernel_rfl) ⟨_, hs, by first | (simp; done) | exact fun e he => List.mem_append_right _ he⟩ (by first | exact Z.Yd.load rfl Try.isAgg25 (fun _ => Z.cellB (by first | ((repeat (first | exact List.mem_cons_self | refine List.mem_cons_of_mem _ ?_ | refine List.mem_append_right _ ?_)); done) | fail) rfl) | exact Z.Yd.load rfl Try.isAgg25 (fun _ => Z.cellO (by assumption) (by simp) (by assumption)) | fail "load 6.6") ?_
              refine Z.tn 3 rfl rfl (by kernel_rfl) rfl trivial ?_
              refine Z.ZO.call rfl rfl (by rfl) rfl rfl Try.call17 rfl (refputbytes A bA _ c _ bc bs bl _ (SX.row_slB hs (j := 3) rfl) rfl (by omega) (hx1.st hs) rfl (by omega) hbl) ?_
              rintro v6_3 w6_3 hy
              replace hs := hs.call hy
              clear hy
              try simp only [List.cons_append, List.nil_append, List.append_nil] at hs
              refine Z.tk (Dn := fun _ => true) (i := 3) (fun _ => ⟨_, hs, by first | (simp; done) | exact fun e he => List.mem_append_right _ he⟩) ?_
              replace hs : SX.St w M w6_3 (WrL g T sv bs ++ [rowB v6_3 (bs ++ unb bl), SX.Ent.blk g5 36 #[.int .i64 what, .int .u64 v, .int .i64 n, .slice bA bl.length bc, .slice fA fl.length fc]]) := by
                have e : (bs ++ unb bl).length = bs.length + bl.length * 8 := by rw [List.length_append, unb_length]
                unfold rowB
                rw [e]
                exact hs.sel [2, 3, 0, 1] (by decide)
              refine Z.tn 7 rfl rfl (by kernel_rfl) rfl trivial ?_
              refine Z.ZO.call rfl rfl (by rfl) rfl rfl Try.call16 rfl (wputbytes_any g T sv bs bA _ bc bl _ hs.lend (hx1.lent hs) rfl (by omega) hb hbl) ?_
              rintro v6_7 w6_7 ⟨sv2, rfl, hz⟩
              replace hs := hs.regain hz
              refine Z.tk (Dn := fun _ => true) (i := 7) (fun _ => ⟨_, hs, by first | (simp; done) | exact fun e he => List.mem_append_right _ he⟩) ?_
              refine Z.tn 8 rfl rfl (by kernel_rfl) rfl trivial ?_
              refine Z.ZO.call rfl rfl (by rfl) rfl rfl Try.call18 rfl (num_any _ _) ?_
              rintro v6_8 w6_8 ⟨rfl, hy⟩
              replace hs := hs.call hy
              clear hy
              try simp only [List.cons_append, List.nil_append, List.append_nil] at hs
              refine Z.tk (Dn := fun _ => true) (i := 8) (fun _ => ⟨_, hs, by first | (simp; done) | exact fun e he => List.mem_append_right _ he⟩) ?_
              refine Z.tb [9, 10, 11] (by kernel_rfl) rfl ⟨_, hs, by first | (simp; done) | exact fun e he => List.mem_append_right _ he⟩ rfl ?_
              refine Z.td (by rfl) (by kernel_rfl) ?_
              refine Z.only [6, 7] rfl ?_
              refine Z.nthen ?_
              refine Z.ret ?_
              repeat (first | refine Z.rthen ?_ | refine Z.rblock ?_ | refine Z.rscope ?_)
              -- ret#1
              refine Z.out2 (by exact ⟨rfl, rfl, trivial⟩) ?_
              refine ⟨_, rfl, sv2, v6_3, by simp, ?_⟩
              have e : actB bs ⟨what, v, n, bA, bc, bl, fA, fc, fl⟩ = bs ++ unb bl := by unfold actB; rw [if_neg hc2, if_pos hc5]
              rw [e]
              exact hs.sel [0, 1, 2] (by decide)
              )
        · first
            | (exfalso; simp at hc5 <;> omega)
            | (
              (try simp at hc5)
              refine Z.seq ?_
              refine Z.region ?_
              refine Z.lb 2 rfl ?_
              refine Z.lnil ?_
              refine Z.only [0, 1, 5, 47] rfl ?_
              refine Z.nthen ?_
              refine Z.cond rfl (fun hc7 => ?_) (fun hc7 => ?_)
              · first
                  | (exfalso; simp at hc7 <;> omega)
                  | (
                    (try simp at hc7)
                    refine Z.seq ?_
                    refine Z.region ?_
                    refine Z.lb 1 rfl ?_
                    refine Z.l rfl rfl (by rfl) (Z.keepS hs) (Z.Yd.fieldA (m := 4) rfl (by kernel_rfl)) ?_
                    refine Z.l rfl rfl (by rfl) (Z.keepS hs) (by first | exact Z.Yd.load rfl Try.isAgg34 (fun _ => Z.cellB (by first | ((repeat (first | exact List.mem_cons_self | refine List.mem_cons_of_mem _ ?_ | refine List.mem_append_right _ ?_)); done) | fail) rfl) | exact Z.Yd.load rfl Try.isAgg34 (fun _ => Z.cellO (by assumption) (by simp) (by assumption)) | fail "load 8.2") ?_
                    replace hs : SX.St w M _ ([rowB (.slice A bs.length c) bs] ++ (SX.Ent.blk g5 36 #[.int .i64 what, .int .u64 v, .int .i64 n, .slice bA bl.length bc, .slice fA fl.length fc] :: WrL g T sv bs)) := hs.sel [3, 0, 1, 2] (by decide)
                    refine Z.le rfl trivial ?_
                    refine Z.ZO.call rfl rfl (by rfl) rfl rfl Try.call35 rfl (refputall _ bs fA _ fc fl _ hs.lend (hx2.lent hs) rfl (by omega) hb hfl) ?_
                    rintro v8_3 w8_3 ⟨sb2, rfl, hz⟩
                    replace hs := hs.regain hz
                    refine Z.lb 5 rfl ?_
                    refine Z.lnil ?_
                    refine Z.only [0, 5, 10, 11] rfl ?_
                    refine Z.nthen ?_
                    refine Z.seq ?_
                    refine Z.region ?_
                    refine Z.lb 2 rfl ?_
                    refine Z.l rfl rfl (by rfl) (Z.keepS hs) (Z.Yd.fieldA (m := 4) rfl (by kernel_rfl)) ?_
                    refine Z.l rfl rfl (by rfl) (Z.keepS hs) (by first | exact Z.Yd.load rfl Try.isAgg34 (fun _ => Z.cellB (by first | ((repeat (first | exact List.mem_cons_self | refine List.mem_cons_of_mem _ ?_ | refine List.mem_append_right _ ?_)); done) | fail) rfl) | exact Z.Yd.load rfl Try.isAgg34 (fun _ => Z.cellO (by assumption) (by simp) (by assumption)) | fail "load 9.3") ?_
                    replace hs : SX.St w M _ (WrL g T sv bs ++ [rowB sb2 (resA bs fl), SX.Ent.blk g5 36 #[.int .i64 what, .int .u64 v, .int .i64 n, .slice bA bl.length bc, .slice fA fl.length fc]]) := hs.sel [2, 3, 0, 1] (by decide)
                    refine Z.le rfl trivial ?_
                    refine Z.ZO.call rfl rfl (by rfl) rfl rfl Try.call20 rfl (putAll_any g T sv bs fA _ fc fl _ hs.lend (hx2.lent hs) rfl (by omega) hb hfl) ?_
                    rintro v9_4 w9_4 ⟨sv2, rfl, hz⟩
                    replace hs := hs.regain hz
                    refine Z.le rfl trivial ?_
                    refine Z.ZO.call rfl rfl (by rfl) rfl rfl Try.call18 rfl (num_any _ _) ?_
                    rintro v9_5 w9_5 ⟨rfl, hy⟩
                    replace hs := hs.call hy
                    clear hy
                    try simp only [List.cons_append, List.nil_append, List.append_nil] at hs
                    refine Z.lb 4 rfl ?_
                    refine Z.lnil ?_
                    refine Z.only [6, 7] rfl ?_
                    refine Z.nthen ?_
                    refine Z.ret ?_
                    repeat (first | refine Z.rthen ?_ | refine Z.rblock ?_ | refine Z.rscope ?_)
                    -- ret#2
                    refine Z.out2 (by exact ⟨rfl, rfl, trivial⟩) ?_
                    refine ⟨_, rfl, sv2, sb2, by simp, ?_⟩
                    have e : actB bs ⟨what, v, n, bA, bc, bl, fA, fc, fl⟩ = resA bs fl := by unfold actB; rw [if_neg hc2, if_neg hc5, if_pos hc7]
                    rw [e]
                    exact hs.sel [0, 1, 2] (by decide)
                    )
              · first
                  | (exfalso; simp at hc7 <;> omega)
                  | (
                    (try simp at hc7)
                    refine Z.skip ?_
                    refine Z.nblock ?_
                    refine Z.nthen ?_
                    refine Z.seq ?_
                    refine Z.region ?_
                    refine Z.lb 1 rfl ?_
                    refine Z.le rfl trivial ?_
                    refine Z.ZO.call rfl rfl (by rfl) rfl rfl Try.call36 rfl (refalign A _ c bs _ (SX.row_slB hs (j := 3) rfl) rfl (by omega)) ?_
                    rintro v10_1 w10_1 hy
                    replace hs := hs.call hy
                    clear hy
                    try simp only [List.cons_append, List.nil_append, List.append_nil] at hs
                    refine Z.lb 1 rfl ?_
                    replace hs : SX.St w M w10_1 (WrL g T sv bs ++ [rowB v10_1 (pad bs), SX.Ent.blk g5 36 #[.int .i64 what, .int .u64 v, .int .i64 n, .slice bA bl.length bc, .slice fA fl.length fc]]) := hs.sel [2, 3, 0, 1] (by decide)
                    refine Z.le rfl trivial ?_
                    refine Z.ZO.call rfl rfl (by rfl) rfl rfl Try.call33 rfl (walign_any g T sv bs _ hs.lend hb) ?_
                    rintro v10_3 w10_3 ⟨rfl, hz⟩
                    replace hs := hs.regain hz
                    refine Z.le rfl trivial ?_
                    refine Z.ZO.call rfl rfl (by rfl) rfl rfl Try.call18 rfl (num_any _ _) ?_
                    rintro v10_4 w10_4 ⟨rfl, hy⟩
                    replace hs := hs.call hy
                    clear hy
                    try simp only [List.cons_append, List.nil_append, List.append_nil] at hs
                    refine Z.lb 3 rfl ?_
                    refine Z.lnil ?_
                    refine Z.only [6, 7] rfl ?_
                    refine Z.nthen ?_
                    refine Z.ret ?_
                    -- ret#3
                    refine Z.out2 (by exact ⟨rfl, rfl, trivial⟩) ?_
                    refine ⟨_, rfl, sv, v10_1, by simp, ?_⟩
                    have e : actB bs ⟨what, v, n, bA, bc, bl, fA, fc, fl⟩ = pad bs := by unfold actB; rw [if_neg hc2, if_neg hc5, if_neg hc7]
                    rw [e]
                    exact hs.sel [0, 1, 2] (by decide)
                    )
              )
        )
end Go.Proofs.Ytggikablbdhniaa
