/- Control elements: decoding. -/
import Derived.Test.YteabcdmgklhijaaCa
import Derived.Test.YteabcdmgklhijaaCn
namespace Go.Proofs.Yteabcdmgklhijaa
open Go.RowKit
set_option linter.unusedSimpArgs false
set_option linter.unusedVariables false
--newlaws

def Byts (l : List Int) : Prop := ∀ x ∈ l, 0 ≤ x ∧ x < 256
/-- the error of an element that should have LCID want and n bytes -/
def opE (lc : Int) (l : List Int) (want : Int) (n : Int) : Int := if lc ≠ want then 2 else if (l.length : Int) < n then 5 else if (l.length : Int) > n then 4 else 0
theorem Sl.none0 {w : World} {A : Option Addr} {l : List Int} {k : IntKind} {n : Nat} (h : Sl w A (ints k l)) (hl : l.length = n) (hA : A = none) : n = 0 := by
  cases n with
  | zero => rfl
  | succ n =>
    obtain ⟨b, off, e, -⟩ := h (by simp [ints, hl])
    rw [hA] at e
    cases e
theorem opened_ok (lc want n : Int) (A : Option Addr) (m c : Nat) (l : List Int) (w : World) (hx : Sx w [] A (ints .u8 l)) (hl : l.length = m) (hm : m ≤ 1000000) (h : opE lc l want n = 0) :
    Calls Try.prog 46 #[.agg #[.int .i64 lc, .slice A m c], .int .i64 want, .int .i64 n] w (SX.Ret fun v w' => ∃ g sv, v = .agg #[.pointer (some ⟨g, 0, none⟩)] ∧ SX.St w [] w' (RdL g 99 sv l 0)) := by
  have hs := SX.St.start w
  have hz := Sl.none0 hx.sl hl
  unfold opE at h
  split at h
  · simp at h
  split at h
  · simp at h
  split at h
  · simp at h
  refine Z.enter Try.func46 rfl Try.ntmps46 rfl rfl ?_
  refine Z.seq ?_
  refine Z.region ?_
  refine Z.le rfl trivial ?_
  refine Z.ZO.box rfl rfl (by rfl) rfl rfl hs ?_
  clear hs; intro g3 w3 hs
  refine Z.le rfl trivial ?_
  refine Z.ZO.alloc rfl rfl (by rfl) Try.zeroValue79 rfl hs ?_
  clear hs; intro g6 w6 hs
  refine Z.lnil ?_
  refine Z.only [1, 2, 3, 6] rfl ?_
  refine Z.nthen ?_
  refine Z.seq ?_
  refine Z.region ?_
  refine Z.l rfl rfl (by rfl) (Z.keepS hs) (Z.Yd.fieldA (m := 0) rfl (by kernel_rfl)) ?_
  refine Z.l rfl rfl (by rfl) (Z.keepS hs) (by first | exact Z.Yd.load rfl Try.isAgg3 (fun _ => Z.cellB (by first | ((repeat (first | exact List.mem_cons_self | refine List.mem_cons_of_mem _ ?_ | refine List.mem_append_right _ ?_)); done) | fail) rfl) | exact Z.Yd.load rfl Try.isAgg3 (fun _ => Z.cellO (by assumption) (by simp) (by assumption)) | fail "load 1.1") ?_
  refine Z.lb 2 rfl ?_
  refine Z.le rfl trivial ?_
  refine Z.ZO.call rfl rfl (by rfl) rfl rfl Try.call35 rfl (must_ok _ 2 _ (by simp; omega)) ?_
  rintro v1_4 w1_4 ⟨rfl, hy⟩
  replace hs := hs.call hy
  clear hy
  try simp only [List.cons_append, List.nil_append, List.append_nil] at hs
  refine Z.lnil ?_
  refine Z.only [2, 3, 6] rfl ?_
  refine Z.nthen ?_
  refine Z.seq ?_
  refine Z.region ?_
  refine Z.l rfl rfl (by rfl) (Z.keepS hs) (Z.Yd.fieldA (m := 1) rfl (by kernel_rfl)) ?_
  refine Z.l rfl rfl (by rfl) (Z.keepS hs) (by first | exact Z.Yd.load rfl Try.isAgg29 (fun _ => Z.cellB (by first | ((repeat (first | exact List.mem_cons_self | refine List.mem_cons_of_mem _ ?_ | refine List.mem_append_right _ ?_)); done) | fail) rfl) | exact Z.Yd.load rfl Try.isAgg29 (fun _ => Z.cellO (by assumption) (by simp) (by assumption)) | fail "load 2.1") ?_
  refine Z.l rfl rfl (by rfl) (Z.keepS hs) (Z.Yd.lenS rfl Try.underlying29) ?_
  refine Z.lb 2 rfl ?_
  refine Z.le rfl trivial ?_
  refine Z.ZO.call rfl rfl (by rfl) rfl rfl Try.call35 rfl (must_ok _ 5 _ (by simp; omega)) ?_
  rintro v2_5 w2_5 ⟨rfl, hy⟩
  replace hs := hs.call hy
  clear hy
  try simp only [List.cons_append, List.nil_append, List.append_nil] at hs
  refine Z.lnil ?_
  refine Z.only [2, 3, 6] rfl ?_
  refine Z.nthen ?_
  refine Z.seq ?_
  refine Z.region ?_
  refine Z.l rfl rfl (by rfl) (Z.keepS hs) (Z.Yd.fieldA (m := 1) rfl (by kernel_rfl)) ?_
  refine Z.l rfl rfl (by rfl) (Z.keepS hs) (by first | exact Z.Yd.load rfl Try.isAgg29 (fun _ => Z.cellB (by first | ((repeat (first | exact List.mem_cons_self | refine List.mem_cons_of_mem _ ?_ | refine List.mem_append_right _ ?_)); done) | fail) rfl) | exact Z.Yd.load rfl Try.isAgg29 (fun _ => Z.cellO (by assumption) (by simp) (by assumption)) | fail "load 3.1") ?_
  refine Z.l rfl rfl (by rfl) (Z.keepS hs) (Z.Yd.lenS rfl Try.underlying29) ?_
  refine Z.lb 2 rfl ?_
  refine Z.le rfl trivial ?_
  refine Z.ZO.call rfl rfl (by rfl) rfl rfl Try.call35 rfl (must_ok _ 4 _ (by simp; omega)) ?_
  rintro v3_5 w3_5 ⟨rfl, hy⟩
  replace hs := hs.call hy
  clear hy
  try simp only [List.cons_append, List.nil_append, List.append_nil] at hs
  refine Z.lnil ?_
  refine Z.only [3, 6] rfl ?_
  refine Z.nthen ?_
  refine Z.seq ?_
  refine Z.region ?_
  refine Z.l rfl rfl (by rfl) (Z.keepS hs) (Z.Yd.fieldA (m := 1) rfl (by kernel_rfl)) ?_
  refine Z.l rfl rfl (by rfl) (Z.keepS hs) (by first | exact Z.Yd.load rfl Try.isAgg29 (fun _ => Z.cellB (by first | ((repeat (first | exact List.mem_cons_self | refine List.mem_cons_of_mem _ ?_ | refine List.mem_append_right _ ?_)); done) | fail) rfl) | exact Z.Yd.load rfl Try.isAgg29 (fun _ => Z.cellO (by assumption) (by simp) (by assumption)) | fail "load 4.1") ?_
  refine Z.le rfl trivial ?_
  refine Z.ZO.call rfl rfl (by rfl) rfl rfl Try.call57 rfl (newreader_any A m c l _ ((hx.st hs).sx) hl (by omega) hz) ?_
  rintro v4_2 w4_2 ⟨g, sv, rfl, hy⟩
  replace hs := hs.call hy
  clear hy
  try simp only [List.cons_append, List.nil_append, List.append_nil] at hs
  refine Z.l rfl rfl (by rfl) (Z.keepS hs) (Z.Yd.buildL [(0, 1)] [.pointer none] rfl rfl (by intro w; kernel_rfl)) ?_
  simp only [RdL, List.cons_append, List.nil_append] at hs
  refine Z.le rfl trivial ?_
  refine Z.ZO.storeA rfl rfl hs rfl rfl (by kernel_rfl) (by simp [Value.oneCell']) (by first | exact SX.at0 | exact SX.at1 | exact SX.at2 | exact SX.at3 | exact SX.at4 | exact SX.at5 | exact Z.at6 | exact Z.at7 | exact Z.at8 | exact Z.at9 | exact Z.at10 | exact Z.at11 | exact Z.at12) (by rfl) ?_
  clear hs; intro ws hs
  simp only [Nat.zero_add, Nat.add_zero, Nat.reduceAdd, Int.reduceToNat, Nat.reduceMul, List.set_cons_zero, List.set_cons_succ, List.setIfInBounds_toArray] at hs
  refine Z.lnil ?_
  refine Z.only [6] rfl ?_
  refine Z.nthen ?_
  refine Z.ret ?_
  -- ret#0
  refine Z.out1 (by exact ⟨⟨_, rfl, Z.rvcA hs Try.isAgg79 (by first | ((repeat (first | exact List.mem_cons_self | refine List.mem_cons_of_mem _ ?_ | refine List.mem_append_right _ ?_)); done) | fail) (by exact Try.sizeOf79)⟩, trivial⟩) ?_
  exact ⟨_, rfl, g, sv, rfl, hs.sel [0, 1] (by decide)⟩
theorem opened_bad (lc want n : Int) (A : Option Addr) (m c : Nat) (l : List Int) (w : World) (hl : l.length = m) (hm : m ≤ 1000000) (h : opE lc l want n ≠ 0) :
    Calls Try.prog 46 #[.agg #[.int .i64 lc, .slice A m c], .int .i64 want, .int .i64 n] w (PanE (opE lc l want n) fun w' => SX.St w [] w' []) := by
  have hs := SX.St.start w
  by_cases h1 : lc = want
  · by_cases h2 : (l.length : Int) < n
    · have e : opE lc l want n = 5 := by unfold opE; rw [if_neg (by omega), if_pos h2]
      rw [e]
      refine Z.enter Try.func46 rfl Try.ntmps46 rfl rfl ?_
      refine Z.seq ?_
      refine Z.region ?_
      refine Z.le rfl trivial ?_
      refine Z.ZO.box rfl rfl (by rfl) rfl rfl hs ?_
      clear hs; intro g3 w3 hs
      refine Z.le rfl trivial ?_
      refine Z.ZO.alloc rfl rfl (by rfl) Try.zeroValue79 rfl hs ?_
      clear hs; intro g6 w6 hs
      refine Z.lnil ?_
      refine Z.only [1, 2, 3, 6] rfl ?_
      refine Z.nthen ?_
      refine Z.seq ?_
      refine Z.region ?_
      refine Z.l rfl rfl (by rfl) (Z.keepS hs) (Z.Yd.fieldA (m := 0) rfl (by kernel_rfl)) ?_
      refine Z.l rfl rfl (by rfl) (Z.keepS hs) (by first | exact Z.Yd.load rfl Try.isAgg3 (fun _ => Z.cellB (by first | ((repeat (first | exact List.mem_cons_self | refine List.mem_cons_of_mem _ ?_ | refine List.mem_append_right _ ?_)); done) | fail) rfl) | exact Z.Yd.load rfl Try.isAgg3 (fun _ => Z.cellO (by assumption) (by simp) (by assumption)) | fail "load 1.1") ?_
      refine Z.lb 2 rfl ?_
      refine Z.le rfl trivial ?_
      refine Z.ZO.call rfl rfl (by rfl) rfl rfl Try.call35 rfl (must_ok _ 2 _ (by simp; omega)) ?_
      rintro v1_4 w1_4 ⟨rfl, hy⟩
      replace hs := hs.call hy
      clear hy
      try simp only [List.cons_append, List.nil_append, List.append_nil] at hs
      refine Z.lnil ?_
      refine Z.only [2, 3, 6] rfl ?_
      refine Z.nthen ?_
      refine Z.seq ?_
      refine Z.region ?_
      refine Z.l rfl rfl (by rfl) (Z.keepS hs) (Z.Yd.fieldA (m := 1) rfl (by kernel_rfl)) ?_
      refine Z.l rfl rfl (by rfl) (Z.keepS hs) (by first | exact Z.Yd.load rfl Try.isAgg29 (fun _ => Z.cellB (by first | ((repeat (first | exact List.mem_cons_self | refine List.mem_cons_of_mem _ ?_ | refine List.mem_append_right _ ?_)); done) | fail) rfl) | exact Z.Yd.load rfl Try.isAgg29 (fun _ => Z.cellO (by assumption) (by simp) (by assumption)) | fail "load 2.1") ?_
      refine Z.l rfl rfl (by rfl) (Z.keepS hs) (Z.Yd.lenS rfl Try.underlying29) ?_
      refine Z.lb 2 rfl ?_
      refine Z.le rfl trivial ?_
      refine Z.ZO.callP rfl rfl rfl Try.call35 rfl (must_bad _ 5 _ (by simp; omega)) ?_
      rintro c2_5 w2_5 ⟨rfl, hy⟩
      replace hs := hs.call hy
      clear hy
      try simp only [List.cons_append, List.nil_append, List.append_nil] at hs
      repeat (first | refine Z.pthen ?_ | refine Z.pblock ?_ | refine Z.pscope ?_)
      -- ret#0
      refine Z.outp ?_
      exact ⟨_, rfl, rfl, hs.sub (List.nil_sublist _)⟩
    · by_cases h3 : (l.length : Int) > n
      · have e : opE lc l want n = 4 := by unfold opE; rw [if_neg (by omega), if_neg h2, if_pos h3]
        rw [e]
        refine Z.enter Try.func46 rfl Try.ntmps46 rfl rfl ?_
        refine Z.seq ?_
        refine Z.region ?_
        refine Z.le rfl trivial ?_
        refine Z.ZO.box rfl rfl (by rfl) rfl rfl hs ?_
        clear hs; intro g3 w3 hs
        refine Z.le rfl trivial ?_
        refine Z.ZO.alloc rfl rfl (by rfl) Try.zeroValue79 rfl hs ?_
        clear hs; intro g6 w6 hs
        refine Z.lnil ?_
        refine Z.only [1, 2, 3, 6] rfl ?_
        refine Z.nthen ?_
        refine Z.seq ?_
        refine Z.region ?_
        refine Z.l rfl rfl (by rfl) (Z.keepS hs) (Z.Yd.fieldA (m := 0) rfl (by kernel_rfl)) ?_
        refine Z.l rfl rfl (by rfl) (Z.keepS hs) (by first | exact Z.Yd.load rfl Try.isAgg3 (fun _ => Z.cellB (by first | ((repeat (first | exact List.mem_cons_self | refine List.mem_cons_of_mem _ ?_ | refine List.mem_append_right _ ?_)); done) | fail) rfl) | exact Z.Yd.load rfl Try.isAgg3 (fun _ => Z.cellO (by assumption) (by simp) (by assumption)) | fail "load 1.1") ?_
        refine Z.lb 2 rfl ?_
        refine Z.le rfl trivial ?_
        refine Z.ZO.call rfl rfl (by rfl) rfl rfl Try.call35 rfl (must_ok _ 2 _ (by simp; omega)) ?_
        rintro v1_4 w1_4 ⟨rfl, hy⟩
        replace hs := hs.call hy
        clear hy
        try simp only [List.cons_append, List.nil_append, List.append_nil] at hs
        refine Z.lnil ?_
        refine Z.only [2, 3, 6] rfl ?_
        refine Z.nthen ?_
        refine Z.seq ?_
        refine Z.region ?_
        refine Z.l rfl rfl (by rfl) (Z.keepS hs) (Z.Yd.fieldA (m := 1) rfl (by kernel_rfl)) ?_
        refine Z.l rfl rfl (by rfl) (Z.keepS hs) (by first | exact Z.Yd.load rfl Try.isAgg29 (fun _ => Z.cellB (by first | ((repeat (first | exact List.mem_cons_self | refine List.mem_cons_of_mem _ ?_ | refine List.mem_append_right _ ?_)); done) | fail) rfl) | exact Z.Yd.load rfl Try.isAgg29 (fun _ => Z.cellO (by assumption) (by simp) (by assumption)) | fail "load 2.1") ?_
        refine Z.l rfl rfl (by rfl) (Z.keepS hs) (Z.Yd.lenS rfl Try.underlying29) ?_
        refine Z.lb 2 rfl ?_
        refine Z.le rfl trivial ?_
        refine Z.ZO.call rfl rfl (by rfl) rfl rfl Try.call35 rfl (must_ok _ 5 _ (by simp; omega)) ?_
        rintro v2_5 w2_5 ⟨rfl, hy⟩
        replace hs := hs.call hy
        clear hy
        try simp only [List.cons_append, List.nil_append, List.append_nil] at hs
        refine Z.lnil ?_
        refine Z.only [2, 3, 6] rfl ?_
        refine Z.nthen ?_
        refine Z.seq ?_
        refine Z.region ?_
        refine Z.l rfl rfl (by rfl) (Z.keepS hs) (Z.Yd.fieldA (m := 1) rfl (by kernel_rfl)) ?_
        refine Z.l rfl rfl (by rfl) (Z.keepS hs) (by first | exact Z.Yd.load rfl Try.isAgg29 (fun _ => Z.cellB (by first | ((repeat (first | exact List.mem_cons_self | refine List.mem_cons_of_mem _ ?_ | refine List.mem_append_right _ ?_)); done) | fail) rfl) | exact Z.Yd.load rfl Try.isAgg29 (fun _ => Z.cellO (by assumption) (by simp) (by assumption)) | fail "load 3.1") ?_
        refine Z.l rfl rfl (by rfl) (Z.keepS hs) (Z.Yd.lenS rfl Try.underlying29) ?_
        refine Z.lb 2 rfl ?_
        refine Z.le rfl trivial ?_
        refine Z.ZO.callP rfl rfl rfl Try.call35 rfl (must_bad _ 4 _ (by simp; omega)) ?_
        rintro c3_5 w3_5 ⟨rfl, hy⟩
        replace hs := hs.call hy
        clear hy
        try simp only [List.cons_append, List.nil_append, List.append_nil] at hs
        repeat (first | refine Z.pthen ?_ | refine Z.pblock ?_ | refine Z.pscope ?_)
        -- ret#0
        refine Z.outp ?_
        exact ⟨_, rfl, rfl, hs.sub (List.nil_sublist _)⟩
      · exact absurd (by unfold opE; rw [if_neg (by omega), if_neg h2, if_neg h3]) h
  · have e : opE lc l want n = 2 := by unfold opE; rw [if_pos h1]
    rw [e]
    refine Z.enter Try.func46 rfl Try.ntmps46 rfl rfl ?_
    refine Z.seq ?_
    refine Z.region ?_
    refine Z.le rfl trivial ?_
    refine Z.ZO.box rfl rfl (by rfl) rfl rfl hs ?_
    clear hs; intro g3 w3 hs
    refine Z.le rfl trivial ?_
    refine Z.ZO.alloc rfl rfl (by rfl) Try.zeroValue79 rfl hs ?_
    clear hs; intro g6 w6 hs
    refine Z.lnil ?_
    refine Z.only [1, 2, 3, 6] rfl ?_
    refine Z.nthen ?_
    refine Z.seq ?_
    refine Z.region ?_
    refine Z.l rfl rfl (by rfl) (Z.keepS hs) (Z.Yd.fieldA (m := 0) rfl (by kernel_rfl)) ?_
    refine Z.l rfl rfl (by rfl) (Z.keepS hs) (by first | exact Z.Yd.load rfl Try.isAgg3 (fun _ => Z.cellB (by first | ((repeat (first | exact List.mem_cons_self | refine List.mem_cons_of_mem _ ?_ | refine List.mem_append_right _ ?_)); done) | fail) rfl) | exact Z.Yd.load rfl Try.isAgg3 (fun _ => Z.cellO (by assumption) (by simp) (by assumption)) | fail "load 1.1") ?_
    refine Z.lb 2 rfl ?_
    refine Z.le rfl trivial ?_
    refine Z.ZO.callP rfl rfl rfl Try.call35 rfl (must_bad _ 2 _ (by simp; omega)) ?_
    rintro c1_4 w1_4 ⟨rfl, hy⟩
    replace hs := hs.call hy
    clear hy
    try simp only [List.cons_append, List.nil_append, List.append_nil] at hs
    repeat (first | refine Z.pthen ?_ | refine Z.pblock ?_ | refine Z.pscope ?_)
    -- ret#0
    refine Z.outp ?_
    exact ⟨_, rfl, rfl, hs.sub (List.nil_sublist _)⟩
/-- a field is read -/
theorem dbits_ok (g T : Nat) (sv : Value) (l : List Int) (a n : Nat) (w : World) (hs : SX.St w (SX.idsOf (RdL g T sv l a)) w (RdL g T sv l a)) (hl : l.length ≤ 1000000) (hb : Byts l) (h : a + n ≤ 8 * l.length) (hn : n ≤ 62) :
    Calls Try.prog 47 #[.agg #[.pointer (some ⟨g, 0, none⟩)], .int .i64 (n : Int)] w (SX.Ret fun v w' => v = .int .i64 (getV l a (n : Int)) ∧ SX.St w (SX.idsOf (RdL g T sv l a)) w' (RdL g T sv l (a + n))) := by
  generalize hM : SX.idsOf (RdL g T sv l a) = M at *
  have he := getE_ok h (by omega)
  have ha : getA l a (n : Int) = a + n := by unfold getA; rw [if_pos he, Int.toNat_natCast]
  have hv : 0 ≤ getV l a (n : Int) ∧ getV l a (n : Int) < 4611686018427387904 := by
    have h1 : getV l a (n : Int) = (val (bitsAt l a n) : Int) := by unfold getV; rw [if_pos he, Int.toNat_natCast]
    have h2 := val_lt (bitsAt l a n)
    rw [bitsAt_length (by omega)] at h2
    have h3 : 2 ^ n ≤ 2 ^ 62 := Nat.pow_le_pow_right (by decide) hn
    rw [h1]
    have h4 : (2 : Nat) ^ 62 = 4611686018427387904 := by decide
    rw [h4] at h3
    omega
  refine Z.enter Try.func47 rfl Try.ntmps47 rfl rfl ?_
  refine Z.seq ?_
  refine Z.region ?_
  refine Z.le rfl trivial ?_
  refine Z.ZO.box rfl rfl (by rfl) rfl rfl hs ?_
  clear hs; intro g2 w2 hs
  refine Z.lb 1 rfl ?_
  refine Z.lnil ?_
  refine Z.only [1, 2] rfl ?_
  refine Z.nthen ?_
  refine Z.seq ?_
  refine Z.region ?_
  refine Z.l rfl rfl (by rfl) (Z.keepS hs) (Z.Yd.fieldA (m := 0) rfl (by kernel_rfl)) ?_
  refine Z.l rfl rfl (by rfl) (Z.keepS hs) (by first | exact Z.Yd.load rfl Try.isAgg77 (fun _ => Z.cellB (by first | ((repeat (first | exact List.mem_cons_self | refine List.mem_cons_of_mem _ ?_ | refine List.mem_append_right _ ?_)); done) | fail) rfl) | exact Z.Yd.load rfl Try.isAgg77 (fun _ => Z.cellO (by assumption) (by simp) (by assumption)) | fail "load 1.1") ?_
  refine Z.lb 1 rfl ?_
  replace hs := hs.rot (L1 := [_])
  refine Z.le rfl trivial ?_
  refine Z.ZO.call rfl rfl (by rfl) rfl rfl Try.call51 rfl (rget_any g T sv l a (n : Int) _ hs.lend hl (by omega) hb) ?_
  rintro v1_3 w1_3 ⟨rfl, hz⟩
  replace hs := hs.regain hz
  rw [ha] at hs
  rw [he]
  refine Z.lb 2 rfl ?_
  refine Z.le rfl trivial ?_
  refine Z.ZO.call rfl rfl (by rfl) rfl rfl Try.call50 rfl (got64_ok _ _) ?_
  rintro v1_6 w1_6 ⟨rfl, hy⟩
  replace hs := hs.call hy
  clear hy
  try simp only [List.cons_append, List.nil_append, List.append_nil] at hs
  refine Z.l rfl rfl (by rfl) (Z.keepS hs) (Z.Yd.convI rfl ⟨_, Try.underlying40⟩ Try.underlying3 (fun hG => Z.wi64 (by first | omega | (have hG' := Z.gh rfl hG; simp at hG'; omega)))) ?_
  refine Z.lb 1 rfl ?_
  refine Z.lnil ?_
  refine Z.only [4] rfl ?_
  refine Z.nthen ?_
  refine Z.ret ?_
  -- ret#0
  refine Z.out1 (by exact ⟨rfl, trivial⟩) ?_
  exact ⟨_, rfl, rfl, hs.sub (List.sublist_append_left _ _)⟩

/-- the power headroom of a part, and the error -/
def powE (lc : Int) (l : List Int) : Int := if opE lc l 26 1 ≠ 0 then opE lc l 26 1 else if num l / 64 ≠ 0 then 9 else 0
def powV (lc : Int) (l : List Int) : Int := if powE lc l = 0 then num l else 0
theorem one_byte {l : List Int} (hb : Byts l) (h : l.length = 1) : 0 ≤ num l ∧ num l < 256 ∧ l = [num l] := by
  obtain ⟨x, rfl⟩ := list1 h
  have := hb x (by simp)
  simp [num]
  omega
theorem clear64 (k gp T : Nat) (a : Value) (W : World) : True := trivial
theorem powclear (g T : Nat) (a : Value) (W : World) (hs : SX.St W (SX.idsOf [SX.Ent.blk g T #[a]]) W [SX.Ent.blk g T #[a]]) :
    Calls Try.prog 48 #[.pointer (some ⟨g, 0, none⟩)] W (SX.Ret fun v w' => v = .tuple #[] ∧ SX.St W (SX.idsOf [SX.Ent.blk g T #[a]]) w' [SX.Ent.blk g T #[.int .i64 0]]) := by
  generalize SX.idsOf [SX.Ent.blk g T #[a]] = M at *
  refine Z.enter Try.func48 rfl Try.ntmps48 rfl rfl ?_
  refine Z.region ?_
  refine Z.le rfl trivial ?_
  first | refine Z.ZO.store rfl rfl hs Try.sizeOf3 rfl rfl rfl (by first | exact SX.at0 | exact SX.at1 | exact SX.at2 | exact SX.at3 | exact SX.at4 | exact SX.at5 | exact Z.at6 | exact Z.at7 | exact Z.at8 | exact Z.at9 | exact Z.at10 | exact Z.at11 | exact Z.at12) (by first | (simp; done) | (simp; omega)) ?_ | refine Z.ZO.storeR rfl rfl hs Try.sizeOf3 rfl rfl rfl (by first | exact SX.at0 | exact SX.at1 | exact SX.at2 | exact SX.at3 | exact SX.at4 | exact SX.at5 | exact Z.at6 | exact Z.at7 | exact Z.at8 | exact Z.at9 | exact Z.at10 | exact Z.at11 | exact Z.at12) (by first | omega | (simp [ints_length]; done) | (simp [ints_length]; omega)) ?_
  clear hs; intro ws hs
  simp only [Nat.zero_add, Nat.add_zero, Nat.reduceAdd, Int.reduceToNat, Nat.reduceMul, List.set_cons_zero, List.set_cons_succ, List.setIfInBounds_toArray] at hs
  refine Z.lnil ?_
  refine Z.only [] rfl ?_
  -- ret#0
  refine Z.out0n trivial ?_
  first | exact ⟨_, rfl, rfl, hs⟩ | exact ⟨_, rfl, rfl, hs.sub (List.nil_sublist _)⟩
theorem idclear (g T : Nat) (a : Value) (W : World) (hs : SX.St W (SX.idsOf [SX.Ent.blk g T #[a]]) W [SX.Ent.blk g T #[a]]) :
    Calls Try.prog 49 #[.pointer (some ⟨g, 0, none⟩)] W (SX.Ret fun v w' => v = .tuple #[] ∧ SX.St W (SX.idsOf [SX.Ent.blk g T #[a]]) w' [SX.Ent.blk g T #[.int .u64 0]]) := by
  generalize SX.idsOf [SX.Ent.blk g T #[a]] = M at *
  refine Z.enter Try.func49 rfl Try.ntmps49 rfl rfl ?_
  refine Z.region ?_
  refine Z.le rfl trivial ?_
  first | refine Z.ZO.store rfl rfl hs Try.sizeOf40 rfl rfl rfl (by first | exact SX.at0 | exact SX.at1 | exact SX.at2 | exact SX.at3 | exact SX.at4 | exact SX.at5 | exact Z.at6 | exact Z.at7 | exact Z.at8 | exact Z.at9 | exact Z.at10 | exact Z.at11 | exact Z.at12) (by first | (simp; done) | (simp; omega)) ?_ | refine Z.ZO.storeR rfl rfl hs Try.sizeOf40 rfl rfl rfl (by first | exact SX.at0 | exact SX.at1 | exact SX.at2 | exact SX.at3 | exact SX.at4 | exact SX.at5 | exact Z.at6 | exact Z.at7 | exact Z.at8 | exact Z.at9 | exact Z.at10 | exact Z.at11 | exact Z.at12) (by first | omega | (simp [ints_length]; done) | (simp [ints_length]; omega)) ?_
  clear hs; intro ws hs
  simp only [Nat.zero_add, Nat.add_zero, Nat.reduceAdd, Int.reduceToNat, Nat.reduceMul, List.set_cons_zero, List.set_cons_succ, List.setIfInBounds_toArray] at hs
  refine Z.lnil ?_
  refine Z.only [] rfl ?_
  -- ret#0
  refine Z.out0n trivial ?_
  first | exact ⟨_, rfl, rfl, hs⟩ | exact ⟨_, rfl, rfl, hs.sub (List.nil_sublist _)⟩
set_option maxRecDepth 100000 in
theorem decpow_any (lc : Int) (A : Option Addr) (m c : Nat) (l : List Int) (w : World) (hx : Sx w [] A (ints .u8 l)) (hl : l.length = m) (hm : m ≤ 1000000) (hb : Byts l) :
    Calls Try.prog 24 #[.agg #[.int .i64 lc, .slice A m c]] w (SX.Ret fun v w' => v = .tuple #[.int .i64 (powV lc l), .int .i64 (powE lc l)] ∧ SX.St w [] w' []) := by
  have hs := SX.St.start w
  by_cases h : opE lc l 26 1 = 0
  · have hl1 : l.length = 1 := by
      unfold opE at h
      split at h
      · simp at h
      split at h
      · simp at h
      split at h
      · simp at h
      omega
    obtain ⟨h0, h256, -⟩ := one_byte hb hl1
    have e1 : getV l 0 ((2 : Nat) : Int) = num l / 64 := by
      rw [getV_num hb (by omega) (by omega), hl1]
      have : num l / 2 ^ (8 * 1 - 0 - 2) % 2 ^ 2 = num l / 64 % 4 := rfl
      rw [this]
      omega
    have e2 : getV l 2 ((6 : Nat) : Int) = num l % 64 := by
      rw [getV_num hb (by omega) (by omega), hl1]
      have : num l / 2 ^ (8 * 1 - 2 - 6) % 2 ^ 6 = num l / 1 % 64 := rfl
      rw [this]
      omega
    by_cases h9 : num l / 64 = 0
    · have eE : powE lc l = 0 := by unfold powE; rw [if_neg (by omega), if_neg (by omega)]
      have eV : powV lc l = num l % 64 := by unfold powV; rw [if_pos eE]; omega
      rw [eE, eV]
      refine Z.enterD Try.func24 rfl Try.ntmps24 rfl rfl ?_
      refine Z.seq ?_
      refine Z.region ?_
      refine Z.le rfl trivial ?_
      refine Z.ZO.box rfl rfl (by rfl) rfl rfl hs ?_
      clear hs; intro g1 w1 hs
      refine Z.le rfl trivial ?_
      refine Z.ZO.alloc rfl rfl (by rfl) Try.zeroValue3 rfl hs ?_
      clear hs; intro g2 w2 hs
      refine Z.le rfl trivial ?_
      refine Z.ZO.alloc rfl rfl (by rfl) Try.zeroValue32 rfl hs ?_
      clear hs; intro g3 w3 hs
      refine Z.lnil ?_
      refine Z.only [1, 2, 3] rfl ?_
      refine Z.nthen ?_
      refine Z.seq ?_
      refine Z.region ?_
      refine Z.lb 1 rfl ?_
      refine Z.le rfl trivial ?_
      refine Z.ZO.defer rfl rfl rfl rfl ?_
      refine Z.lnil ?_
      refine Z.only [1, 2, 3] rfl ?_
      refine Z.nthen ?_
      refine Z.seq ?_
      refine Z.region ?_
      refine Z.l rfl rfl (by rfl) (Z.keepS hs) (by first | exact Z.Yd.loadA _ rfl Try.isAgg31 (fun _ => Z.cellsB (by first | ((repeat (first | exact List.mem_cons_self | refine List.mem_cons_of_mem _ ?_ | refine List.mem_append_right _ ?_)); done) | fail)) (by exact Try.sizeOf31) | fail "load 2.0") ?_
      refine Z.le rfl trivial ?_
      refine Z.ZO.call rfl rfl (by rfl) rfl rfl Try.call46 rfl (opened_ok lc 26 1 A m c l _ ((hx.st hs).sx) hl hm h) ?_
      rintro v2_1 w2_1 ⟨gr, sv, rfl, hy⟩
      replace hs := hs.call hy
      clear hy
      try simp only [List.cons_append, List.nil_append, List.append_nil] at hs
      refine Z.le rfl trivial ?_
      refine Z.ZO.alloc rfl rfl (by rfl) Try.zeroValue79 rfl hs ?_
      clear hs; intro g4 w4 hs
      refine Z.le rfl trivial ?_
      refine Z.ZO.storeA rfl rfl hs rfl rfl (by kernel_rfl) (by simp [Value.oneCell']) (by first | exact SX.at0 | exact SX.at1 | exact SX.at2 | exact SX.at3 | exact SX.at4 | exact SX.at5 | exact Z.at6 | exact Z.at7 | exact Z.at8 | exact Z.at9 | exact Z.at10 | exact Z.at11 | exact Z.at12) (by rfl) ?_
      clear hs; intro ws hs
      simp only [Nat.zero_add, Nat.add_zero, Nat.reduceAdd, Int.reduceToNat, Nat.reduceMul, List.set_cons_zero, List.set_cons_succ, List.setIfInBounds_toArray] at hs
      refine Z.lnil ?_
      refine Z.only [2, 3, 4] rfl ?_
      refine Z.nthen ?_
      refine Z.seq ?_
      refine Z.region ?_
      refine Z.l rfl rfl (by rfl) (Z.keepS hs) (by first | exact Z.Yd.loadA _ rfl Try.isAgg79 (fun _ => Z.cellsB (by first | ((repeat (first | exact List.mem_cons_self | refine List.mem_cons_of_mem _ ?_ | refine List.mem_append_right _ ?_)); done) | fail)) (by exact Try.sizeOf79) | fail "load 3.0") ?_
      replace hs := hs.sel [1, 2, 3, 4, 0] (by decide)
      replace hs : SX.St w [] _ (RdL gr 99 sv l 0 ++ [_, _, _]) := hs
      refine Z.le rfl trivial ?_
      refine Z.ZO.call rfl rfl (by rfl) rfl rfl Try.call47 rfl (dbits_ok gr _ sv l 0 2 _ hs.lend (by omega) hb (by omega) (by omega)) ?_
      rintro v3_1 w3_1 ⟨rfl, hz⟩
      replace hs := hs.regain hz
      rw [e1]
      refine Z.lb 1 rfl ?_
      refine Z.le rfl trivial ?_
      refine Z.ZO.call rfl rfl (by rfl) rfl rfl Try.call35 rfl (must_ok _ 9 _ (by simpa using h9)) ?_
      rintro v3_3 w3_3 ⟨rfl, hy⟩
      replace hs := hs.call hy
      clear hy
      try simp only [List.cons_append, List.nil_append, List.append_nil] at hs
      refine Z.lnil ?_
      refine Z.only [2, 3, 4] rfl ?_
      refine Z.nthen ?_
      refine Z.seq ?_
      refine Z.region ?_
      refine Z.l rfl rfl (by rfl) (Z.keepS hs) (by first | exact Z.Yd.loadA _ rfl Try.isAgg79 (fun _ => Z.cellsB (by first | ((repeat (first | exact List.mem_cons_self | refine List.mem_cons_of_mem _ ?_ | refine List.mem_append_right _ ?_)); done) | fail)) (by exact Try.sizeOf79) | fail "load 4.0") ?_
      refine Z.le rfl trivial ?_
      refine Z.ZO.call rfl rfl (by rfl) rfl rfl Try.call47 rfl (dbits_ok gr _ sv l 2 6 _ hs.lend (by omega) hb (by omega) (by omega)) ?_
      rintro v4_1 w4_1 ⟨rfl, hz⟩
      replace hs := hs.regain hz
      rw [e2]
      refine Z.le rfl trivial ?_
      first | refine Z.ZO.store rfl rfl hs Try.sizeOf3 rfl rfl rfl (by first | exact SX.at0 | exact SX.at1 | exact SX.at2 | exact SX.at3 | exact SX.at4 | exact SX.at5 | exact Z.at6 | exact Z.at7 | exact Z.at8 | exact Z.at9 | exact Z.at10 | exact Z.at11 | exact Z.at12) (by first | (simp; done) | (simp; omega)) ?_ | refine Z.ZO.storeR rfl rfl hs Try.sizeOf3 rfl rfl rfl (by first | exact SX.at0 | exact SX.at1 | exact SX.at2 | exact SX.at3 | exact SX.at4 | exact SX.at5 | exact Z.at6 | exact Z.at7 | exact Z.at8 | exact Z.at9 | exact Z.at10 | exact Z.at11 | exact Z.at12) (by first | omega | (simp [ints_length]; done) | (simp [ints_length]; omega)) ?_
      clear hs; intro ws hs
      simp only [Nat.zero_add, Nat.add_zero, Nat.reduceAdd, Int.reduceToNat, Nat.reduceMul, List.set_cons_zero, List.set_cons_succ, List.setIfInBounds_toArray] at hs
      refine Z.le rfl trivial ?_
      first | refine Z.ZO.store rfl rfl hs Try.sizeOf32 rfl rfl rfl (by first | exact SX.at0 | exact SX.at1 | exact SX.at2 | exact SX.at3 | exact SX.at4 | exact SX.at5 | exact Z.at6 | exact Z.at7 | exact Z.at8 | exact Z.at9 | exact Z.at10 | exact Z.at11 | exact Z.at12) (by first | (simp; done) | (simp; omega)) ?_ | refine Z.ZO.storeR rfl rfl hs Try.sizeOf32 rfl rfl rfl (by first | exact SX.at0 | exact SX.at1 | exact SX.at2 | exact SX.at3 | exact SX.at4 | exact SX.at5 | exact Z.at6 | exact Z.at7 | exact Z.at8 | exact Z.at9 | exact Z.at10 | exact Z.at11 | exact Z.at12) (by first | omega | (simp [ints_length]; done) | (simp [ints_length]; omega)) ?_
      clear hs; intro ws hs
      simp only [Nat.zero_add, Nat.add_zero, Nat.reduceAdd, Int.reduceToNat, Nat.reduceMul, List.set_cons_zero, List.set_cons_succ, List.setIfInBounds_toArray] at hs
      refine Z.lnil ?_
      refine Z.only [2, 3] rfl ?_
      refine Z.nthen ?_
      refine Z.ret ?_
      -- ret#0
      refine Z.outDr Try.call44 (caught_ret g3 _ _ _) ?_
      rintro vD wD ⟨rfl, hy⟩
      replace hs := hs.call hy
      refine ⟨[_, _], (by exact ⟨⟨_, rfl, Z.rvc hs Try.isAgg3 (by first | ((repeat (first | exact List.mem_cons_self | refine List.mem_cons_of_mem _ ?_ | refine List.mem_append_right _ ?_)); done) | fail) rfl⟩, ⟨_, rfl, Z.rvc hs Try.isAgg32 (by first | ((repeat (first | exact List.mem_cons_self | refine List.mem_cons_of_mem _ ?_ | refine List.mem_append_right _ ?_)); done) | fail) rfl⟩, trivial⟩), ?_⟩
      exact ⟨_, rfl, rfl, hs.sub (List.nil_sublist _)⟩
    · have eE : powE lc l = 9 := by unfold powE; rw [if_neg (by omega), if_pos h9]
      have eV : powV lc l = 0 := by unfold powV; rw [if_neg (by omega)]
      rw [eE, eV]
      refine Z.enterD Try.func24 rfl Try.ntmps24 rfl rfl ?_
      refine Z.seq ?_
      refine Z.region ?_
      refine Z.le rfl trivial ?_
      refine Z.ZO.box rfl rfl (by rfl) rfl rfl hs ?_
      clear hs; intro g1 w1 hs
      refine Z.le rfl trivial ?_
      refine Z.ZO.alloc rfl rfl (by rfl) Try.zeroValue3 rfl hs ?_
      clear hs; intro g2 w2 hs
      refine Z.le rfl trivial ?_
      refine Z.ZO.alloc rfl rfl (by rfl) Try.zeroValue32 rfl hs ?_
      clear hs; intro g3 w3 hs
      refine Z.lnil ?_
      refine Z.only [1, 2, 3] rfl ?_
      refine Z.nthen ?_
      refine Z.seq ?_
      refine Z.region ?_
      refine Z.lb 1 rfl ?_
      refine Z.le rfl trivial ?_
      refine Z.ZO.defer rfl rfl rfl rfl ?_
      refine Z.lnil ?_
      refine Z.only [1, 2, 3] rfl ?_
      refine Z.nthen ?_
      refine Z.seq ?_
      refine Z.region ?_
      refine Z.l rfl rfl (by rfl) (Z.keepS hs) (by first | exact Z.Yd.loadA _ rfl Try.isAgg31 (fun _ => Z.cellsB (by first | ((repeat (first | exact List.mem_cons_self | refine List.mem_cons_of_mem _ ?_ | refine List.mem_append_right _ ?_)); done) | fail)) (by exact Try.sizeOf31) | fail "load 2.0") ?_
      refine Z.le rfl trivial ?_
      refine Z.ZO.call rfl rfl (by rfl) rfl rfl Try.call46 rfl (opened_ok lc 26 1 A m c l _ ((hx.st hs).sx) hl hm h) ?_
      rintro v2_1 w2_1 ⟨gr, sv, rfl, hy⟩
      replace hs := hs.call hy
      clear hy
      try simp only [List.cons_append, List.nil_append, List.append_nil] at hs
      refine Z.le rfl trivial ?_
      refine Z.ZO.alloc rfl rfl (by rfl) Try.zeroValue79 rfl hs ?_
      clear hs; intro g4 w4 hs
      refine Z.le rfl trivial ?_
      refine Z.ZO.storeA rfl rfl hs rfl rfl (by kernel_rfl) (by simp [Value.oneCell']) (by first | exact SX.at0 | exact SX.at1 | exact SX.at2 | exact SX.at3 | exact SX.at4 | exact SX.at5 | exact Z.at6 | exact Z.at7 | exact Z.at8 | exact Z.at9 | exact Z.at10 | exact Z.at11 | exact Z.at12) (by rfl) ?_
      clear hs; intro ws hs
      simp only [Nat.zero_add, Nat.add_zero, Nat.reduceAdd, Int.reduceToNat, Nat.reduceMul, List.set_cons_zero, List.set_cons_succ, List.setIfInBounds_toArray] at hs
      refine Z.lnil ?_
      refine Z.only [2, 3, 4] rfl ?_
      refine Z.nthen ?_
      refine Z.seq ?_
      refine Z.region ?_
      refine Z.l rfl rfl (by rfl) (Z.keepS hs) (by first | exact Z.Yd.loadA _ rfl Try.isAgg79 (fun _ => Z.cellsB (by first | ((repeat (first | exact List.mem_cons_self | refine List.mem_cons_of_mem _ ?_ | refine List.mem_append_right _ ?_)); done) | fail)) (by exact Try.sizeOf79) | fail "load 3.0") ?_
      replace hs := hs.sel [1, 2, 3, 4, 0] (by decide)
      replace hs : SX.St w [] _ (RdL gr 99 sv l 0 ++ [_, _, _]) := hs
      refine Z.le rfl trivial ?_
      refine Z.ZO.call rfl rfl (by rfl) rfl rfl Try.call47 rfl (dbits_ok gr _ sv l 0 2 _ hs.lend (by omega) hb (by omega) (by omega)) ?_
      rintro v3_1 w3_1 ⟨rfl, hz⟩
      replace hs := hs.regain hz
      rw [e1]
      refine Z.lb 1 rfl ?_
      refine Z.le rfl trivial ?_
      refine Z.ZO.callP rfl rfl rfl Try.call35 rfl (must_bad _ 9 _ (by simpa using h9)) ?_
      rintro c3_3 w3_3 ⟨rfl, hy⟩
      replace hs := hs.call hy
      clear hy
      try simp only [List.cons_append, List.nil_append, List.append_nil] at hs
      replace hs := hs.sel [2, 3] (by decide)
      repeat (first | refine Z.pthen ?_ | refine Z.pblock ?_ | refine Z.pscope ?_)
      -- ret#0
      refine Z.outDp Try.call44 (caught_pan g3 _ _ _ _ _ [SX.Ent.blk g2 _ _] _ _ (hs.lend (L2 := [])) Try.call48 (fun W hW ↦ powclear g2 _ _ W hW)) ?_
      rintro vD wD ⟨rfl, hz⟩
      replace hs := hs.regain (L2 := []) hz
      refine ⟨[_, _], (by exact ⟨⟨_, rfl, Z.rvc hs Try.isAgg3 (by first | ((repeat (first | exact List.mem_cons_self | refine List.mem_cons_of_mem _ ?_ | refine List.mem_append_right _ ?_)); done) | fail) rfl⟩, ⟨_, rfl, Z.rvc hs Try.isAgg32 (by first | ((repeat (first | exact List.mem_cons_self | refine List.mem_cons_of_mem _ ?_ | refine List.mem_append_right _ ?_)); done) | fail) rfl⟩, trivial⟩), ?_⟩
      exact ⟨_, rfl, rfl, hs.sub (List.nil_sublist _)⟩
  · have eE : powE lc l = opE lc l 26 1 := by unfold powE; rw [if_pos h]
    have eV : powV lc l = 0 := by unfold powV; rw [if_neg (by omega)]
    rw [eE, eV]
    refine Z.enterD Try.func24 rfl Try.ntmps24 rfl rfl ?_
    refine Z.seq ?_
    refine Z.region ?_
    refine Z.le rfl trivial ?_
    refine Z.ZO.box rfl rfl (by rfl) rfl rfl hs ?_
    clear hs; intro g1 w1 hs
    refine Z.le rfl trivial ?_
    refine Z.ZO.alloc rfl rfl (by rfl) Try.zeroValue3 rfl hs ?_
    clear hs; intro g2 w2 hs
    refine Z.le rfl trivial ?_
    refine Z.ZO.alloc rfl rfl (by rfl) Try.zeroValue32 rfl hs ?_
    clear hs; intro g3 w3 hs
    refine Z.lnil ?_
    refine Z.only [1, 2, 3] rfl ?_
    refine Z.nthen ?_
    refine Z.seq ?_
    refine Z.region ?_
    refine Z.lb 1 rfl ?_
    refine Z.le rfl trivial ?_
    refine Z.ZO.defer rfl rfl rfl rfl ?_
    refine Z.lnil ?_
    refine Z.only [1, 2, 3] rfl ?_
    refine Z.nthen ?_
    refine Z.seq ?_
    refine Z.region ?_
    refine Z.l rfl rfl (by rfl) (Z.keepS hs) (by first | exact Z.Yd.loadA _ rfl Try.isAgg31 (fun _ => Z.cellsB (by first | ((repeat (first | exact List.mem_cons_self | refine List.mem_cons_of_mem _ ?_ | refine List.mem_append_right _ ?_)); done) | fail)) (by exact Try.sizeOf31) | fail "load 2.0") ?_
    refine Z.le rfl trivial ?_
    refine Z.ZO.callP rfl rfl rfl Try.call46 rfl (opened_bad lc 26 1 A m c l _ hl hm h) ?_
    rintro c2_1 w2_1 ⟨rfl, hy⟩
    replace hs := hs.call hy
    clear hy
    try simp only [List.cons_append, List.nil_append, List.append_nil] at hs
    replace hs := hs.sel [0, 1] (by decide)
    repeat (first | refine Z.pthen ?_ | refine Z.pblock ?_ | refine Z.pscope ?_)
    -- ret#0
    refine Z.outDp Try.call44 (caught_pan g3 _ _ _ _ _ [SX.Ent.blk g2 _ _] _ _ (hs.lend (L2 := [])) Try.call48 (fun W hW ↦ powclear g2 _ _ W hW)) ?_
    rintro vD wD ⟨rfl, hz⟩
    replace hs := hs.regain (L2 := []) hz
    refine ⟨[_, _], (by exact ⟨⟨_, rfl, Z.rvc hs Try.isAgg3 (by first | ((repeat (first | exact List.mem_cons_self | refine List.mem_cons_of_mem _ ?_ | refine List.mem_append_right _ ?_)); done) | fail) rfl⟩, ⟨_, rfl, Z.rvc hs Try.isAgg32 (by first | ((repeat (first | exact List.mem_cons_self | refine List.mem_cons_of_mem _ ?_ | refine List.mem_append_right _ ?_)); done) | fail) rfl⟩, trivial⟩), ?_⟩
    exact ⟨_, rfl, rfl, hs.sub (List.nil_sublist _)⟩
end Go.Proofs.Yteabcdmgklhijaa
