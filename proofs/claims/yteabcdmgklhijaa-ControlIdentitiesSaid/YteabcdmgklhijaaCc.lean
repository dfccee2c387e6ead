/- Control elements: identities and reports decoded. -/
import Derived.Test.YteabcdmgklhijaaCb
namespace Go.Proofs.Yteabcdmgklhijaa
open Go.RowKit
set_option linter.unusedSimpArgs false
set_option linter.unusedVariables false
--newlaws

def wid (lc : Int) : Int := if lc = 27 then 2 else 6
def isId (lc : Int) : Prop := lc = 27 ∨ lc = 28
instance (lc : Int) : Decidable (isId lc) := inferInstanceAs (Decidable (_ ∨ _))
theorem width_ok (lc : Int) (w : World) (h : isId lc) : Calls Try.prog 41 #[.int .i64 lc] w (SX.Ret fun v w' => v = .int .i64 (wid lc) ∧ SX.St w [] w' []) := by
  have hs := SX.St.start w
  unfold isId at h
  refine Z.enter Try.func41 rfl Try.ntmps41 rfl rfl ?_
  refine Z.seq ?_
  refine Z.region ?_
  refine Z.lb 1 rfl ?_
  refine Z.lnil ?_
  refine Z.only [0] rfl ?_
  refine Z.nthen ?_
  refine Z.seq ?_
  refine Z.region ?_
  refine Z.lb 6 rfl ?_
  refine Z.le rfl trivial ?_
  refine Z.ZO.call rfl rfl (by rfl) rfl rfl Try.call35 rfl (must_ok _ 2 _ (by simp; omega)) ?_
  rintro v1_6 w1_6 ⟨rfl, hy⟩
  replace hs := hs.call hy
  clear hy
  try simp only [List.cons_append, List.nil_append, List.append_nil] at hs
  refine Z.lnil ?_
  refine Z.only [0] rfl ?_
  refine Z.nthen ?_
  refine Z.seq ?_
  refine Z.seq ?_
  refine Z.region ?_
  refine Z.lb 2 rfl ?_
  refine Z.lnil ?_
  refine Z.only [11] rfl ?_
  refine Z.nthen ?_
  refine Z.cond rfl (fun hc2 => ?_) (fun hc2 => ?_)
  · first
      | (exfalso; simp at hc2 <;> omega)
      | (
        (try simp at hc2)
        refine Z.seq ?_
        refine Z.region ?_
        refine Z.lb 1 rfl ?_
        refine Z.lnil ?_
        refine Z.only [2] rfl ?_
        refine Z.nthen ?_
        refine Z.ret ?_
        repeat (first | refine Z.rthen ?_ | refine Z.rblock ?_ | refine Z.rscope ?_)
        -- ret#0
        refine Z.out1 (by exact ⟨rfl, trivial⟩) ?_
        exact ⟨_, rfl, by unfold wid; rw [if_pos (by omega)], hs⟩
        )
  · first
      | (exfalso; simp at hc2 <;> omega)
      | (
        (try simp at hc2)
        refine Z.skip ?_
        refine Z.nthen ?_
        refine Z.seq ?_
        refine Z.region ?_
        refine Z.lb 1 rfl ?_
        refine Z.lnil ?_
        refine Z.only [2] rfl ?_
        refine Z.nthen ?_
        refine Z.ret ?_
        -- ret#1
        refine Z.out1 (by exact ⟨rfl, trivial⟩) ?_
        exact ⟨_, rfl, by unfold wid; rw [if_neg (by omega)], hs⟩
        )
theorem width_bad (lc : Int) (w : World) (h : ¬ isId lc) : Calls Try.prog 41 #[.int .i64 lc] w (PanE 2 fun w' => SX.St w [] w' []) := by
  have hs := SX.St.start w
  unfold isId at h
  refine Z.enter Try.func41 rfl Try.ntmps41 rfl rfl ?_
  refine Z.seq ?_
  refine Z.region ?_
  refine Z.lb 1 rfl ?_
  refine Z.lnil ?_
  refine Z.only [0] rfl ?_
  refine Z.nthen ?_
  refine Z.seq ?_
  refine Z.region ?_
  refine Z.lb 6 rfl ?_
  refine Z.le rfl trivial ?_
  refine Z.ZO.callP rfl rfl rfl Try.call35 rfl (must_bad _ 2 _ (by simp; omega)) ?_
  rintro c1_6 w1_6 ⟨rfl, hy⟩
  replace hs := hs.call hy
  clear hy
  try simp only [List.cons_append, List.nil_append, List.append_nil] at hs
  repeat (first | refine Z.pthen ?_ | refine Z.pblock ?_ | refine Z.pscope ?_)
  -- ret#0
  refine Z.outp ?_
  exact ⟨_, rfl, rfl, hs.sub (List.nil_sublist _)⟩
def idE (lc : Int) (l : List Int) : Int := if isId lc then opE lc l lc (wid lc) else 2
def idV (lc : Int) (l : List Int) : Int := if idE lc l = 0 then num l else 0
theorem opE_len {lc want n : Int} {l : List Int} (h : opE lc l want n = 0) : lc = want ∧ (l.length : Int) = n := by
  unfold opE at h
  split at h
  · simp at h
  split at h
  · simp at h
  split at h
  · simp at h
  omega
theorem num_lt {l : List Int} (hb : Byts l) : num l < ((2 ^ (l.length * 8) : Nat) : Int) := by
  have h1 := val_lt (unb l)
  rw [unb_length] at h1
  rw [← val_unb hb]
  omega
theorem getV_all {l : List Int} (hb : Byts l) (h : l.length ≤ 8) : getV l 0 ((8 * l.length : Nat) : Int) = num l := by
  have h0 : getE l 0 ((8 * l.length : Nat) : Int) = 0 := getE_ok (by omega) (by omega)
  unfold getV
  rw [if_pos h0, ← val_unb hb, Int.toNat_natCast]
  unfold bitsAt
  rw [List.drop_zero, List.take_of_length_le (by rw [unb_length]; omega)]
set_option maxRecDepth 100000 in
theorem decid_any (lc : Int) (A : Option Addr) (m c : Nat) (l : List Int) (w : World) (hx : Sx w [] A (ints .u8 l)) (hl : l.length = m) (hm : m ≤ 1000000) (hb : Byts l) :
    Calls Try.prog 25 #[.agg #[.int .i64 lc, .slice A m c]] w (SX.Ret fun v w' => v = .tuple #[.int .u64 (idV lc l), .int .i64 (idE lc l)] ∧ SX.St w [] w' []) := by
  have hs := SX.St.start w
  by_cases hi : isId lc
  · by_cases h : opE lc l lc (wid lc) = 0
    · have eE : idE lc l = 0 := by unfold idE; rw [if_pos hi, h]
      have eV : idV lc l = num l := by unfold idV; rw [if_pos eE]
      obtain ⟨-, hlw⟩ := opE_len h
      have hw : wid lc = 2 ∨ wid lc = 6 := by unfold wid; split <;> omega
      have hg := getV_all hb (by omega)
      have h8 : 8 * wid lc = ((8 * l.length : Nat) : Int) := by omega
      have hge := getE_ok (l := l) (a := 0) (n := 8 * l.length) (by omega) (by omega)
      rw [eE, eV]
      refine Z.enterD Try.func25 rfl Try.ntmps25 rfl rfl ?_
      refine Z.seq ?_
      refine Z.region ?_
      refine Z.le rfl trivial ?_
      refine Z.ZO.box rfl rfl (by rfl) rfl rfl hs ?_
      clear hs; intro g1 w1 hs
      refine Z.le rfl trivial ?_
      refine Z.ZO.alloc rfl rfl (by rfl) Try.zeroValue40 rfl hs ?_
      clear hs; intro g2 w2 hs
      refine Z.le rfl trivial ?_
      refine Z.ZO.alloc rfl rfl (by rfl) Try.zeroValue32 rfl hs ?_
      clear hs; intro g3 w3 hs
      refine Z.lnil ?_
      refine Z.only [1, 2, 3] rfl ?_
      refine Z.nthen ?_
      refine Z.seq ?_
      refine Z.region ?_
      refine Z.lb 1 rfl ?_
      refine Z.le rfl trivial ?_
      refine Z.ZO.defer rfl rfl rfl rfl ?_
      refine Z.lnil ?_
      refine Z.only [1, 2, 3] rfl ?_
      refine Z.nthen ?_
      refine Z.seq ?_
      refine Z.region ?_
      refine Z.l rfl rfl (by rfl) (Z.keepS hs) (Z.Yd.fieldA (m := 0) rfl (by kernel_rfl)) ?_
      refine Z.l rfl rfl (by rfl) (Z.keepS hs) (by first | exact Z.Yd.load rfl Try.isAgg3 (fun _ => Z.cellB (by first | ((repeat (first | exact List.mem_cons_self | refine List.mem_cons_of_mem _ ?_ | refine List.mem_append_right _ ?_)); done) | fail) rfl) | exact Z.Yd.load rfl Try.isAgg3 (fun _ => Z.cellO (by assumption) (by simp) (by assumption)) | fail "load 2.1") ?_
      refine Z.le rfl trivial ?_
      refine Z.ZO.call rfl rfl (by rfl) rfl rfl Try.call41 rfl (width_ok lc _ hi) ?_
      rintro v2_2 w2_2 ⟨rfl, hy⟩
      replace hs := hs.call hy
      clear hy
      try simp only [List.cons_append, List.nil_append, List.append_nil] at hs
      refine Z.lb 1 rfl ?_
      refine Z.lnil ?_
      refine Z.only [1, 2, 3, 4] rfl ?_
      refine Z.nthen ?_
      refine Z.seq ?_
      refine Z.region ?_
      refine Z.l rfl rfl (by rfl) (Z.keepS hs) (by first | exact Z.Yd.loadA _ rfl Try.isAgg31 (fun _ => Z.cellsB (by first | ((repeat (first | exact List.mem_cons_self | refine List.mem_cons_of_mem _ ?_ | refine List.mem_append_right _ ?_)); done) | fail)) (by exact Try.sizeOf31) | fail "load 3.0") ?_
      refine Z.l rfl rfl (by rfl) (Z.keepS hs) (Z.Yd.fieldA (m := 0) rfl (by kernel_rfl)) ?_
      refine Z.l rfl rfl (by rfl) (Z.keepS hs) (by first | exact Z.Yd.load rfl Try.isAgg3 (fun _ => Z.cellB (by first | ((repeat (first | exact List.mem_cons_self | refine List.mem_cons_of_mem _ ?_ | refine List.mem_append_right _ ?_)); done) | fail) rfl) | exact Z.Yd.load rfl Try.isAgg3 (fun _ => Z.cellO (by assumption) (by simp) (by assumption)) | fail "load 3.2") ?_
      refine Z.lb 1 rfl ?_
      refine Z.le rfl trivial ?_
      refine Z.ZO.call rfl rfl (by rfl) rfl rfl Try.call46 rfl (opened_ok lc lc (wid lc) A m c l _ ((hx.st hs).sx) hl hm h) ?_
      rintro v3_4 w3_4 ⟨gr, sv, rfl, hy⟩
      replace hs := hs.call hy
      clear hy
      try simp only [List.cons_append, List.nil_append, List.append_nil] at hs
      refine Z.l rfl rfl (by rfl) (Z.keepS hs) (by first | exact Z.Yd.fieldL 0 1 rfl rfl (by intro w; kernel_rfl) | exact Z.Yd.field rfl (by intro w; go_simp; try rfl)) ?_
      refine Z.lb 1 rfl ?_
      refine Z.l rfl rfl (by rfl) (Z.keepS hs) (Z.Yd.mul rfl rfl (fun hG => Z.wi64 (by first | omega | (have hG' := Z.gh rfl hG; simp at hG'; omega)))) ?_
      replace hs : SX.St w [] _ (RdL gr 99 sv l 0 ++ [_, _, _]) := hs
      rw [h8]
      refine Z.le rfl trivial ?_
      refine Z.ZO.call rfl rfl (by rfl) rfl rfl Try.call51 rfl (rget_any gr _ sv l 0 _ _ hs.lend (by omega) (by omega) hb) ?_
      rintro v3_8 w3_8 ⟨rfl, hz⟩
      replace hs := hs.regain hz
      rw [hg, hge]
      refine Z.lb 2 rfl ?_
      refine Z.le rfl trivial ?_
      refine Z.ZO.call rfl rfl (by rfl) rfl rfl Try.call50 rfl (got64_ok _ _) ?_
      rintro v3_11 w3_11 ⟨rfl, hy⟩
      replace hs := hs.call hy
      clear hy
      try simp only [List.cons_append, List.nil_append, List.append_nil] at hs
      simp only [RdL, List.cons_append, List.nil_append] at hs
      refine Z.le rfl trivial ?_
      first | refine Z.ZO.store rfl rfl hs Try.sizeOf40 rfl rfl rfl (by first | exact SX.at0 | exact SX.at1 | exact SX.at2 | exact SX.at3 | exact SX.at4 | exact SX.at5 | exact Z.at6 | exact Z.at7 | exact Z.at8 | exact Z.at9 | exact Z.at10 | exact Z.at11 | exact Z.at12) (by first | (simp; done) | (simp; omega)) ?_ | refine Z.ZO.storeR rfl rfl hs Try.sizeOf40 rfl rfl rfl (by first | exact SX.at0 | exact SX.at1 | exact SX.at2 | exact SX.at3 | exact SX.at4 | exact SX.at5 | exact Z.at6 | exact Z.at7 | exact Z.at8 | exact Z.at9 | exact Z.at10 | exact Z.at11 | exact Z.at12) (by first | omega | (simp [ints_length]; done) | (simp [ints_length]; omega)) ?_
      clear hs; intro ws hs
      simp only [Nat.zero_add, Nat.add_zero, Nat.reduceAdd, Int.reduceToNat, Nat.reduceMul, List.set_cons_zero, List.set_cons_succ, List.setIfInBounds_toArray] at hs
      refine Z.le rfl trivial ?_
      first | refine Z.ZO.store rfl rfl hs Try.sizeOf32 rfl rfl rfl (by first | exact SX.at0 | exact SX.at1 | exact SX.at2 | exact SX.at3 | exact SX.at4 | exact SX.at5 | exact Z.at6 | exact Z.at7 | exact Z.at8 | exact Z.at9 | exact Z.at10 | exact Z.at11 | exact Z.at12) (by first | (simp; done) | (simp; omega)) ?_ | refine Z.ZO.storeR rfl rfl hs Try.sizeOf32 rfl rfl rfl (by first | exact SX.at0 | exact SX.at1 | exact SX.at2 | exact SX.at3 | exact SX.at4 | exact SX.at5 | exact Z.at6 | exact Z.at7 | exact Z.at8 | exact Z.at9 | exact Z.at10 | exact Z.at11 | exact Z.at12) (by first | omega | (simp [ints_length]; done) | (simp [ints_length]; omega)) ?_
      clear hs; intro ws hs
      simp only [Nat.zero_add, Nat.add_zero, Nat.reduceAdd, Int.reduceToNat, Nat.reduceMul, List.set_cons_zero, List.set_cons_succ, List.setIfInBounds_toArray] at hs
      refine Z.lnil ?_
      refine Z.only [2, 3] rfl ?_
      refine Z.nthen ?_
      refine Z.ret ?_
      -- ret#0
      refine Z.outDr Try.call44 (caught_ret g3 _ _ _) ?_
      rintro vD wD ⟨rfl, hy⟩
      replace hs := hs.call hy
      refine ⟨[_, _], (by exact ⟨⟨_, rfl, Z.rvc hs Try.isAgg40 (by first | ((repeat (first | exact List.mem_cons_self | refine List.mem_cons_of_mem _ ?_ | refine List.mem_append_right _ ?_)); done) | fail) rfl⟩, ⟨_, rfl, Z.rvc hs Try.isAgg32 (by first | ((repeat (first | exact List.mem_cons_self | refine List.mem_cons_of_mem _ ?_ | refine List.mem_append_right _ ?_)); done) | fail) rfl⟩, trivial⟩), ?_⟩
      exact ⟨_, rfl, rfl, hs.sub (List.nil_sublist _)⟩
    · have eE : idE lc l = opE lc l lc (wid lc) := by unfold idE; rw [if_pos hi]
      have eV : idV lc l = 0 := by unfold idV; rw [if_neg (by omega)]
      rw [eE, eV]
      refine Z.enterD Try.func25 rfl Try.ntmps25 rfl rfl ?_
      refine Z.seq ?_
      refine Z.region ?_
      refine Z.le rfl trivial ?_
      refine Z.ZO.box rfl rfl (by rfl) rfl rfl hs ?_
      clear hs; intro g1 w1 hs
      refine Z.le rfl trivial ?_
      refine Z.ZO.alloc rfl rfl (by rfl) Try.zeroValue40 rfl hs ?_
      clear hs; intro g2 w2 hs
      refine Z.le rfl trivial ?_
      refine Z.ZO.alloc rfl rfl (by rfl) Try.zeroValue32 rfl hs ?_
      clear hs; intro g3 w3 hs
      refine Z.lnil ?_
      refine Z.only [1, 2, 3] rfl ?_
      refine Z.nthen ?_
      refine Z.seq ?_
      refine Z.region ?_
      refine Z.lb 1 rfl ?_
      refine Z.le rfl trivial ?_
      refine Z.ZO.defer rfl rfl rfl rfl ?_
      refine Z.lnil ?_
      refine Z.only [1, 2, 3] rfl ?_
      refine Z.nthen ?_
      refine Z.seq ?_
      refine Z.region ?_
      refine Z.l rfl rfl (by rfl) (Z.keepS hs) (Z.Yd.fieldA (m := 0) rfl (by kernel_rfl)) ?_
      refine Z.l rfl rfl (by rfl) (Z.keepS hs) (by first | exact Z.Yd.load rfl Try.isAgg3 (fun _ => Z.cellB (by first | ((repeat (first | exact List.mem_cons_self | refine List.mem_cons_of_mem _ ?_ | refine List.mem_append_right _ ?_)); done) | fail) rfl) | exact Z.Yd.load rfl Try.isAgg3 (fun _ => Z.cellO (by assumption) (by simp) (by assumption)) | fail "load 2.1") ?_
      refine Z.le rfl trivial ?_
      refine Z.ZO.call rfl rfl (by rfl) rfl rfl Try.call41 rfl (width_ok lc _ hi) ?_
      rintro v2_2 w2_2 ⟨rfl, hy⟩
      replace hs := hs.call hy
      clear hy
      try simp only [List.cons_append, List.nil_append, List.append_nil] at hs
      refine Z.lb 1 rfl ?_
      refine Z.lnil ?_
      refine Z.only [1, 2, 3, 4] rfl ?_
      refine Z.nthen ?_
      refine Z.seq ?_
      refine Z.region ?_
      refine Z.l rfl rfl (by rfl) (Z.keepS hs) (by first | exact Z.Yd.loadA _ rfl Try.isAgg31 (fun _ => Z.cellsB (by first | ((repeat (first | exact List.mem_cons_self | refine List.mem_cons_of_mem _ ?_ | refine List.mem_append_right _ ?_)); done) | fail)) (by exact Try.sizeOf31) | fail "load 3.0") ?_
      refine Z.l rfl rfl (by rfl) (Z.keepS hs) (Z.Yd.fieldA (m := 0) rfl (by kernel_rfl)) ?_
      refine Z.l rfl rfl (by rfl) (Z.keepS hs) (by first | exact Z.Yd.load rfl Try.isAgg3 (fun _ => Z.cellB (by first | ((repeat (first | exact List.mem_cons_self | refine List.mem_cons_of_mem _ ?_ | refine List.mem_append_right _ ?_)); done) | fail) rfl) | exact Z.Yd.load rfl Try.isAgg3 (fun _ => Z.cellO (by assumption) (by simp) (by assumption)) | fail "load 3.2") ?_
      refine Z.lb 1 rfl ?_
      refine Z.le rfl trivial ?_
      refine Z.ZO.callP rfl rfl rfl Try.call46 rfl (opened_bad lc lc (wid lc) A m c l _ hl hm h) ?_
      rintro c3_4 w3_4 ⟨rfl, hy⟩
      replace hs := hs.call hy
      clear hy
      try simp only [List.cons_append, List.nil_append, List.append_nil] at hs
      replace hs := hs.sel [0, 1] (by decide)
      repeat (first | refine Z.pthen ?_ | refine Z.pblock ?_ | refine Z.pscope ?_)
      -- ret#0
      refine Z.outDp Try.call44 (caught_pan g3 _ _ _ _ _ [SX.Ent.blk g2 _ _] _ _ (hs.lend (L2 := [])) Try.call49 (fun W hW ↦ idclear g2 _ _ W hW)) ?_
      rintro vD wD ⟨rfl, hz⟩
      replace hs := hs.regain (L2 := []) hz
      refine ⟨[_, _], (by exact ⟨⟨_, rfl, Z.rvc hs Try.isAgg40 (by first | ((repeat (first | exact List.mem_cons_self | refine List.mem_cons_of_mem _ ?_ | refine List.mem_append_right _ ?_)); done) | fail) rfl⟩, ⟨_, rfl, Z.rvc hs Try.isAgg32 (by first | ((repeat (first | exact List.mem_cons_self | refine List.mem_cons_of_mem _ ?_ | refine List.mem_append_right _ ?_)); done) | fail) rfl⟩, trivial⟩), ?_⟩
      exact ⟨_, rfl, rfl, hs.sub (List.nil_sublist _)⟩
  · have eE : idE lc l = 2 := by unfold idE; rw [if_neg hi]
    have eV : idV lc l = 0 := by unfold idV; rw [if_neg (by omega)]
    rw [eE, eV]
    refine Z.enterD Try.func25 rfl Try.ntmps25 rfl rfl ?_
    refine Z.seq ?_
    refine Z.region ?_
    refine Z.le rfl trivial ?_
    refine Z.ZO.box rfl rfl (by rfl) rfl rfl hs ?_
    clear hs; intro g1 w1 hs
    refine Z.le rfl trivial ?_
    refine Z.ZO.alloc rfl rfl (by rfl) Try.zeroValue40 rfl hs ?_
    clear hs; intro g2 w2 hs
    refine Z.le rfl trivial ?_
    refine Z.ZO.alloc rfl rfl (by rfl) Try.zeroValue32 rfl hs ?_
    clear hs; intro g3 w3 hs
    refine Z.lnil ?_
    refine Z.only [1, 2, 3] rfl ?_
    refine Z.nthen ?_
    refine Z.seq ?_
    refine Z.region ?_
    refine Z.lb 1 rfl ?_
    refine Z.le rfl trivial ?_
    refine Z.ZO.defer rfl rfl rfl rfl ?_
    refine Z.lnil ?_
    refine Z.only [1, 2, 3] rfl ?_
    refine Z.nthen ?_
    refine Z.seq ?_
    refine Z.region ?_
    refine Z.l rfl rfl (by rfl) (Z.keepS hs) (Z.Yd.fieldA (m := 0) rfl (by kernel_rfl)) ?_
    refine Z.l rfl rfl (by rfl) (Z.keepS hs) (by first | exact Z.Yd.load rfl Try.isAgg3 (fun _ => Z.cellB (by first | ((repeat (first | exact List.mem_cons_self | refine List.mem_cons_of_mem _ ?_ | refine List.mem_append_right _ ?_)); done) | fail) rfl) | exact Z.Yd.load rfl Try.isAgg3 (fun _ => Z.cellO (by assumption) (by simp) (by assumption)) | fail "load 2.1") ?_
    refine Z.le rfl trivial ?_
    refine Z.ZO.callP rfl rfl rfl Try.call41 rfl (width_bad lc _ hi) ?_
    rintro c2_2 w2_2 ⟨rfl, hy⟩
    replace hs := hs.call hy
    clear hy
    try simp only [List.cons_append, List.nil_append, List.append_nil] at hs
    replace hs := hs.sel [0, 1] (by decide)
    repeat (first | refine Z.pthen ?_ | refine Z.pblock ?_ | refine Z.pscope ?_)
    -- ret#0
    refine Z.outDp Try.call44 (caught_pan g3 _ _ _ _ _ [SX.Ent.blk g2 _ _] _ _ (hs.lend (L2 := [])) Try.call49 (fun W hW ↦ idclear g2 _ _ W hW)) ?_
    rintro vD wD ⟨rfl, hz⟩
    replace hs := hs.regain (L2 := []) hz
    refine ⟨[_, _], (by exact ⟨⟨_, rfl, Z.rvc hs Try.isAgg40 (by first | ((repeat (first | exact List.mem_cons_self | refine List.mem_cons_of_mem _ ?_ | refine List.mem_append_right _ ?_)); done) | fail) rfl⟩, ⟨_, rfl, Z.rvc hs Try.isAgg32 (by first | ((repeat (first | exact List.mem_cons_self | refine List.mem_cons_of_mem _ ?_ | refine List.mem_append_right _ ?_)); done) | fail) rfl⟩, trivial⟩), ?_⟩
    exact ⟨_, rfl, rfl, hs.sub (List.nil_sublist _)⟩
end Go.Proofs.Yteabcdmgklhijaa
