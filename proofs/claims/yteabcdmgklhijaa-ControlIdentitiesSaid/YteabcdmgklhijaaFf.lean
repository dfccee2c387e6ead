/- The writer's calls and the document's PutAll. -/
import Derived.Test.YteabcdmgklhijaaFe
import Derived.Test.YteabcdmgklhijaaZv
namespace Go.Proofs.Yteabcdmgklhijaa
open Go.RowKit
set_option linter.unusedSimpArgs false
set_option linter.unusedVariables false

def quoF (f : Int × Int) : Nat := f.1.toNat / 2 ^ f.2.toNat
/-- the error of a field -/
def chkF (f : Int × Int) : Int := if f.2 < 0 ∨ 64 < f.2 then 2 else if quoF f = 0 then 0 else 4
def encF (f : Int × Int) : List Value := [.int .u64 f.1, .int .i64 f.2]
def fldF (f : Int × Int) : List Bool := fld f.1.toNat f.2.toNat
def GoodF (f : Int × Int) : Prop := 0 ≤ f.1 ∧ f.1 < 18446744073709551616 ∧ -9223372036854775808 ≤ f.2 ∧ f.2 ≤ 9223372036854775807
def chkA : List (Int × Int) → Int
  | [] => 0
  | f :: fs => if chkF f = 0 then chkA fs else chkF f
def resA (bs : List Bool) (fs : List (Int × Int)) : List Bool := if chkA fs = 0 then bs ++ fs.flatMap fldF else bs
theorem encF_length (f : Int × Int) : (encF f).length = 2 := rfl
theorem chkA_app : ∀ a b : List (Int × Int), chkA a = 0 → chkA (a ++ b) = chkA b
  | [], b, _ => rfl
  | f :: a, b, h => by
    by_cases hf : chkF f = 0
    · simp only [chkA, if_pos hf, List.cons_append] at h ⊢
      exact chkA_app a b h
    · simp only [chkA, if_neg hf] at h
      exact absurd h hf
theorem chkA_at {fs : List (Int × Int)} {k : Nat} {f : Int × Int} (h : fs[k]? = some f) (h0 : chkA (fs.take k) = 0) (hf : chkF f ≠ 0) : chkA fs = chkF f := by
  have e : fs = fs.take (k + 1) ++ fs.drop (k + 1) := (List.take_append_drop _ _).symm
  rw [← take_snoc h] at e
  rw [e, List.append_assoc, chkA_app _ _ h0]
  simp [chkA, hf]
theorem chkA_snoc {fs : List (Int × Int)} {k : Nat} {f : Int × Int} (h : fs[k]? = some f) (h0 : chkA (fs.take k) = 0) (hf : chkF f = 0) : chkA (fs.take (k + 1)) = 0 := by
  rw [← take_snoc h, chkA_app _ _ h0]
  simp [chkA, hf]
theorem chkA_mem : ∀ {fs : List (Int × Int)}, chkA fs = 0 → ∀ f ∈ fs, chkF f = 0
  | [], _, f, h => by simp at h
  | g :: fs, h0, f, h => by
    by_cases hg : chkF g = 0
    · simp only [chkA, if_pos hg] at h0
      rcases List.mem_cons.1 h with rfl | h
      · exact hg
      · exact chkA_mem h0 f h
    · simp only [chkA, if_neg hg] at h0
      exact absurd h0 hg
theorem chkF_bd {f : Int × Int} (h : chkF f = 0) : 0 ≤ f.2 ∧ f.2 ≤ 64 ∧ quoF f = 0 := by
  unfold chkF at h
  split at h
  · simp at h
  · split at h
    · rename_i h1 h2
      exact ⟨by omega, by omega, h2⟩
    · simp at h
theorem flatF_length {fs : List (Int × Int)} (h : chkA fs = 0) : (fs.flatMap fldF).length ≤ fs.length * 64 := by
  induction fs with
  | nil => simp
  | cons f fs ih =>
    have h1 := chkF_bd (chkA_mem h f (by simp))
    have h2 : chkA fs = 0 := by
      by_cases hf : chkF f = 0
      · simpa only [chkA, if_pos hf] using h
      · simp only [chkA, if_neg hf] at h; exact absurd h hf
    have := ih h2
    simp only [List.flatMap_cons, List.length_append, List.length_cons, fldF, fld_length]
    omega
theorem take_zero {fs : List (Int × Int)} {k : Nat} (h : chkA fs = 0) : chkA (fs.take k) = 0 := by
  induction fs generalizing k with
  | nil => simp [chkA]
  | cons f fs ih =>
    cases k with
    | zero => rfl
    | succ k =>
      by_cases hf : chkF f = 0
      · simp only [chkA, if_pos hf, List.take_succ_cons] at h ⊢
        exact ih h
      · simp only [chkA, if_neg hf] at h; exact absurd h hf
theorem resA_length {bs : List Bool} {fs : List (Int × Int)} : (resA bs fs).length ≤ bs.length + fs.length * 64 := by
  unfold resA
  split
  · rename_i h
    have := flatF_length h
    simp only [List.length_append]
    omega
  · omega

theorem shr_chk (v wd : Int) (h0 : 0 ≤ v) (hw : 0 ≤ wd) (h64 : wd < 64) : v.fdiv (2 ^ (min wd.toNat IntKind.u64.bits)) = (quoF (v, wd) : Int) := by
  obtain ⟨n, rfl⟩ := Int.eq_ofNat_of_zero_le h0
  have e : min wd.toNat IntKind.u64.bits = wd.toNat := by
    have : IntKind.u64.bits = 64 := rfl
    omega
  rw [e, Int.fdiv_eq_ediv_of_nonneg _ (Int.le_of_lt (Int.pow_pos (by decide)))]
  simp [quoF]

theorem quo64 {v wd : Int} (h : wd = 64) (h1 : v < 18446744073709551616) : quoF (v, wd) = 0 := by
  subst h
  exact Nat.div_eq_of_lt (by simp only; have : (2 : Nat) ^ (64 : Int).toNat = 18446744073709551616 := by decide
                             omega)

theorem check_any (v wd : Int) (w : World) (hg : GoodF (v, wd)) :
    Calls Try.prog 61 #[.agg #[.int .u64 v, .int .i64 wd]] w (SX.Ret fun r w' => r = .int .i64 (chkF (v, wd)) ∧ SX.St w [] w' []) := by
  have hs := SX.St.start w
  obtain ⟨h0, h1, h2, h3⟩ := hg
  simp only at h0 h1 h2 h3
  refine Z.enter Try.func61 rfl Try.ntmps61 rfl rfl ?_
  refine Z.seq ?_
  refine Z.region ?_
  refine Z.le rfl trivial ?_
  refine Z.ZO.box rfl rfl (by rfl) rfl rfl hs ?_
  clear hs; intro g1 w1 hs
  refine Z.lb 1 rfl ?_
  refine Z.lnil ?_
  refine Z.only [1] rfl ?_
  refine Z.nthen ?_
  refine Z.seq ?_
  refine Z.block ?_
  refine Z.seq ?_
  refine Z.region ?_
  refine Z.l rfl rfl (by rfl) (Z.keepS hs) (Z.Yd.fieldA (m := 1) rfl (by kernel_rfl)) ?_
  refine Z.l rfl rfl (by rfl) (Z.keepS hs) (by first | exact Z.Yd.load rfl Try.isAgg3 (fun _ => Z.cellB (by first | ((repeat (first | exact List.mem_cons_self | refine List.mem_cons_of_mem _ ?_ | refine List.mem_append_right _ ?_)); done) | fail) rfl) | exact Z.Yd.load rfl Try.isAgg3 (fun _ => Z.cellO (by assumption) (by simp) (by assumption)) | fail "load 1.1") ?_
  refine Z.lb 2 rfl ?_
  refine Z.l rfl rfl (by rfl) (Z.keepS hs) (Z.Yd.fieldA (m := 1) rfl (by kernel_rfl)) ?_
  refine Z.l rfl rfl (by rfl) (Z.keepS hs) (by first | exact Z.Yd.load rfl Try.isAgg3 (fun _ => Z.cellB (by first | ((repeat (first | exact List.mem_cons_self | refine List.mem_cons_of_mem _ ?_ | refine List.mem_append_right _ ?_)); done) | fail) rfl) | exact Z.Yd.load rfl Try.isAgg3 (fun _ => Z.cellO (by assumption) (by simp) (by assumption)) | fail "load 1.5") ?_
  refine Z.lb 3 rfl ?_
  refine Z.lnil ?_
  refine Z.only [1, 3] rfl ?_
  refine Z.nthen ?_
  refine Z.cond rfl (fun hc1 => ?_) (fun hc1 => ?_)
  · first
      | (exfalso; simp at hc1 <;> omega)
      | (
        (try simp at hc1)
        refine Z.seq ?_
        refine Z.region ?_
        refine Z.lb 1 rfl ?_
        refine Z.lnil ?_
        refine Z.only [2] rfl ?_
        refine Z.nthen ?_
        refine Z.ret ?_
        repeat (first | refine Z.rthen ?_ | refine Z.rblock ?_ | refine Z.rscope ?_)
        -- ret#0
        refine Z.out1 (by exact ⟨rfl, trivial⟩) ?_
        exact ⟨_, rfl, by unfold chkF; rw [if_pos (by simp only; omega)], hs.sub (List.nil_sublist _)⟩
        )
  · first
      | (exfalso; simp at hc1 <;> omega)
      | (
        (try simp at hc1)
        refine Z.seq ?_
        refine Z.region ?_
        refine Z.l rfl rfl (by rfl) (Z.keepS hs) (Z.Yd.fieldA (m := 1) rfl (by kernel_rfl)) ?_
        refine Z.l rfl rfl (by rfl) (Z.keepS hs) (by first | exact Z.Yd.load rfl Try.isAgg3 (fun _ => Z.cellB (by first | ((repeat (first | exact List.mem_cons_self | refine List.mem_cons_of_mem _ ?_ | refine List.mem_append_right _ ?_)); done) | fail) rfl) | exact Z.Yd.load rfl Try.isAgg3 (fun _ => Z.cellO (by assumption) (by simp) (by assumption)) | fail "load 3.1") ?_
        refine Z.lb 2 rfl ?_
        refine Z.l rfl rfl (by rfl) (Z.keepS hs) (Z.Yd.fieldA (m := 0) rfl (by kernel_rfl)) ?_
        refine Z.l rfl rfl (by rfl) (Z.keepS hs) (by first | exact Z.Yd.load rfl Try.isAgg40 (fun _ => Z.cellB (by first | ((repeat (first | exact List.mem_cons_self | refine List.mem_cons_of_mem _ ?_ | refine List.mem_append_right _ ?_)); done) | fail) rfl) | exact Z.Yd.load rfl Try.isAgg40 (fun _ => Z.cellO (by assumption) (by simp) (by assumption)) | fail "load 3.5") ?_
        refine Z.l rfl rfl (by rfl) (Z.keepS hs) (Z.Yd.fieldA (m := 1) rfl (by kernel_rfl)) ?_
        refine Z.l rfl rfl (by rfl) (Z.keepS hs) (by first | exact Z.Yd.load rfl Try.isAgg3 (fun _ => Z.cellB (by first | ((repeat (first | exact List.mem_cons_self | refine List.mem_cons_of_mem _ ?_ | refine List.mem_append_right _ ?_)); done) | fail) rfl) | exact Z.Yd.load rfl Try.isAgg3 (fun _ => Z.cellO (by assumption) (by simp) (by assumption)) | fail "load 3.7") ?_
        refine Z.l rfl rfl (by rfl) (Z.keepS hs) (Z.Yd.shr rfl rfl (by intro hG; first | decide | omega) (by intro hG; have hG' := Z.gh rfl hG; simp at hG'; exact shr_chk v wd h0 (by omega) (by omega))) ?_
        refine Z.lb 3 rfl ?_
        refine Z.lnil ?_
        refine Z.only [12] rfl ?_
        refine Z.nthen ?_
        refine Z.cond rfl (fun hc3 => ?_) (fun hc3 => ?_)
        · first
            | (exfalso; simp at hc3 <;> omega)
            | (
              (try simp at hc3)
              refine Z.seq ?_
              refine Z.region ?_
              refine Z.lb 1 rfl ?_
              refine Z.lnil ?_
              refine Z.only [2] rfl ?_
              refine Z.nthen ?_
              refine Z.ret ?_
              repeat (first | refine Z.rthen ?_ | refine Z.rblock ?_ | refine Z.rscope ?_)
              -- ret#1
              refine Z.out1 (by exact ⟨rfl, trivial⟩) ?_
              exact ⟨_, rfl, by unfold chkF; rw [if_neg (by simp only; omega), if_neg (by omega)], hs.sub (List.nil_sublist _)⟩
              )
        · first
            | (exfalso; simp at hc3 <;> omega)
            | (
              (try simp at hc3)
              refine Z.skip ?_
              refine Z.nblock ?_
              refine Z.nthen ?_
              refine Z.seq ?_
              refine Z.region ?_
              refine Z.lb 1 rfl ?_
              refine Z.lnil ?_
              refine Z.only [2] rfl ?_
              refine Z.nthen ?_
              refine Z.ret ?_
              -- ret#2
              refine Z.out1 (by exact ⟨rfl, trivial⟩) ?_
              exact ⟨_, rfl, by unfold chkF; rw [if_neg (by simp only; omega), if_pos (by by_cases h : wd < 64; exact (by have := hc3 h; omega); exact quo64 (by omega) h1)], hs.sub (List.nil_sublist _)⟩
              )
        )
set_option maxRecDepth 100000 in
theorem putAll_any (g T : Nat) (sv : Value) (bs : List Bool) (A : Option Addr) (n c : Nat) (fs : List (Int × Int)) (w : World) (hs : SX.St w (SX.idsOf (WrL g T sv bs)) w (WrL g T sv bs))
    (hx : Sx w (SX.idsOf (WrL g T sv bs)) A (fs.flatMap encF)) (hl : fs.length = n) (hn : n ≤ 1000) (hb : bs.length ≤ 1000000) (hg : ∀ f ∈ fs, GoodF f) :
    Calls Try.prog 55 #[.pointer (some ⟨g, 0, none⟩), .slice A n c] w (SX.Ret fun r w' => ∃ sv', r = .int .i64 (chkA fs) ∧ SX.St w (SX.idsOf (WrL g T sv bs)) w' (WrL g T sv' (resA bs fs))) := by
  generalize hM : SX.idsOf (WrL g T sv bs) = M at *
  have hfl : (fs.flatMap encF).length = n * 2 := by rw [Z.flat_length (s := 2) encF_length, hl]
  refine Z.enter Try.func55 rfl Try.ntmps55 rfl rfl ?_
  refine Z.seq ?_
  refine Z.region ?_
  refine Z.lb 1 rfl ?_
  refine Z.lnil ?_
  refine Z.only [0, 1] rfl ?_
  refine Z.nthen ?_
  refine Z.seq ?_
  refine Z.seq ?_
  refine Z.region ?_
  refine Z.lb 1 rfl ?_
  refine Z.l rfl rfl (by rfl) (Z.keepS hs) (Z.Yd.ptrNil rfl rfl Try.underlying100) ?_
  refine Z.lnil ?_
  refine Z.only [0, 1, 11] rfl ?_
  refine Z.nthen ?_
  refine Z.cond rfl (fun h => absurd h (by simp)) (fun hc1 => ?_)
  refine Z.skip ?_
  refine Z.nthen ?_
  refine Z.seq ?_
  refine Z.seq ?_
  refine Z.region ?_
  refine Z.lb 1 rfl ?_
  refine Z.l rfl rfl (by rfl) (Z.keepS hs) (Z.Yd.lenS rfl Try.underlying87) ?_
  refine Z.lb 1 rfl ?_
  refine Z.lnil ?_
  refine Z.only [0, 1, 12, 13, 14] rfl ?_
  refine Z.nthen ?_
  refine Z.block ?_
  refine Z.loopk (ι := Nat) [0, 1, 12, 13] rfl (fun k => [(14, [], .int .i64 (k : Int))]) (fun k wr => k ≤ n ∧ chkA (fs.take k) = 0 ∧ SX.St w M wr (WrL g T sv bs)) (fun k => n - k) 0 (by refine ⟨?_, trivial⟩ <;> (first | rfl | (refine Z.lookv rfl ?_; simp; done) | (refine Z.lookv rfl ?_; simp; omega))) ⟨by omega, rfl, hs⟩ ?_
  clear hs
  rintro k w1 ⟨hkn, hz, hs⟩
  refine Z.only [0, 1, 12, 13, 14] rfl ?_
  refine Z.seq ?_
  refine Z.region ?_
  refine Z.lb 1 rfl ?_
  refine Z.lnil ?_
  refine Z.only [0, 1, 12, 13, 14, 15] rfl ?_
  refine Z.nthen ?_
  refine Z.seq ?_
  refine Z.cond rfl (fun hc4 => ?_) (fun hc4 => ?_)
  · first
      | (exfalso; simp at hc4 <;> omega)
      | (
        (try simp at hc4)
        obtain ⟨b, off, rfl, hx⟩ := hx.some (by omega)
        obtain ⟨⟨v, wd⟩, hf⟩ : ∃ f, fs[k]? = some f := ⟨_, List.getElem?_eq_getElem (by omega)⟩
        have hgf := hg _ (List.mem_of_getElem? hf)
        refine Z.skip ?_
        refine Z.nthen ?_
        refine Z.seq ?_
        refine Z.block ?_
        refine Z.seq ?_
        refine Z.region ?_
        refine Z.l rfl rfl (by rfl) (Z.keepS hs) (Z.Yd.elem rfl rfl Try.underlying87 Try.sizeOf68 (fun hG => ⟨(by first | omega | (have hG' := Z.gh rfl hG; simp at hG'; omega)), (by first | omega | (have hG' := Z.gh rfl hG; simp at hG'; omega))⟩)) ?_
        refine Z.l rfl rfl (by rfl) (Z.keepS hs) (Z.Yd.loadA _ rfl Try.isAgg68 (fun _ => Z.cellsX [.int .u64 v, .int .i64 wd] hx encF_length hf rfl) (by exact Try.sizeOf68)) ?_
        refine Z.le rfl trivial ?_
        refine Z.ZO.alloc rfl rfl (by rfl) Try.zeroValue68 rfl hs ?_
        clear hs; intro g6 w6 hs
        refine Z.le rfl trivial ?_
        refine Z.ZO.storeA rfl rfl hs rfl rfl (by kernel_rfl) (by simp [Value.oneCell']) (by first | exact SX.at0 | exact SX.at1 | exact SX.at2 | exact SX.at3 | exact SX.at4 | exact SX.at5 | exact Z.at6 | exact Z.at7 | exact Z.at8 | exact Z.at9 | exact Z.at10 | exact Z.at11 | exact Z.at12) (by rfl) ?_
        clear hs; intro ws hs
        simp only [Nat.zero_add, Nat.add_zero, Nat.reduceAdd, List.set_cons_zero, List.set_cons_succ, List.setIfInBounds_toArray] at hs
        refine Z.lnil ?_
        refine Z.only [0, 1, 6, 12, 13, 14] rfl ?_
        refine Z.nthen ?_
        refine Z.seq ?_
        refine Z.region ?_
        refine Z.l rfl rfl (by rfl) (Z.keepS hs) (by first | exact Z.Yd.loadA _ rfl Try.isAgg68 (fun _ => Z.cellsB (by first | ((repeat (first | exact List.mem_cons_self | refine List.mem_cons_of_mem _ ?_ | refine List.mem_append_right _ ?_)); done) | fail)) (by exact Try.sizeOf68) | fail "load 6.0") ?_
        refine Z.le rfl trivial ?_
        refine Z.ZO.call rfl rfl (by rfl) rfl rfl Try.call61 rfl (check_any v wd _ hgf) ?_
        rintro v6_1 w6_1 ⟨rfl, hy⟩
        replace hs := hs.call hy
        clear hy
        try simp only [List.cons_append, List.nil_append, List.append_nil] at hs
        refine Z.lb 1 rfl ?_
        refine Z.lnil ?_
        refine Z.only [0, 1, 7, 12, 13, 14] rfl ?_
        refine Z.nthen ?_
        refine Z.seq ?_
        refine Z.region ?_
        refine Z.lb 2 rfl ?_
        refine Z.lnil ?_
        refine Z.only [0, 1, 7, 12, 13, 14, 21] rfl ?_
        refine Z.nthen ?_
        refine Z.cond rfl (fun hc7 => ?_) (fun hc7 => ?_)
        · first
            | (exfalso; simp at hc7 <;> omega)
            | (
              (try simp at hc7)
              refine Z.seq ?_
              refine Z.region ?_
              refine Z.lb 2 rfl ?_
              refine Z.lnil ?_
              refine Z.only [4] rfl ?_
              refine Z.nthen ?_
              refine Z.ret ?_
              repeat (first | refine Z.rthen ?_ | refine Z.rblock ?_ | refine Z.rscope ?_)
              -- ret#0
              refine Z.out1 (by exact ⟨rfl, trivial⟩) ?_
              exact ⟨_, rfl, sv, by rw [chkA_at hf hz hc7], by unfold resA; rw [if_neg (by rw [chkA_at hf hz hc7]; exact hc7)]; exact hs.tl⟩
              )
        · first
            | (exfalso; simp at hc7 <;> omega)
            | (
              (try simp at hc7)
              refine Z.skip ?_
              refine Z.nblock ?_
              refine Z.nthen ?_
              refine Z.region ?_
              refine Z.l rfl rfl (by rfl) (Z.keepS hs) (Z.Yd.add rfl rfl (fun hG => Z.wi64 (by first | omega | (have hG' := Z.gh rfl hG; simp at hG'; omega)))) ?_
              refine Z.lb 1 rfl ?_
              refine Z.lnil ?_
              refine Z.only [0, 1, 12, 13, 14] rfl ?_
              refine Z.nthen ?_
              exact Z.again (k + 1) (by refine ⟨?_, ?_, ?_, ?_, ?_, trivial⟩ <;> (first | rfl | (refine Z.lookv rfl ?_; simp; done) | (refine Z.lookv rfl ?_; simp; omega))) ⟨by omega, chkA_snoc hf hz hc7, hs.tl⟩ (by omega)
              )
        )
  · first
      | (exfalso; simp at hc4 <;> omega)
      | (
        (try simp at hc4)
        refine Z.exit ?_
        refine Z.xthen ?_
        refine Z.xthen ?_
        refine Z.xblock ?_
        refine Z.nthen ?_
        refine Z.seq ?_
        refine Z.seq ?_
        refine Z.region ?_
        have hz0 : chkA fs = 0 := by rw [List.take_of_length_le (by omega)] at hz; exact hz
        refine Z.l rfl rfl (by rfl) (Z.keepS hs) (Z.Yd.pure rfl) ?_
        refine Z.l rfl rfl (by rfl) (Z.keepS hs) (Z.Yd.lenS rfl Try.underlying87) ?_
        refine Z.lb 1 rfl ?_
        refine Z.lnil ?_
        refine Z.only [0, 24, 25, 26] rfl ?_
        refine Z.nthen ?_
        refine Z.block ?_
        refine Z.loopk (ι := Nat × Value) [0, 24, 25] rfl (fun k => [(26, [], .int .i64 (k.1 : Int))]) (fun k wr => k.1 ≤ n ∧ SX.St w M wr (WrL g T k.2 (bs ++ (fs.take k.1).flatMap fldF))) (fun k => n - k.1) (0, sv) (by refine ⟨?_, trivial⟩ <;> (first | rfl | (refine Z.lookv rfl ?_; simp; done) | (refine Z.lookv rfl ?_; simp; omega))) ⟨by omega, by simpa using hs⟩ ?_
        clear hs
        rintro ⟨j, sv1⟩ w2 ⟨hjn, hs⟩
        refine Z.only [0, 24, 25, 26] rfl ?_
        dsimp only at hs
        refine Z.seq ?_
        refine Z.region ?_
        refine Z.lb 1 rfl ?_
        refine Z.lnil ?_
        refine Z.only [0, 24, 25, 26, 27] rfl ?_
        refine Z.nthen ?_
        refine Z.seq ?_
        refine Z.cond rfl (fun hc11 => ?_) (fun hc11 => ?_)
        · first
            | (exfalso; simp at hc11 <;> omega)
            | (
              (try simp at hc11)
              obtain ⟨b, off, rfl, hx⟩ := hx.some (by omega)
              obtain ⟨⟨v, wd⟩, hf⟩ : ∃ f, fs[j]? = some f := ⟨_, List.getElem?_eq_getElem (by omega)⟩
              have hgf := hg _ (List.mem_of_getElem? hf)
              obtain ⟨hw0, hw1, hw2⟩ := chkF_bd (chkA_mem hz0 _ (List.mem_of_getElem? hf))
              obtain ⟨hv0, hv1, -, -⟩ := hgf
              simp only at hw0 hw1 hv0 hv1
              obtain ⟨v, rfl⟩ := Int.eq_ofNat_of_zero_le hv0
              obtain ⟨wd, rfl⟩ := Int.eq_ofNat_of_zero_le hw0
              refine Z.skip ?_
              refine Z.nthen ?_
              refine Z.seq ?_
              refine Z.block ?_
              refine Z.seq ?_
              refine Z.region ?_
              refine Z.l rfl rfl (by rfl) (Z.keepS hs) (Z.Yd.elem rfl rfl Try.underlying87 Try.sizeOf68 (fun hG => ⟨(by first | omega | (have hG' := Z.gh rfl hG; simp at hG'; omega)), (by first | omega | (have hG' := Z.gh rfl hG; simp at hG'; omega))⟩)) ?_
              refine Z.l rfl rfl (by rfl) (Z.keepS hs) (Z.Yd.loadA _ rfl Try.isAgg68 (fun _ => Z.cellsX [.int .u64 (v : Int), .int .i64 (wd : Int)] hx encF_length hf rfl) (by exact Try.sizeOf68)) ?_
              refine Z.le rfl trivial ?_
              refine Z.ZO.alloc rfl rfl (by rfl) Try.zeroValue68 rfl hs ?_
              clear hs; intro g9 w9 hs
              refine Z.le rfl trivial ?_
              refine Z.ZO.storeA rfl rfl hs rfl rfl (by kernel_rfl) (by simp [Value.oneCell']) (by first | exact SX.at0 | exact SX.at1 | exact SX.at2 | exact SX.at3 | exact SX.at4 | exact SX.at5 | exact Z.at6 | exact Z.at7 | exact Z.at8 | exact Z.at9 | exact Z.at10 | exact Z.at11 | exact Z.at12) (by rfl) ?_
              clear hs; intro ws hs
              simp only [Nat.zero_add, Nat.add_zero, Nat.reduceAdd, List.set_cons_zero, List.set_cons_succ, List.setIfInBounds_toArray] at hs
              refine Z.lnil ?_
              refine Z.only [0, 9, 24, 25, 26] rfl ?_
              refine Z.nthen ?_
              refine Z.region ?_
              refine Z.lb 1 rfl ?_
              refine Z.l rfl rfl (by rfl) (Z.keepS hs) (Z.Yd.fieldA (m := 0) rfl (by kernel_rfl)) ?_
              refine Z.l rfl rfl (by rfl) (Z.keepS hs) (by first | exact Z.Yd.load rfl Try.isAgg40 (fun _ => Z.cellB (by first | ((repeat (first | exact List.mem_cons_self | refine List.mem_cons_of_mem _ ?_ | refine List.mem_append_right _ ?_)); done) | fail) rfl) | exact Z.Yd.load rfl Try.isAgg40 (fun _ => Z.cellO (by assumption) (by simp) (by assumption)) | fail "load 13.2") ?_
              refine Z.l rfl rfl (by rfl) (Z.keepS hs) (Z.Yd.fieldA (m := 1) rfl (by kernel_rfl)) ?_
              refine Z.l rfl rfl (by rfl) (Z.keepS hs) (by first | exact Z.Yd.load rfl Try.isAgg3 (fun _ => Z.cellB (by first | ((repeat (first | exact List.mem_cons_self | refine List.mem_cons_of_mem _ ?_ | refine List.mem_append_right _ ?_)); done) | fail) rfl) | exact Z.Yd.load rfl Try.isAgg3 (fun _ => Z.cellO (by assumption) (by simp) (by assumption)) | fail "load 13.4") ?_
              replace hs := hs.rot (L1 := [_])
              change SX.St _ _ _ (WrL g T sv1 _ ++ [_]) at hs
              have hlen : (bs ++ (fs.take j).flatMap fldF).length ≤ 1100000 := by
                have := flatF_length (take_zero (k := j) hz0)
                simp only [List.length_append, List.length_take] at this ⊢
                omega
              refine Z.le rfl trivial ?_
              refine Z.ZO.call rfl rfl (by rfl) rfl rfl Try.call62 rfl (put_any g T sv1 (bs ++ (fs.take j).flatMap fldF) v wd _ hs.lend (by omega) (by omega) (by omega)) ?_
              rintro v13_5 w13_5 ⟨sv2, rfl, hz⟩
              replace hs := hs.regain hz
              refine Z.lnil ?_
              refine Z.only [0, 24, 25, 26] rfl ?_
              refine Z.nblock ?_
              refine Z.nthen ?_
              refine Z.region ?_
              refine Z.l rfl rfl (by rfl) (Z.keepS hs) (Z.Yd.add rfl rfl (fun hG => Z.wi64 (by first | omega | (have hG' := Z.gh rfl hG; simp at hG'; omega)))) ?_
              refine Z.lb 1 rfl ?_
              refine Z.lnil ?_
              refine Z.only [0, 24, 25, 26] rfl ?_
              refine Z.nthen ?_
              have e : (bs ++ (fs.take j).flatMap fldF) ++ fld v wd = bs ++ (fs.take (j + 1)).flatMap fldF := by
                rw [← take_snoc hf]
                simp [fldF]
              rw [e] at hs
              exact Z.again (j + 1, sv2) (by refine ⟨?_, ?_, ?_, ?_, trivial⟩ <;> (first | rfl | (refine Z.lookv rfl ?_; simp; done) | (refine Z.lookv rfl ?_; simp; omega))) ⟨by simp only; omega, hs.sub (List.sublist_append_left _ _)⟩ (by simp only; omega)
              )
        · first
            | (exfalso; simp at hc11 <;> omega)
            | (
              (try simp at hc11)
              refine Z.exit ?_
              refine Z.xthen ?_
              refine Z.xthen ?_
              refine Z.xblock ?_
              refine Z.nthen ?_
              refine Z.seq ?_
              refine Z.region ?_
              refine Z.lb 1 rfl ?_
              refine Z.lnil ?_
              refine Z.only [4] rfl ?_
              refine Z.nthen ?_
              refine Z.ret ?_
              -- ret#1
              refine Z.out1 (by exact ⟨rfl, trivial⟩) ?_
              refine ⟨_, rfl, sv1, by rw [hz0], ?_⟩
              unfold resA
              rw [if_pos hz0]
              rw [List.take_of_length_le (by omega)] at hs
              exact hs
              )
        )

theorem pk_pad (bs : List Bool) : pk (pad bs) = pk bs := by
  have h : ∀ k m, bs.length + k ≤ 8 * m → pkn (bs ++ List.replicate k false) m = pkn bs m := by
    intro k
    induction k with
    | zero => intro m _; simp
    | succ k ih =>
      intro m hm
      rw [List.replicate_succ', ← List.append_assoc, pkn_false (by simp; omega), ih m (by omega)]
  unfold pk
  rw [pad_length, show ((bs.length + 7) / 8 * 8 + 7) / 8 = (bs.length + 7) / 8 from by omega]
  exact h _ _ (by omega)

theorem wbytes_any (g T : Nat) (sv : Value) (bs : List Bool) (w : World) (hs : SX.St w (SX.idsOf (WrL g T sv bs)) w (WrL g T sv bs)) (hb : bs.length ≤ 1000000) :
    Calls Try.prog 56 #[.pointer (some ⟨g, 0, none⟩)] w (SX.Ret fun r w' => SX.St w (SX.idsOf (WrL g T sv bs)) w' (SX.Ent.row r 5 1 (pk bs).length (ints .u8 (pk bs)) :: WrL g T sv bs)) := by
  generalize hM : SX.idsOf (WrL g T sv bs) = M at *
  simp only [WrL] at hs
  have hpl := pk_length bs
  obtain ⟨A, c, rfl, hl1, hl2, hx⟩ := SX.row_slv hs SX.at1
  refine Z.enter Try.func56 rfl Try.ntmps56 rfl rfl ?_
  refine Z.seq ?_
  refine Z.region ?_
  refine Z.lb 1 rfl ?_
  refine Z.lnil ?_
  refine Z.only [0] rfl ?_
  refine Z.nthen ?_
  refine Z.seq ?_
  refine Z.seq ?_
  refine Z.region ?_
  refine Z.lb 1 rfl ?_
  refine Z.l rfl rfl (by rfl) (Z.keepS hs) (Z.Yd.ptrNil rfl rfl Try.underlying100) ?_
  refine Z.lnil ?_
  refine Z.only [0, 4] rfl ?_
  refine Z.nthen ?_
  refine Z.cond rfl (fun h => absurd h (by simp)) (fun hc1 => ?_)
  refine Z.skip ?_
  refine Z.nthen ?_
  refine Z.seq ?_
  refine Z.region ?_
  refine Z.lb 1 rfl ?_
  refine Z.l rfl rfl (by rfl) (Z.keepS hs) (Z.Yd.nilc rfl rfl) ?_
  refine Z.l rfl rfl (by rfl) (Z.keepS hs) (Z.Yd.fieldA (m := 0) rfl (by kernel_rfl)) ?_
  refine Z.l rfl rfl (by rfl) (Z.keepS hs) (Z.Yd.fieldA (m := 0) rfl (by kernel_rfl)) ?_
  refine Z.l rfl rfl (by rfl) (Z.keepS hs) (by first | exact Z.Yd.load rfl Try.isAgg29 (fun _ => Z.cellB (by first | ((repeat (first | exact List.mem_cons_self | refine List.mem_cons_of_mem _ ?_ | refine List.mem_append_right _ ?_)); done) | fail) rfl) | exact Z.Yd.load rfl Try.isAgg29 (fun _ => Z.cellO (by assumption) (by simp) (by assumption)) | fail "load 3.4") ?_
  refine Z.le rfl trivial ?_
  refine Z.ZO.call rfl rfl (by rfl) rfl rfl Try.call63 rfl (clone8 [] A (pk bs).length c (pk bs) _ hx.sx rfl (by omega) (SX.row_none hs SX.at1)) ?_
  rintro v3_5 w3_5 hy
  replace hs := hs.call hy
  clear hy
  try simp only [List.cons_append, List.nil_append, List.append_nil] at hs
  refine Z.lb 1 rfl ?_
  refine Z.lnil ?_
  refine Z.only [2] rfl ?_
  refine Z.nthen ?_
  refine Z.ret ?_
  -- ret#0
  refine Z.out1 (by exact ⟨rfl, trivial⟩) ?_
  exact ⟨_, rfl, hs⟩
end Go.Proofs.Yteabcdmgklhijaa
