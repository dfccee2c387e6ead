/- Part 4 of the proofs that lead to the statement. -/
import Derived.Test.YtjgfooakcljddaaY3
/- Control elements: the document's decoders. -/
namespace Go.Proofs.Ytjgfooakcljddaa
open Go.RowKit
set_option linter.unusedSimpArgs false
set_option linter.unusedVariables false
--newlaws

def szE (l : List Int) (n : Int) : Int := if (l.length : Int) < n then 5 else if (l.length : Int) > n then 4 else 0
theorem rsize24 (lc n : Int) (A : Option Addr) (m c : Nat) (l : List Int) (w : World) (hl : l.length = m) :
    Calls Try.prog 68 #[.agg #[.int .i64 lc, .slice A m c], .int .i64 n] w (SX.Ret fun v w' => v = .int .i64 (szE l n) ∧ SX.St w [] w' []) := by
  have hs := SX.St.start w
  have h1 : szE l n = if (m : Int) < n then 5 else if (m : Int) > n then 4 else 0 := by rw [← hl]; rfl
  refine Z.enter Try.func68 rfl Try.ntmps68 rfl rfl ?_
  refine Z.seq ?_
  refine Z.region ?_
  refine Z.le rfl trivial ?_
  refine Z.ZO.box rfl rfl (by rfl) rfl rfl hs ?_
  clear hs; intro g2 w2 hs
  refine Z.lb 1 rfl ?_
  refine Z.lnil ?_
  refine Z.only [1, 2] rfl ?_
  refine Z.nthen ?_
  refine Z.seq ?_
  refine Z.seq ?_
  refine Z.region ?_
  refine Z.l rfl rfl (by rfl) (Z.keepS hs) (Z.Yd.fieldA (m := 1) rfl (by kernel_rfl)) ?_
  refine Z.l rfl rfl (by rfl) (Z.keepS hs) (by first | exact Z.Yd.load rfl Try.isAgg38 (fun _ => Z.cellB (by first | ((repeat (first | exact List.mem_cons_self | refine List.mem_cons_of_mem _ ?_ | refine List.mem_append_right _ ?_)); done) | fail) rfl) | exact Z.Yd.load rfl Try.isAgg38 (fun _ => Z.cellO (by assumption) (by simp) (by assumption)) | fail "load 1.1") ?_
  refine Z.l rfl rfl (by rfl) (Z.keepS hs) (Z.Yd.lenS rfl Try.underlying38) ?_
  refine Z.lb 2 rfl ?_
  refine Z.lnil ?_
  refine Z.only [1, 2, 9] rfl ?_
  refine Z.nthen ?_
  refine Z.cond rfl (fun hc1 => ?_) (fun hc1 => ?_)
  · first
      | (exfalso; simp at hc1 <;> omega)
      | (
        (try simp at hc1)
        refine Z.seq ?_
        refine Z.region ?_
        refine Z.lb 1 rfl ?_
        refine Z.lnil ?_
        refine Z.only [4] rfl ?_
        refine Z.nthen ?_
        refine Z.ret ?_
        repeat (first | refine Z.rthen ?_ | refine Z.rblock ?_ | refine Z.rscope ?_)
        -- ret#0
        refine Z.out1 (by exact ⟨rfl, trivial⟩) ?_
        exact ⟨_, rfl, by rw [h1]; simp_all, hs.sub (List.nil_sublist _)⟩
        )
  · first
      | (exfalso; simp at hc1 <;> omega)
      | (
        (try simp at hc1)
        refine Z.skip ?_
        refine Z.nthen ?_
        refine Z.seq ?_
        refine Z.seq ?_
        refine Z.region ?_
        refine Z.l rfl rfl (by rfl) (Z.keepS hs) (Z.Yd.fieldA (m := 1) rfl (by kernel_rfl)) ?_
        refine Z.l rfl rfl (by rfl) (Z.keepS hs) (by first | exact Z.Yd.load rfl Try.isAgg38 (fun _ => Z.cellB (by first | ((repeat (first | exact List.mem_cons_self | refine List.mem_cons_of_mem _ ?_ | refine List.mem_append_right _ ?_)); done) | fail) rfl) | exact Z.Yd.load rfl Try.isAgg38 (fun _ => Z.cellO (by assumption) (by simp) (by assumption)) | fail "load 3.1") ?_
        refine Z.l rfl rfl (by rfl) (Z.keepS hs) (Z.Yd.lenS rfl Try.underlying38) ?_
        refine Z.lb 2 rfl ?_
        refine Z.lnil ?_
        refine Z.only [14] rfl ?_
        refine Z.nthen ?_
        refine Z.cond rfl (fun hc3 => ?_) (fun hc3 => ?_)
        · first
            | (exfalso; simp at hc3 <;> omega)
            | (
              (try simp at hc3)
              refine Z.seq ?_
              refine Z.region ?_
              refine Z.lb 1 rfl ?_
              refine Z.lnil ?_
              refine Z.only [4] rfl ?_
              refine Z.nthen ?_
              refine Z.ret ?_
              repeat (first | refine Z.rthen ?_ | refine Z.rblock ?_ | refine Z.rscope ?_)
              -- ret#1
              refine Z.out1 (by exact ⟨rfl, trivial⟩) ?_
              exact ⟨_, rfl, by rw [h1]; simp_all <;> omega, hs.sub (List.nil_sublist _)⟩
              )
        · first
            | (exfalso; simp at hc3 <;> omega)
            | (
              (try simp at hc3)
              refine Z.skip ?_
              refine Z.nthen ?_
              refine Z.seq ?_
              refine Z.region ?_
              refine Z.lb 1 rfl ?_
              refine Z.lnil ?_
              refine Z.only [4] rfl ?_
              refine Z.nthen ?_
              refine Z.ret ?_
              -- ret#2
              refine Z.out1 (by exact ⟨rfl, trivial⟩) ?_
              exact ⟨_, rfl, by rw [h1]; simp_all <;> omega, hs.sub (List.nil_sublist _)⟩
              )
        )
theorem opE_sz (lc : Int) (l : List Int) (n : Int) : opE lc l lc n = szE l n := by simp [opE, szE]
theorem szE_len {l : List Int} {n : Int} (h : szE l n = 0) : (l.length : Int) = n := by
  unfold szE at h
  split at h
  · simp at h
  split at h
  · simp at h
  omega
theorem num_snocT (l : List Int) (j : Nat) (hj : j < l.length) : num (l.take (j + 1)) = 256 * num (l.take j) + elt l (j : Int) := by
  rw [List.take_add_one, List.getElem?_eq_getElem hj]
  show num (l.take j ++ [l[j]]) = _
  rw [num_snoc]
  simp [elt, hj]
theorem elt_byte {l : List Int} (hb : Byts l) (j : Nat) (hj : j < l.length) : 0 ≤ elt l (j : Int) ∧ elt l (j : Int) < 256 := by
  have := hb l[j] (List.getElem_mem hj)
  simpa [elt, hj] using this
theorem num_takeB {l : List Int} (hb : Byts l) (h : l.length ≤ 8) (j : Nat) : 0 ≤ num (l.take j) ∧ num (l.take j) < 18446744073709551616 := by
  have hb2 : Byts (l.take j) := fun x hx => hb x (List.mem_of_mem_take hx)
  have h1 := num_lt hb2
  have h2 : (l.take j).length ≤ 8 := by simp; omega
  have h3 : 2 ^ ((l.take j).length * 8) ≤ 2 ^ 64 := Nat.pow_le_pow_right (by decide) (by omega)
  refine ⟨num_nonneg hb2, ?_⟩
  have h4 : (2 : Nat) ^ 64 = 18446744073709551616 := rfl
  omega
theorem rdecid24 (lc : Int) (A : Option Addr) (m c : Nat) (l : List Int) (w : World) (hx : Sl w A (ints .u8 l)) (hl : l.length = m) (hm : m ≤ 9223372036854775807) (hb : Byts l) :
    Calls Try.prog 59 #[.agg #[.int .i64 lc, .slice A m c]] w (SX.Ret fun v w' => v = .tuple #[.int .u64 (idV lc l), .int .i64 (idE lc l)] ∧ SX.St w [] w' []) := by
  have hs := SX.St.start w
  by_cases hi : isId lc
  · have ew : 2 + 4 * (lc - 27) = wid lc := by
      rcases hi with rfl | rfl <;> rfl
    have hlc : 27 ≤ lc ∧ lc ≤ 28 := by
      rcases hi with rfl | rfl <;> omega
    have eE : idE lc l = szE l (wid lc) := by unfold idE; rw [if_pos hi, opE_sz]
    by_cases hz : szE l (wid lc) = 0
    · have hl1 := szE_len hz
      have hw : wid lc ≤ 6 ∧ 0 < wid lc := by unfold wid; split <;> omega
      have eV : idV lc l = num l := by unfold idV; rw [eE, if_pos hz]
      rw [eE, eV, hz]
      obtain ⟨bb, off, rfl, hbb, hx⟩ := Z.Sl.some hx (by simp [ints]; omega)
      refine Z.enter Try.func59 rfl Try.ntmps59 rfl rfl ?_
      refine Z.seq ?_
      refine Z.region ?_
      refine Z.le rfl trivial ?_
      refine Z.ZO.box rfl rfl (by rfl) rfl rfl hs ?_
      clear hs; intro g1 w1 hs
      refine Z.lb 2 rfl ?_
      refine Z.lnil ?_
      refine Z.only [1] rfl ?_
      refine Z.nthen ?_
      refine Z.seq ?_
      refine Z.seq ?_
      refine Z.region ?_
      refine Z.l rfl rfl (by rfl) (Z.keepS hs) (Z.Yd.fieldA (m := 0) rfl (by kernel_rfl)) ?_
      refine Z.l rfl rfl (by rfl) (Z.keepS hs) (by first | exact Z.Yd.load rfl Try.isAgg3 (fun _ => Z.cellB (by first | ((repeat (first | exact List.mem_cons_self | refine List.mem_cons_of_mem _ ?_ | refine List.mem_append_right _ ?_)); done) | fail) rfl) | exact Z.Yd.load rfl Try.isAgg3 (fun _ => Z.cellO (by assumption) (by simp) (by assumption)) | fail "load 1.1") ?_
      refine Z.lb 2 rfl ?_
      refine Z.l rfl rfl (by rfl) (Z.keepS hs) (Z.Yd.fieldA (m := 0) rfl (by kernel_rfl)) ?_
      refine Z.l rfl rfl (by rfl) (Z.keepS hs) (by first | exact Z.Yd.load rfl Try.isAgg3 (fun _ => Z.cellB (by first | ((repeat (first | exact List.mem_cons_self | refine List.mem_cons_of_mem _ ?_ | refine List.mem_append_right _ ?_)); done) | fail) rfl) | exact Z.Yd.load rfl Try.isAgg3 (fun _ => Z.cellO (by assumption) (by simp) (by assumption)) | fail "load 1.5") ?_
      refine Z.lb 2 rfl ?_
      refine Z.lnil ?_
      refine Z.only [1, 14] rfl ?_
      refine Z.nthen ?_
      refine Z.cond rfl (fun h => absurd h (by unfold isId at hi; simp; omega)) (fun hc1 => ?_)
      refine Z.skip ?_
      refine Z.nthen ?_
      refine Z.seq ?_
      refine Z.seq ?_
      refine Z.region ?_
      refine Z.l rfl rfl (by rfl) (Z.keepS hs) (by first | exact Z.Yd.loadA _ rfl Try.isAgg40 (fun _ => Z.cellsB (by first | ((repeat (first | exact List.mem_cons_self | refine List.mem_cons_of_mem _ ?_ | refine List.mem_append_right _ ?_)); done) | fail)) (by exact Try.sizeOf40) | fail "load 3.0") ?_
      refine Z.l rfl rfl (by rfl) (Z.keepS hs) (Z.Yd.fieldA (m := 0) rfl (by kernel_rfl)) ?_
      refine Z.l rfl rfl (by rfl) (Z.keepS hs) (by first | exact Z.Yd.load rfl Try.isAgg3 (fun _ => Z.cellB (by first | ((repeat (first | exact List.mem_cons_self | refine List.mem_cons_of_mem _ ?_ | refine List.mem_append_right _ ?_)); done) | fail) rfl) | exact Z.Yd.load rfl Try.isAgg3 (fun _ => Z.cellO (by assumption) (by simp) (by assumption)) | fail "load 3.2") ?_
      refine Z.l rfl rfl (by rfl) (Z.keepS hs) (Z.Yd.sub rfl rfl (fun hG => Z.wi64 (by first | omega | (have hG' := Z.gh rfl hG; simp at hG'; omega)))) ?_
      refine Z.l rfl rfl (by rfl) (Z.keepS hs) (Z.Yd.mul rfl rfl (fun hG => Z.wi64 (by first | omega | (have hG' := Z.gh rfl hG; simp at hG'; omega)))) ?_
      refine Z.l rfl rfl (by rfl) (Z.keepS hs) (Z.Yd.add rfl rfl (fun hG => Z.wi64 (by first | omega | (have hG' := Z.gh rfl hG; simp at hG'; omega)))) ?_
      rw [ew]
      refine Z.le rfl trivial ?_
      refine Z.ZO.call rfl rfl (by rfl) rfl rfl Try.call68 rfl (rsize24 lc _ _ m c l _ hl) ?_
      rintro v3_6 w3_6 ⟨rfl, hy⟩
      replace hs := hs.call hy
      clear hy
      try simp only [List.cons_append, List.nil_append, List.append_nil] at hs
      refine Z.lb 1 rfl ?_
      refine Z.lnil ?_
      refine Z.only [1, 4] rfl ?_
      refine Z.nthen ?_
      refine Z.seq ?_
      refine Z.region ?_
      refine Z.lb 2 rfl ?_
      refine Z.lnil ?_
      refine Z.only [1, 4, 23] rfl ?_
      refine Z.nthen ?_
      refine Z.cond rfl (fun h => absurd h (by simp [hz])) (fun hc4 => ?_)
      refine Z.skip ?_
      refine Z.nthen ?_
      refine Z.seq ?_
      refine Z.region ?_
      refine Z.lb 1 rfl ?_
      refine Z.lnil ?_
      refine Z.only [1, 5] rfl ?_
      refine Z.nthen ?_
      refine Z.seq ?_
      refine Z.seq ?_
      refine Z.region ?_
      refine Z.lb 1 rfl ?_
      refine Z.lnil ?_
      refine Z.only [1, 5, 6] rfl ?_
      refine Z.nthen ?_
      refine Z.block ?_
      refine Z.loopk (ι := Nat) [1] rfl (fun j => [(5, [], .int .u64 (num (l.take j))), (6, [], .int .i64 (j : Int))]) (fun j wr => j ≤ m ∧ SX.St w [] wr [SX.Ent.blk g1 40 #[.int .i64 lc, .slice (some ⟨bb, off, none⟩) m c]]) (fun j => m - j) 0 (by refine ⟨?_, ?_, trivial⟩ <;> (first | rfl | (refine Z.lookv rfl ?_; simp; done) | (refine Z.lookv rfl ?_; simp; omega))) ⟨by omega, hs⟩ ?_
      clear hs
      rintro j w2 ⟨hj, hs⟩
      refine Z.only [1, 5, 6] rfl ?_
      refine Z.seq ?_
      refine Z.seq ?_
      refine Z.region ?_
      refine Z.lb 1 rfl ?_
      refine Z.l rfl rfl (by rfl) (Z.keepS hs) (Z.Yd.fieldA (m := 1) rfl (by kernel_rfl)) ?_
      refine Z.l rfl rfl (by rfl) (Z.keepS hs) (by first | exact Z.Yd.load rfl Try.isAgg38 (fun _ => Z.cellB (by first | ((repeat (first | exact List.mem_cons_self | refine List.mem_cons_of_mem _ ?_ | refine List.mem_append_right _ ?_)); done) | fail) rfl) | exact Z.Yd.load rfl Try.isAgg38 (fun _ => Z.cellO (by assumption) (by simp) (by assumption)) | fail "load 8.2") ?_
      refine Z.l rfl rfl (by rfl) (Z.keepS hs) (Z.Yd.lenS rfl Try.underlying38) ?_
      refine Z.lb 1 rfl ?_
      refine Z.lnil ?_
      refine Z.only [1, 5, 6, 29] rfl ?_
      refine Z.nthen ?_
      refine Z.cond rfl (fun hc8 => ?_) (fun hc8 => ?_)
      · first
          | (exfalso; simp at hc8 <;> omega)
          | (
            (try simp at hc8)
            have hbj := num_takeB hb (by omega) j
            have hbj1 := num_takeB hb (by omega) (j + 1)
            have hel := elt_byte hb j (by omega)
            rw [num_snocT l j (by omega)] at hbj1
            refine Z.skip ?_
            refine Z.nthen ?_
            refine Z.seq ?_
            refine Z.block ?_
            refine Z.region ?_
            refine Z.lb 1 rfl ?_
            refine Z.l rfl rfl (by rfl) (Z.keepS hs) (Z.Yd.mul rfl rfl (fun hG => Z.wu64 (by first | omega | (have hG' := Z.gh rfl hG; simp at hG'; omega)))) ?_
            refine Z.l rfl rfl (by rfl) (Z.keepS hs) (Z.Yd.fieldA (m := 1) rfl (by kernel_rfl)) ?_
            refine Z.l rfl rfl (by rfl) (Z.keepS hs) (by first | exact Z.Yd.load rfl Try.isAgg38 (fun _ => Z.cellB (by first | ((repeat (first | exact List.mem_cons_self | refine List.mem_cons_of_mem _ ?_ | refine List.mem_append_right _ ?_)); done) | fail) rfl) | exact Z.Yd.load rfl Try.isAgg38 (fun _ => Z.cellO (by assumption) (by simp) (by assumption)) | fail "load 10.3") ?_
            refine Z.lb 1 rfl ?_
            refine Z.l rfl rfl (by rfl) (Z.keepS hs) (Z.Yd.elem rfl rfl Try.underlying38 Try.sizeOf5 (fun hG => ⟨(by first | omega | (have hG' := Z.gh rfl hG; simp at hG'; omega)), (by first | omega | (have hG' := Z.gh rfl hG; simp at hG'; omega))⟩)) ?_
            refine Z.l rfl rfl (by rfl) (Z.keepS hs) (by first | exact Z.Yd.load rfl Try.isAgg5 (fun _ => Z.cellB (by first | ((repeat (first | exact List.mem_cons_self | refine List.mem_cons_of_mem _ ?_ | refine List.mem_append_right _ ?_)); done) | fail) rfl) | exact Z.Yd.load rfl Try.isAgg5 (fun hG => Z.cellR (by first | ((repeat (first | exact List.mem_cons_self | refine List.mem_cons_of_mem _ ?_ | refine List.mem_append_right _ ?_)); done) | fail) (Z.ints_at (by first | omega | (have hG' := Z.gh rfl hG; simp at hG'; omega)) (by first | omega | (have hG' := Z.gh rfl hG; simp at hG'; omega)))) | exact Z.Yd.load rfl Try.isAgg5 (fun hG => Z.cellXi (by assumption) (by first | omega | (have hG' := Z.gh rfl hG; simp at hG'; omega)) (by first | omega | (have hG' := Z.gh rfl hG; simp at hG'; omega))) | exact Z.Yd.load rfl Try.isAgg5 (fun hG => Z.cellS (by assumption) rfl (by first | omega | (have hG' := Z.gh rfl hG; simp at hG'; omega)) (by first | omega | (have hG' := Z.gh rfl hG; simp at hG'; omega))) | fail "load 10.6") ?_
            refine Z.l rfl rfl (by rfl) (Z.keepS hs) (Z.Yd.convI rfl ⟨_, Try.underlying5⟩ Try.underlying22 (fun hG => Z.wu64 (by first | omega | (have hG' := Z.gh rfl hG; simp at hG'; omega)))) ?_
            refine Z.l rfl rfl (by rfl) (Z.keepS hs) (Z.Yd.add rfl rfl (fun hG => Z.wu64 (by first | omega | (have hG' := Z.gh rfl hG; simp at hG'; omega)))) ?_
            refine Z.lb 1 rfl ?_
            refine Z.lnil ?_
            refine Z.only [1, 5, 6] rfl ?_
            refine Z.nblock ?_
            refine Z.nthen ?_
            refine Z.region ?_
            refine Z.lb 1 rfl ?_
            refine Z.l rfl rfl (by rfl) (Z.keepS hs) (Z.Yd.add rfl rfl (fun hG => Z.wi64 (by first | omega | (have hG' := Z.gh rfl hG; simp at hG'; omega)))) ?_
            refine Z.lb 1 rfl ?_
            refine Z.lnil ?_
            refine Z.only [1, 5, 6] rfl ?_
            refine Z.nthen ?_
            rw [← num_snocT l j (by omega)]
            exact Z.again (j + 1) (by refine ⟨?_, ?_, ?_, trivial⟩ <;> (first | rfl | (refine Z.lookv rfl ?_; simp; done) | (refine Z.lookv rfl ?_; simp; omega))) ⟨by omega, hs⟩ (by omega)
            )
      · first
          | (exfalso; simp at hc8 <;> omega)
          | (
            (try simp at hc8)
            refine Z.exit ?_
            refine Z.xthen ?_
            refine Z.xthen ?_
            refine Z.xblock ?_
            refine Z.nthen ?_
            refine Z.seq ?_
            refine Z.region ?_
            obtain rfl : j = m := by omega
            rw [List.take_of_length_le (by omega)]
            refine Z.l rfl rfl (by rfl) (Z.keepS hs) (Z.Yd.pure rfl) ?_
            refine Z.lb 2 rfl ?_
            refine Z.lnil ?_
            refine Z.only [2, 3] rfl ?_
            refine Z.nthen ?_
            refine Z.ret ?_
            -- ret#0
            refine Z.out2 (by exact ⟨rfl, rfl, trivial⟩) ?_
            exact ⟨_, rfl, rfl, hs.sub (List.nil_sublist _)⟩
            )
    · have eV : idV lc l = 0 := by unfold idV; rw [eE, if_neg hz]
      rw [eE, eV]
      refine Z.enter Try.func59 rfl Try.ntmps59 rfl rfl ?_
      refine Z.seq ?_
      refine Z.region ?_
      refine Z.le rfl trivial ?_
      refine Z.ZO.box rfl rfl (by rfl) rfl rfl hs ?_
      clear hs; intro g1 w1 hs
      refine Z.lb 2 rfl ?_
      refine Z.lnil ?_
      refine Z.only [1] rfl ?_
      refine Z.nthen ?_
      refine Z.seq ?_
      refine Z.seq ?_
      refine Z.region ?_
      refine Z.l rfl rfl (by rfl) (Z.keepS hs) (Z.Yd.fieldA (m := 0) rfl (by kernel_rfl)) ?_
      refine Z.l rfl rfl (by rfl) (Z.keepS hs) (by first | exact Z.Yd.load rfl Try.isAgg3 (fun _ => Z.cellB (by first | ((repeat (first | exact List.mem_cons_self | refine List.mem_cons_of_mem _ ?_ | refine List.mem_append_right _ ?_)); done) | fail) rfl) | exact Z.Yd.load rfl Try.isAgg3 (fun _ => Z.cellO (by assumption) (by simp) (by assumption)) | fail "load 1.1") ?_
      refine Z.lb 2 rfl ?_
      refine Z.l rfl rfl (by rfl) (Z.keepS hs) (Z.Yd.fieldA (m := 0) rfl (by kernel_rfl)) ?_
      refine Z.l rfl rfl (by rfl) (Z.keepS hs) (by first | exact Z.Yd.load rfl Try.isAgg3 (fun _ => Z.cellB (by first | ((repeat (first | exact List.mem_cons_self | refine List.mem_cons_of_mem _ ?_ | refine List.mem_append_right _ ?_)); done) | fail) rfl) | exact Z.Yd.load rfl Try.isAgg3 (fun _ => Z.cellO (by assumption) (by simp) (by assumption)) | fail "load 1.5") ?_
      refine Z.lb 2 rfl ?_
      refine Z.lnil ?_
      refine Z.only [1, 14] rfl ?_
      refine Z.nthen ?_
      refine Z.cond rfl (fun h => absurd h (by unfold isId at hi; simp; omega)) (fun hc1 => ?_)
      refine Z.skip ?_
      refine Z.nthen ?_
      refine Z.seq ?_
      refine Z.seq ?_
      refine Z.region ?_
      refine Z.l rfl rfl (by rfl) (Z.keepS hs) (by first | exact Z.Yd.loadA _ rfl Try.isAgg40 (fun _ => Z.cellsB (by first | ((repeat (first | exact List.mem_cons_self | refine List.mem_cons_of_mem _ ?_ | refine List.mem_append_right _ ?_)); done) | fail)) (by exact Try.sizeOf40) | fail "load 3.0") ?_
      refine Z.l rfl rfl (by rfl) (Z.keepS hs) (Z.Yd.fieldA (m := 0) rfl (by kernel_rfl)) ?_
      refine Z.l rfl rfl (by rfl) (Z.keepS hs) (by first | exact Z.Yd.load rfl Try.isAgg3 (fun _ => Z.cellB (by first | ((repeat (first | exact List.mem_cons_self | refine List.mem_cons_of_mem _ ?_ | refine List.mem_append_right _ ?_)); done) | fail) rfl) | exact Z.Yd.load rfl Try.isAgg3 (fun _ => Z.cellO (by assumption) (by simp) (by assumption)) | fail "load 3.2") ?_
      refine Z.l rfl rfl (by rfl) (Z.keepS hs) (Z.Yd.sub rfl rfl (fun hG => Z.wi64 (by first | omega | (have hG' := Z.gh rfl hG; simp at hG'; omega)))) ?_
      refine Z.l rfl rfl (by rfl) (Z.keepS hs) (Z.Yd.mul rfl rfl (fun hG => Z.wi64 (by first | omega | (have hG' := Z.gh rfl hG; simp at hG'; omega)))) ?_
      refine Z.l rfl rfl (by rfl) (Z.keepS hs) (Z.Yd.add rfl rfl (fun hG => Z.wi64 (by first | omega | (have hG' := Z.gh rfl hG; simp at hG'; omega)))) ?_
      rw [ew]
      refine Z.le rfl trivial ?_
      refine Z.ZO.call rfl rfl (by rfl) rfl rfl Try.call68 rfl (rsize24 lc _ A m c l _ hl) ?_
      rintro v3_6 w3_6 ⟨rfl, hy⟩
      replace hs := hs.call hy
      clear hy
      try simp only [List.cons_append, List.nil_append, List.append_nil] at hs
      refine Z.lb 1 rfl ?_
      refine Z.lnil ?_
      refine Z.only [1, 4] rfl ?_
      refine Z.nthen ?_
      refine Z.seq ?_
      refine Z.region ?_
      refine Z.lb 2 rfl ?_
      refine Z.lnil ?_
      refine Z.only [1, 4, 23] rfl ?_
      refine Z.nthen ?_
      refine Z.cond rfl (fun hc4 => ?_) (fun h => absurd h (by simpa using hz))
      refine Z.seq ?_
      refine Z.region ?_
      refine Z.lb 3 rfl ?_
      refine Z.lnil ?_
      refine Z.only [2, 3] rfl ?_
      refine Z.nthen ?_
      refine Z.ret ?_
      repeat (first | refine Z.rthen ?_ | refine Z.rblock ?_ | refine Z.rscope ?_)
      -- ret#0
      refine Z.out2 (by exact ⟨rfl, rfl, trivial⟩) ?_
      exact ⟨_, rfl, rfl, hs.sub (List.nil_sublist _)⟩
  · have eE : idE lc l = 2 := by unfold idE; rw [if_neg hi]
    have eV : idV lc l = 0 := by unfold idV; rw [eE]; rfl
    rw [eE, eV]
    refine Z.enter Try.func59 rfl Try.ntmps59 rfl rfl ?_
    refine Z.seq ?_
    refine Z.region ?_
    refine Z.le rfl trivial ?_
    refine Z.ZO.box rfl rfl (by rfl) rfl rfl hs ?_
    clear hs; intro g1 w1 hs
    refine Z.lb 2 rfl ?_
    refine Z.lnil ?_
    refine Z.only [1] rfl ?_
    refine Z.nthen ?_
    refine Z.seq ?_
    refine Z.seq ?_
    refine Z.region ?_
    refine Z.l rfl rfl (by rfl) (Z.keepS hs) (Z.Yd.fieldA (m := 0) rfl (by kernel_rfl)) ?_
    refine Z.l rfl rfl (by rfl) (Z.keepS hs) (by first | exact Z.Yd.load rfl Try.isAgg3 (fun _ => Z.cellB (by first | ((repeat (first | exact List.mem_cons_self | refine List.mem_cons_of_mem _ ?_ | refine List.mem_append_right _ ?_)); done) | fail) rfl) | exact Z.Yd.load rfl Try.isAgg3 (fun _ => Z.cellO (by assumption) (by simp) (by assumption)) | fail "load 1.1") ?_
    refine Z.lb 2 rfl ?_
    refine Z.l rfl rfl (by rfl) (Z.keepS hs) (Z.Yd.fieldA (m := 0) rfl (by kernel_rfl)) ?_
    refine Z.l rfl rfl (by rfl) (Z.keepS hs) (by first | exact Z.Yd.load rfl Try.isAgg3 (fun _ => Z.cellB (by first | ((repeat (first | exact List.mem_cons_self | refine List.mem_cons_of_mem _ ?_ | refine List.mem_append_right _ ?_)); done) | fail) rfl) | exact Z.Yd.load rfl Try.isAgg3 (fun _ => Z.cellO (by assumption) (by simp) (by assumption)) | fail "load 1.5") ?_
    refine Z.lb 2 rfl ?_
    refine Z.lnil ?_
    refine Z.only [1, 14] rfl ?_
    refine Z.nthen ?_
    refine Z.cond rfl (fun hc1 => ?_) (fun h => absurd h (by unfold isId at hi; simp; omega))
    refine Z.seq ?_
    refine Z.region ?_
    refine Z.lb 2 rfl ?_
    refine Z.lnil ?_
    refine Z.only [2, 3] rfl ?_
    refine Z.nthen ?_
    refine Z.ret ?_
    repeat (first | refine Z.rthen ?_ | refine Z.rblock ?_ | refine Z.rscope ?_)
    -- ret#0
    refine Z.out2 (by exact ⟨rfl, rfl, trivial⟩) ?_
    exact ⟨_, rfl, rfl, hs.sub (List.nil_sublist _)⟩
end Go.Proofs.Ytjgfooakcljddaa

/- Random access of a handset: the state and the steps, plainly; the small functions. -/
namespace Go.Proofs.Ytjgfooakcljddaa
open Go.RowKit
set_option linter.unusedSimpArgs false
set_option linter.unusedVariables false
--newlaws

structure AcV where
  id : Int
  rnt : Int
  win : Int
  con : Int
  max : Int
  st : Int
  now : Int
  due : Int
  frm : Int
  pre : Int
  att : Int
  bnd : Int
  rn : Int
deriving DecidableEq
def AcV.cells (m : AcV) : List Value := [.int .u64 m.id, .int .i64 m.rnt, .int .i64 m.win, .int .i64 m.con, .int .i64 m.max, .int .i64 m.st, .int .i64 m.now, .int .i64 m.due, .int .i64 m.frm, .int .i64 m.pre, .int .i64 m.att, .int .i64 m.bnd, .int .i64 m.rn]
theorem ac_one (m : AcV) : ∀ u ∈ m.cells, u.oneCell' = true := by intro u hu; simp [AcV.cells] at hu; rcases hu with rfl | rfl | rfl | rfl | rfl | rfl | rfl | rfl | rfl | rfl | rfl | rfl | rfl <;> rfl
def AcV.cfg (m : AcV) : Prop := (0 ≤ m.id ∧ m.id < 281474976710656) ∧ (0 ≤ m.rnt ∧ m.rnt ≤ 65535) ∧ (1 ≤ m.win ∧ m.win ≤ 10) ∧ (1 ≤ m.con ∧ m.con ≤ 64) ∧ (1 ≤ m.max ∧ m.max ≤ 200)
structure AcV.ok (m : AcV) : Prop where
  cfg : m.cfg
  st : 0 ≤ m.st ∧ m.st ≤ 5
  now : 0 ≤ m.now ∧ m.now < 1073741824
  due : -1 ≤ m.due ∧ m.due ≤ 2000000000
  frm : 0 ≤ m.frm ∧ m.frm ≤ 2000000000
  pre : 0 ≤ m.pre ∧ m.pre ≤ 63
  att : 0 ≤ m.att ∧ m.att ≤ m.max
  bnd : 0 ≤ m.bnd ∧ m.bnd ≤ 960
  rn : 0 ≤ m.rn ∧ m.rn ≤ 65535
  go : m.st = 1 → m.att < m.max
def acB (id n b : Int) : Int := (id % 1048576 + 97 * max 0 (min 200 n)) % (max 0 (min 960 b) + 1)
theorem acB_bd (id n b : Int) : 0 ≤ acB id n b ∧ acB id n b ≤ 960 := by
  unfold acB
  obtain ⟨d, hd⟩ : ∃ d, d = max 0 (min 960 b) + 1 := ⟨_, rfl⟩
  rw [← hd]
  have h1 := Int.emod_nonneg (id % 1048576 + 97 * max 0 (min 200 n)) (show d ≠ 0 by omega)
  have h2 := Int.emod_lt_of_pos (id % 1048576 + 97 * max 0 (min 200 n)) (show 0 < d by omega)
  omega
def okT (t : Int) : Prop := 0 ≤ t ∧ t < 1073741824
instance (t : Int) : Decidable (okT t) := by unfold okT; infer_instance
def failV (m : AcV) : AcV := if m.max ≤ m.att then { m with st := 5, due := -1 } else { m with st := 1, due := m.now + acB m.id m.att m.bnd }
def waits (m : AcV) (t : Int) : Prop := (m.st = 2 ∨ m.st = 3) ∧ m.due ≤ max m.now t
instance (m : AcV) (t : Int) : Decidable (waits m t) := by unfold waits; infer_instance
def tickV (m : AcV) (t : Int) : AcV := if waits m t then failV { m with now := max m.now t } else { m with now := max m.now t }
theorem AcV.ok.fail {m : AcV} (h : m.ok) : (failV m).ok := by
  obtain ⟨h1, h2, h3, h4, h5, h6, h7, h8, h9, h10⟩ := h
  have hb := acB_bd m.id m.att m.bnd
  unfold failV
  split
  · exact ⟨h1, by simp only; omega, h3, by simp only; omega, h5, h6, h7, h8, h9, fun h => by simp at h⟩
  · exact ⟨h1, by simp only; omega, h3, by simp only; omega, h5, h6, h7, h8, h9, fun h => by simp only; omega⟩
theorem AcV.ok.time {m : AcV} (h : m.ok) {t : Int} (ht : okT t) : ({ m with now := Max.max m.now t } : AcV).ok := by
  obtain ⟨h1, h2, h3, h4, h5, h6, h7, h8, h9, h10⟩ := h
  unfold okT at ht
  exact ⟨h1, h2, by simp only; omega, h4, h5, h6, h7, h8, h9, h10⟩
theorem AcV.ok.tick {m : AcV} (h : m.ok) {t : Int} (ht : okT t) : (tickV m t).ok := by
  unfold tickV
  split
  · exact (h.time ht).fail
  · exact h.time ht
def startV (m : AcV) (t : Int) : AcV × Int := if okT t then (if (tickV m t).st = 0 ∨ (tickV m t).st = 4 ∨ (tickV m t).st = 5 then ({ tickV m t with st := 1, due := (tickV m t).now, att := 0, bnd := 0 }, 0) else (tickV m t, 8)) else (m, 2)
def sendV (m : AcV) (t d : Int) : AcV × Int × Int := if okT t ∧ 0 ≤ d then (if (tickV m t).st = 1 then (if (tickV m t).now < (tickV m t).due then (tickV m t, 0, 10) else ({ tickV m t with pre := d % 64, frm := (tickV m t).now + 3, att := (tickV m t).att + 1, st := 2, due := (tickV m t).now + 3 + (tickV m t).win }, d % 64, 0)) else (tickV m t, 0, 8)) else (m, 0, 2)
def okR (p r k : Int) : Prop := (0 ≤ p ∧ p ≤ 63) ∧ (0 ≤ r ∧ r ≤ 65535) ∧ 0 ≤ k ∧ k ≤ 960
instance (p r k : Int) : Decidable (okR p r k) := by unfold okR; infer_instance
def answerV (m : AcV) (t p r k : Int) : AcV × Bool × Int := if okT t ∧ okR p r k then (if (tickV m t).st = 2 ∧ (tickV m t).frm ≤ (tickV m t).now then (if p = (tickV m t).pre then (if r = 0 then (failV { tickV m t with bnd := k }, true, 0) else ({ tickV m t with rn := r, st := 3, due := (tickV m t).now + (tickV m t).con }, true, 0)) else (tickV m t, false, 0)) else (tickV m t, false, 8)) else (m, false, 2)
def msgC (m : AcV) : Int := if m.rnt = 0 then 28 else 27
def msgL (m : AcV) : List Int := if m.rnt = 0 then be 6 m.id else be 2 m.rnt
def resolveV (m : AcV) (t lc : Int) (l : List Int) : AcV × Bool × Int := if okT t then (if idE lc l = 0 then (if (tickV m t).st = 3 then (if lc = msgC (tickV m t) ∧ l = msgL (tickV m t) then ({ tickV m t with st := 4, due := -1 }, true, 0) else (failV (tickV m t), false, 0)) else (tickV m t, false, 8)) else (m, false, idE lc l)) else (m, false, 2)
def useV (m : AcV) : Int := if m.st = 4 then (if 0 < m.rnt then m.rnt else m.rn) else 0

theorem ac_inside (n a b : Int) (w : World) : Calls Try.prog 27 #[.int .i64 n, .int .i64 a, .int .i64 b] w (SX.Ret fun v w' => v = .bool (decide (a ≤ n ∧ n ≤ b)) ∧ SX.St w [] w' []) := by
  have hs := SX.St.start w
  refine Z.enter Try.func27 rfl Try.ntmps27 rfl rfl ?_
  refine Z.seq ?_
  refine Z.region ?_
  refine Z.lb 1 rfl ?_
  refine Z.lnil ?_
  refine Z.only [0, 1, 2] rfl ?_
  refine Z.nthen ?_
  refine Z.seq ?_
  refine Z.region ?_
  refine Z.lb 9 rfl ?_
  refine Z.lnil ?_
  refine Z.only [6] rfl ?_
  refine Z.nthen ?_
  refine Z.ret ?_
  -- ret#0
  refine Z.out1 (by exact ⟨rfl, trivial⟩) ?_
  exact ⟨_, rfl, by congr 1; simp, hs⟩
theorem ac_none (g : Nat) (m : AcV) (w : World) (hc : Cel w g m.cells) (h : m.max ≠ 0) : Calls Try.prog 36 #[.pointer (some ⟨g, 0, none⟩)] w (SX.Ret fun v w' => v = .bool false ∧ SX.St w [] w' []) := by
  have hs := SX.St.start w
  refine Z.enter Try.func36 rfl Try.ntmps36 rfl rfl ?_
  refine Z.seq ?_
  refine Z.region ?_
  refine Z.lb 1 rfl ?_
  refine Z.lnil ?_
  refine Z.only [0] rfl ?_
  refine Z.nthen ?_
  refine Z.seq ?_
  refine Z.region ?_
  refine Z.lb 1 rfl ?_
  refine Z.l rfl rfl (by rfl) (Z.keepS hs) (Z.Yd.ptrNil rfl rfl Try.underlying25) ?_
  refine Z.lb 2 rfl ?_
  refine Z.l rfl rfl (by rfl) (Z.keepS hs) (Z.Yd.nilc rfl rfl) ?_
  refine Z.l rfl rfl (by rfl) (Z.keepS hs) (Z.Yd.fieldA (m := 0) rfl (by kernel_rfl)) ?_
  refine Z.l rfl rfl (by rfl) (Z.keepS hs) (Z.Yd.fieldA (m := 4) rfl (by kernel_rfl)) ?_
  refine Z.l rfl rfl (by rfl) (Z.keepS hs) (Z.Yd.load rfl Try.isAgg3 (fun _ => Z.cellO hc.1 (by simp) (hc.2 4 _ rfl))) ?_
  refine Z.lb 3 rfl ?_
  refine Z.lnil ?_
  refine Z.only [2] rfl ?_
  refine Z.nthen ?_
  refine Z.ret ?_
  -- ret#0
  refine Z.out1 (by exact ⟨rfl, trivial⟩) ?_
  exact ⟨_, rfl, by congr 1; simpa using h, hs⟩
theorem ac_enter (g T : Nat) (m : AcV) (s d : Int) (w : World) (hs : SX.St w (SX.idsOf [SX.Ent.blk g T m.cells.toArray]) w [SX.Ent.blk g T m.cells.toArray]) :
    Calls Try.prog 31 #[.pointer (some ⟨g, 0, none⟩), .int .i64 s, .int .i64 d] w (SX.Ret fun v w' => v = .tuple #[] ∧ SX.St w (SX.idsOf [SX.Ent.blk g T m.cells.toArray]) w' [SX.Ent.blk g T ({ m with st := s, due := d } : AcV).cells.toArray]) := by
  generalize hM : SX.idsOf [SX.Ent.blk g T m.cells.toArray] = M at *
  replace hs : SX.St w M w [SX.Ent.blk g T #[.int .u64 (m).id, .int .i64 (m).rnt, .int .i64 (m).win, .int .i64 (m).con, .int .i64 (m).max, .int .i64 (m).st, .int .i64 (m).now, .int .i64 (m).due, .int .i64 (m).frm, .int .i64 (m).pre, .int .i64 (m).att, .int .i64 (m).bnd, .int .i64 (m).rn]] := hs
  refine Z.enter Try.func31 rfl Try.ntmps31 rfl rfl ?_
  refine Z.region ?_
  refine Z.lb 4 rfl ?_
  refine Z.l rfl rfl (by rfl) (Z.keepS hs) (Z.Yd.nilc rfl rfl) ?_
  refine Z.l rfl rfl (by rfl) (Z.keepS hs) (Z.Yd.fieldA (m := 5) rfl (by kernel_rfl)) ?_
  refine Z.le rfl trivial ?_
  first | refine Z.ZO.store rfl rfl hs Try.sizeOf44 rfl rfl rfl (by first | exact SX.at0 | exact SX.at1 | exact SX.at2 | exact SX.at3 | exact SX.at4 | exact SX.at5 | exact Z.at6 | exact Z.at7 | exact Z.at8 | exact Z.at9 | exact Z.at10 | exact Z.at11 | exact Z.at12) (by first | (simp; done) | (simp; omega)) ?_ | refine Z.ZO.storeR rfl rfl hs Try.sizeOf44 rfl rfl rfl (by first | exact SX.at0 | exact SX.at1 | exact SX.at2 | exact SX.at3 | exact SX.at4 | exact SX.at5 | exact Z.at6 | exact Z.at7 | exact Z.at8 | exact Z.at9 | exact Z.at10 | exact Z.at11 | exact Z.at12) (by first | omega | (simp [ints_length]; done) | (simp [ints_length]; omega)) ?_
  clear hs; intro ws hs
  simp only [Nat.zero_add, Nat.add_zero, Nat.reduceAdd, Int.reduceToNat, Nat.reduceMul, List.set_cons_zero, List.set_cons_succ, List.setIfInBounds_toArray] at hs
  refine Z.l rfl rfl (by rfl) (Z.keepS hs) (Z.Yd.nilc rfl rfl) ?_
  refine Z.l rfl rfl (by rfl) (Z.keepS hs) (Z.Yd.fieldA (m := 7) rfl (by kernel_rfl)) ?_
  refine Z.le rfl trivial ?_
  first | refine Z.ZO.store rfl rfl hs Try.sizeOf3 rfl rfl rfl (by first | exact SX.at0 | exact SX.at1 | exact SX.at2 | exact SX.at3 | exact SX.at4 | exact SX.at5 | exact Z.at6 | exact Z.at7 | exact Z.at8 | exact Z.at9 | exact Z.at10 | exact Z.at11 | exact Z.at12) (by first | (simp; done) | (simp; omega)) ?_ | refine Z.ZO.storeR rfl rfl hs Try.sizeOf3 rfl rfl rfl (by first | exact SX.at0 | exact SX.at1 | exact SX.at2 | exact SX.at3 | exact SX.at4 | exact SX.at5 | exact Z.at6 | exact Z.at7 | exact Z.at8 | exact Z.at9 | exact Z.at10 | exact Z.at11 | exact Z.at12) (by first | omega | (simp [ints_length]; done) | (simp [ints_length]; omega)) ?_
  clear hs; intro ws hs
  simp only [Nat.zero_add, Nat.add_zero, Nat.reduceAdd, Int.reduceToNat, Nat.reduceMul, List.set_cons_zero, List.set_cons_succ, List.setIfInBounds_toArray] at hs
  refine Z.lnil ?_
  refine Z.only [] rfl ?_
  -- ret#0
  refine Z.out0n trivial ?_
  exact ⟨_, rfl, rfl, hs⟩
theorem ac_backoff (id n b : Int) (w : World) (h : 0 ≤ id ∧ id < 18446744073709551616) :
    Calls Try.prog 28 #[.int .u64 id, .int .i64 n, .int .i64 b] w (SX.Ret fun v w' => v = .int .i64 (acB id n b) ∧ SX.St w [] w' []) := by
  have hs := SX.St.start w
  refine Z.enter Try.func28 rfl Try.ntmps28 rfl rfl ?_
  refine Z.seq ?_
  refine Z.region ?_
  refine Z.lb 1 rfl ?_
  refine Z.lnil ?_
  refine Z.only [0, 1, 2] rfl ?_
  refine Z.nthen ?_
  refine Z.seq ?_
  refine Z.region ?_
  refine Z.lb 1 rfl ?_
  refine Z.l rfl rfl (by rfl) (Z.keepS hs) (Z.Yd.max rfl rfl) ?_
  refine Z.l rfl rfl (by rfl) (Z.keepS hs) (Z.Yd.min rfl rfl) ?_
  refine Z.lb 1 rfl ?_
  refine Z.l rfl rfl (by rfl) (Z.keepS hs) (Z.Yd.max rfl rfl) ?_
  refine Z.l rfl rfl (by rfl) (Z.keepS hs) (Z.Yd.min rfl rfl) ?_
  refine Z.lb 2 rfl ?_
  refine Z.lnil ?_
  refine Z.only [0, 1, 2] rfl ?_
  refine Z.nthen ?_
  refine Z.seq ?_
  refine Z.region ?_
  refine Z.lb 1 rfl ?_
  refine Z.l rfl rfl (by rfl) (Z.keepS hs) (Z.Yd.rem rfl rfl (by intro hG; first | decide | omega) (by intro hG; first | exact Z.tmodn (by omega) | exact rfl)) ?_
  refine Z.l rfl rfl (by rfl) (Z.keepS hs) (Z.Yd.convI rfl ⟨_, Try.underlying22⟩ Try.underlying3 (fun hG => Z.wi64 (by first | omega | (have hG' := Z.gh rfl hG; simp at hG'; omega)))) ?_
  refine Z.lb 1 rfl ?_
  refine Z.l rfl rfl (by rfl) (Z.keepS hs) (Z.Yd.mul rfl rfl (fun hG => Z.wi64 (by first | omega | (have hG' := Z.gh rfl hG; simp at hG'; omega)))) ?_
  refine Z.l rfl rfl (by rfl) (Z.keepS hs) (Z.Yd.add rfl rfl (fun hG => Z.wi64 (by first | omega | (have hG' := Z.gh rfl hG; simp at hG'; omega)))) ?_
  refine Z.lb 1 rfl ?_
  refine Z.l rfl rfl (by rfl) (Z.keepS hs) (Z.Yd.add rfl rfl (fun hG => Z.wi64 (by first | omega | (have hG' := Z.gh rfl hG; simp at hG'; omega)))) ?_
  refine Z.l rfl rfl (by rfl) (Z.keepS hs) (Z.Yd.rem rfl rfl (by intro hG; first | decide | omega) (by intro hG; first | exact Z.tmodn (by omega) | exact rfl)) ?_
  refine Z.lb 1 rfl ?_
  refine Z.lnil ?_
  refine Z.only [6] rfl ?_
  refine Z.nthen ?_
  refine Z.ret ?_
  -- ret#0
  refine Z.out1 (by exact ⟨rfl, trivial⟩) ?_
  exact ⟨_, rfl, by unfold acB; rw [show max 0 (min 200 n) = min 200 (max 0 n) from by omega, show max 0 (min 960 b) = min 960 (max 0 b) from by omega]; congr 2 <;> omega, hs⟩
theorem acr_backoff (id n b : Int) (w : World) (h : 0 ≤ id ∧ id < 18446744073709551616) :
    Calls Try.prog 67 #[.int .u64 id, .int .i64 n, .int .i64 b] w (SX.Ret fun v w' => v = .int .i64 (acB id n b) ∧ SX.St w [] w' []) := by
  have hs := SX.St.start w
  refine Z.enter Try.func67 rfl Try.ntmps67 rfl rfl ?_
  refine Z.seq ?_
  refine Z.region ?_
  refine Z.lb 1 rfl ?_
  refine Z.lnil ?_
  refine Z.only [0, 1, 2] rfl ?_
  refine Z.nthen ?_
  refine Z.seq ?_
  refine Z.region ?_
  refine Z.lb 1 rfl ?_
  refine Z.l rfl rfl (by rfl) (Z.keepS hs) (Z.Yd.min rfl rfl) ?_
  refine Z.l rfl rfl (by rfl) (Z.keepS hs) (Z.Yd.max rfl rfl) ?_
  refine Z.lb 1 rfl ?_
  refine Z.lnil ?_
  refine Z.only [0, 2, 7] rfl ?_
  refine Z.nthen ?_
  refine Z.seq ?_
  refine Z.region ?_
  refine Z.lb 1 rfl ?_
  refine Z.l rfl rfl (by rfl) (Z.keepS hs) (Z.Yd.min rfl rfl) ?_
  refine Z.l rfl rfl (by rfl) (Z.keepS hs) (Z.Yd.max rfl rfl) ?_
  refine Z.lb 1 rfl ?_
  refine Z.lnil ?_
  refine Z.only [0, 7, 8] rfl ?_
  refine Z.nthen ?_
  refine Z.seq ?_
  refine Z.region ?_
  refine Z.lb 1 rfl ?_
  refine Z.l rfl rfl (by rfl) (Z.keepS hs) (Z.Yd.rem rfl rfl (by intro hG; first | decide | omega) (by intro hG; first | exact Z.tmodn (by omega) | exact rfl)) ?_
  refine Z.l rfl rfl (by rfl) (Z.keepS hs) (Z.Yd.convI rfl ⟨_, Try.underlying22⟩ Try.underlying3 (fun hG => Z.wi64 (by first | omega | (have hG' := Z.gh rfl hG; simp at hG'; omega)))) ?_
  refine Z.lb 1 rfl ?_
  refine Z.l rfl rfl (by rfl) (Z.keepS hs) (Z.Yd.mul rfl rfl (fun hG => Z.wi64 (by first | omega | (have hG' := Z.gh rfl hG; simp at hG'; omega)))) ?_
  refine Z.l rfl rfl (by rfl) (Z.keepS hs) (Z.Yd.add rfl rfl (fun hG => Z.wi64 (by first | omega | (have hG' := Z.gh rfl hG; simp at hG'; omega)))) ?_
  refine Z.lb 1 rfl ?_
  refine Z.l rfl rfl (by rfl) (Z.keepS hs) (Z.Yd.add rfl rfl (fun hG => Z.wi64 (by first | omega | (have hG' := Z.gh rfl hG; simp at hG'; omega)))) ?_
  refine Z.l rfl rfl (by rfl) (Z.keepS hs) (Z.Yd.rem rfl rfl (by intro hG; first | decide | omega) (by intro hG; first | exact Z.tmodn (by omega) | exact rfl)) ?_
  refine Z.lb 1 rfl ?_
  refine Z.lnil ?_
  refine Z.only [6] rfl ?_
  refine Z.nthen ?_
  refine Z.ret ?_
  -- ret#0
  refine Z.out1 (by exact ⟨rfl, trivial⟩) ?_
  exact ⟨_, rfl, by unfold acB; congr 2 <;> omega, hs⟩
end Go.Proofs.Ytjgfooakcljddaa

/- Random access of a handset: a step at a time. -/
namespace Go.Proofs.Ytjgfooakcljddaa
open Go.RowKit
set_option linter.unusedSimpArgs false
set_option linter.unusedVariables false
--newlaws

theorem ac_fail (g T : Nat) (m : AcV) (w : World) (hs : SX.St w (SX.idsOf [SX.Ent.blk g T m.cells.toArray]) w [SX.Ent.blk g T m.cells.toArray]) (h : m.ok) :
    Calls Try.prog 35 #[.pointer (some ⟨g, 0, none⟩)] w (SX.Ret fun v w' => v = .tuple #[] ∧ SX.St w (SX.idsOf [SX.Ent.blk g T m.cells.toArray]) w' [SX.Ent.blk g T (failV m).cells.toArray]) := by
  obtain ⟨h1, h2, h3, h4, h5, h6, h7, h8, h9, h10⟩ := h
  have h11 := h1.1
  have hb := acB_bd m.id m.att m.bnd
  generalize hM : SX.idsOf [SX.Ent.blk g T m.cells.toArray] = M at *
  refine Z.enter Try.func35 rfl Try.ntmps35 rfl rfl ?_
  refine Z.seq ?_
  refine Z.seq ?_
  refine Z.drawK (fun _ => true) mixed hs ?_
  clear hs; intro wd0 hs
  refine Z.tb [0] (by kernel_rfl) rfl ⟨_, hs, by first | (simp; done) | exact fun e he => List.mem_append_right _ he⟩ rfl ?_
  refine Z.t 1 rfl rfl rfl (by rfl) (by kernel_rfl) ⟨_, hs, by first | (simp; done) | exact fun e he => List.mem_append_right _ he⟩ (Z.Yd.nilc rfl rfl) ?_
  refine Z.t 2 rfl rfl rfl (by rfl) (by kernel_rfl) ⟨_, hs, by first | (simp; done) | exact fun e he => List.mem_append_right _ he⟩ (Z.Yd.fieldA (m := 10) rfl (by kernel_rfl)) ?_
  refine Z.t 3 rfl rfl rfl (by rfl) (by kernel_rfl) ⟨_, hs, by first | (simp; done) | exact fun e he => List.mem_append_right _ he⟩ (by first | exact Z.Yd.load rfl Try.isAgg3 (fun _ => Z.cellB (by first | ((repeat (first | exact List.mem_cons_self | refine List.mem_cons_of_mem _ ?_ | refine List.mem_append_right _ ?_)); done) | fail) rfl) | exact Z.Yd.load rfl Try.isAgg3 (fun _ => Z.cellO (by assumption) (by simp) (by assumption)) | fail "load 0.3") ?_
  refine Z.tb [4] (by kernel_rfl) rfl ⟨_, hs, by first | (simp; done) | exact fun e he => List.mem_append_right _ he⟩ rfl ?_
  refine Z.t 5 rfl rfl rfl (by rfl) (by kernel_rfl) ⟨_, hs, by first | (simp; done) | exact fun e he => List.mem_append_right _ he⟩ (Z.Yd.nilc rfl rfl) ?_
  refine Z.t 6 rfl rfl rfl (by rfl) (by kernel_rfl) ⟨_, hs, by first | (simp; done) | exact fun e he => List.mem_append_right _ he⟩ (Z.Yd.fieldA (m := 0) rfl (by kernel_rfl)) ?_
  refine Z.t 7 rfl rfl rfl (by rfl) (by kernel_rfl) ⟨_, hs, by first | (simp; done) | exact fun e he => List.mem_append_right _ he⟩ (Z.Yd.fieldA (m := 4) rfl (by kernel_rfl)) ?_
  refine Z.t 8 rfl rfl rfl (by rfl) (by kernel_rfl) ⟨_, hs, by first | (simp; done) | exact fun e he => List.mem_append_right _ he⟩ (by first | exact Z.Yd.load rfl Try.isAgg3 (fun _ => Z.cellB (by first | ((repeat (first | exact List.mem_cons_self | refine List.mem_cons_of_mem _ ?_ | refine List.mem_append_right _ ?_)); done) | fail) rfl) | exact Z.Yd.load rfl Try.isAgg3 (fun _ => Z.cellO (by assumption) (by simp) (by assumption)) | fail "load 0.8") ?_
  refine Z.tb [9] (by kernel_rfl) rfl ⟨_, hs, by first | (simp; done) | exact fun e he => List.mem_append_right _ he⟩ rfl ?_
  refine Z.td (by rfl) (by kernel_rfl) ?_
  refine Z.only [0, 11] rfl ?_
  refine Z.nthen ?_
  refine Z.cond rfl (fun hc0 => ?_) (fun hc0 => ?_)
  · first
      | (exfalso; simp at hc0 <;> omega)
      | (
        (try simp at hc0)
        have e : failV m = { m with st := 5, due := -1 } := if_pos (by omega)
        rw [e]
        refine Z.seq ?_
        refine Z.region ?_
        refine Z.lb 1 rfl ?_
        refine Z.le rfl trivial ?_
        refine Z.ZO.call rfl rfl (by rfl) rfl rfl Try.call31 rfl (ac_enter g T m 5 (-1) _ (hs.lend (L2 := []))) ?_
        rintro v1_1 w1_1 ⟨rfl, hz⟩
        replace hs := hs.regain (L2 := []) hz
        refine Z.lnil ?_
        refine Z.only [] rfl ?_
        refine Z.nthen ?_
        refine Z.ret ?_
        repeat (first | refine Z.rthen ?_ | refine Z.rblock ?_ | refine Z.rscope ?_)
        -- ret#0
        refine Z.out0 trivial ?_
        exact ⟨_, rfl, rfl, hs⟩
        )
  · first
      | (exfalso; simp at hc0 <;> omega)
      | (
        (try simp at hc0)
        have e : failV m = { m with st := 1, due := m.now + acB m.id m.att m.bnd } := if_neg (by omega)
        rw [e]
        refine Z.skip ?_
        refine Z.nthen ?_
        refine Z.drawK (fun j => j != 20) mixed hs ?_
        clear hs; intro wd2 hs
        refine Z.tb [0] (by kernel_rfl) rfl ⟨_, hs, by first | (simp; done) | exact fun e he => List.mem_append_right _ he⟩ rfl ?_
        refine Z.tX 1 [1, 2, 3, 4, 19, 20] rfl rfl rfl (by rfl) (by kernel_rfl) ⟨_, hs, by first | (simp; done) | exact fun e he => List.mem_append_right _ he⟩ (Z.Yd.pure rfl) ?_
        refine Z.tX 2 [2, 3, 4, 19, 20] rfl rfl rfl (by rfl) (by kernel_rfl) ⟨_, hs, by first | (simp; done) | exact fun e he => List.mem_append_right _ he⟩ (Z.Yd.nilc rfl rfl) ?_
        refine Z.tX 3 [3, 4, 19, 20] rfl rfl rfl (by rfl) (by kernel_rfl) ⟨_, hs, by first | (simp; done) | exact fun e he => List.mem_append_right _ he⟩ (Z.Yd.fieldA (m := 6) rfl (by kernel_rfl)) ?_
        refine Z.tX 4 [4, 19, 20] rfl rfl rfl (by rfl) (by kernel_rfl) ⟨_, hs, by first | (simp; done) | exact fun e he => List.mem_append_right _ he⟩ (by first | exact Z.Yd.load rfl Try.isAgg3 (fun _ => Z.cellB (by first | ((repeat (first | exact List.mem_cons_self | refine List.mem_cons_of_mem _ ?_ | refine List.mem_append_right _ ?_)); done) | fail) rfl) | exact Z.Yd.load rfl Try.isAgg3 (fun _ => Z.cellO (by assumption) (by simp) (by assumption)) | fail "load 2.4") ?_
        refine Z.tX 5 [5, 6, 7, 8, 9, 18, 19, 20] rfl rfl rfl (by rfl) (by kernel_rfl) ⟨_, hs, by first | (simp; done) | exact fun e he => List.mem_append_right _ he⟩ (Z.Yd.pure rfl) ?_
        refine Z.tX 6 [6, 7, 8, 9, 18, 19, 20] rfl rfl rfl (by rfl) (by kernel_rfl) ⟨_, hs, by first | (simp; done) | exact fun e he => List.mem_append_right _ he⟩ (Z.Yd.nilc rfl rfl) ?_
        refine Z.tX 7 [7, 8, 9, 18, 19, 20] rfl rfl rfl (by rfl) (by kernel_rfl) ⟨_, hs, by first | (simp; done) | exact fun e he => List.mem_append_right _ he⟩ (Z.Yd.fieldA (m := 0) rfl (by kernel_rfl)) ?_
        refine Z.tX 8 [8, 9, 18, 19, 20] rfl rfl rfl (by rfl) (by kernel_rfl) ⟨_, hs, by first | (simp; done) | exact fun e he => List.mem_append_right _ he⟩ (Z.Yd.fieldA (m := 0) rfl (by kernel_rfl)) ?_
        refine Z.tX 9 [9, 18, 19, 20] rfl rfl rfl (by rfl) (by kernel_rfl) ⟨_, hs, by first | (simp; done) | exact fun e he => List.mem_append_right _ he⟩ (by first | exact Z.Yd.load rfl Try.isAgg22 (fun _ => Z.cellB (by first | ((repeat (first | exact List.mem_cons_self | refine List.mem_cons_of_mem _ ?_ | refine List.mem_append_right _ ?_)); done) | fail) rfl) | exact Z.Yd.load rfl Try.isAgg22 (fun _ => Z.cellO (by assumption) (by simp) (by assumption)) | fail "load 2.9") ?_
        refine Z.tX 10 [10, 11, 12, 13, 18, 19, 20] rfl rfl rfl (by rfl) (by kernel_rfl) ⟨_, hs, by first | (simp; done) | exact fun e he => List.mem_append_right _ he⟩ (Z.Yd.pure rfl) ?_
        refine Z.tX 11 [11, 12, 13, 18, 19, 20] rfl rfl rfl (by rfl) (by kernel_rfl) ⟨_, hs, by first | (simp; done) | exact fun e he => List.mem_append_right _ he⟩ (Z.Yd.nilc rfl rfl) ?_
        refine Z.tX 12 [12, 13, 18, 19, 20] rfl rfl rfl (by rfl) (by kernel_rfl) ⟨_, hs, by first | (simp; done) | exact fun e he => List.mem_append_right _ he⟩ (Z.Yd.fieldA (m := 10) rfl (by kernel_rfl)) ?_
        refine Z.tX 13 [13, 18, 19, 20] rfl rfl rfl (by rfl) (by kernel_rfl) ⟨_, hs, by first | (simp; done) | exact fun e he => List.mem_append_right _ he⟩ (by first | exact Z.Yd.load rfl Try.isAgg3 (fun _ => Z.cellB (by first | ((repeat (first | exact List.mem_cons_self | refine List.mem_cons_of_mem _ ?_ | refine List.mem_append_right _ ?_)); done) | fail) rfl) | exact Z.Yd.load rfl Try.isAgg3 (fun _ => Z.cellO (by assumption) (by simp) (by assumption)) | fail "load 2.13") ?_
        refine Z.tn 14 rfl rfl (by kernel_rfl) rfl trivial ?_
        refine Z.ZO.quiet rfl (by rfl) (Z.keepS hs) (Z.Yd.pure rfl) ?_
        refine Z.tk (Dn := fun j => j != 20) (i := 14) (fun _ => ⟨_, hs, by first | (simp; done) | exact fun e he => List.mem_append_right _ he⟩) ?_
        refine Z.tn 15 rfl rfl (by kernel_rfl) rfl trivial ?_
        refine Z.ZO.quiet rfl (by rfl) (Z.keepS hs) (Z.Yd.nilc rfl rfl) ?_
        refine Z.tk (Dn := fun j => j != 20) (i := 15) (fun _ => ⟨_, hs, by first | (simp; done) | exact fun e he => List.mem_append_right _ he⟩) ?_
        refine Z.tn 16 rfl rfl (by kernel_rfl) rfl trivial ?_
        refine Z.ZO.quiet rfl (by rfl) (Z.keepS hs) (Z.Yd.fieldA (m := 11) rfl (by kernel_rfl)) ?_
        refine Z.tk (Dn := fun j => j != 20) (i := 16) (fun _ => ⟨_, hs, by first | (simp; done) | exact fun e he => List.mem_append_right _ he⟩) ?_
        refine Z.tn 17 rfl rfl (by kernel_rfl) rfl trivial ?_
        refine Z.ZO.quiet rfl (by rfl) (Z.keepS hs) (by first | exact Z.Yd.load rfl Try.isAgg3 (fun _ => Z.cellB (by first | ((repeat (first | exact List.mem_cons_self | refine List.mem_cons_of_mem _ ?_ | refine List.mem_append_right _ ?_)); done) | fail) rfl) | exact Z.Yd.load rfl Try.isAgg3 (fun _ => Z.cellO (by assumption) (by simp) (by assumption)) | fail "load 2.17") ?_
        refine Z.tk (Dn := fun j => j != 20) (i := 17) (fun _ => ⟨_, hs, by first | (simp; done) | exact fun e he => List.mem_append_right _ he⟩) ?_
        refine Z.tn 18 rfl rfl (by kernel_rfl) rfl trivial ?_
        refine Z.ZO.call rfl rfl (by rfl) rfl rfl Try.call28 rfl (ac_backoff m.id m.att m.bnd _ (by omega)) ?_
        rintro v2_18 w2_18 ⟨rfl, hy⟩
        replace hs := hs.call hy
        clear hy
        try simp only [List.cons_append, List.nil_append, List.append_nil] at hs
        refine Z.tk (Dn := fun j => j != 20) (i := 18) (fun _ => ⟨_, hs, by first | (simp; done) | exact fun e he => List.mem_append_right _ he⟩) ?_
        refine Z.t 19 rfl rfl rfl (by rfl) (by kernel_rfl) ⟨_, hs, by first | (simp; done) | exact fun e he => List.mem_append_right _ he⟩ (Z.Yd.add rfl rfl (fun hG => Z.wi64 (by first | omega | (have hG' := Z.gh rfl hG; simp at hG'; omega)))) ?_
        refine Z.tn 20 rfl rfl (by kernel_rfl) rfl trivial ?_
        refine Z.ZO.call rfl rfl (by rfl) rfl rfl Try.call31 rfl (ac_enter g T m 1 (m.now + acB m.id m.att m.bnd) _ (hs.lend (L2 := []))) ?_
        rintro v2_20 w2_20 ⟨rfl, hz⟩
        replace hs := hs.regain (L2 := []) hz
        refine Z.tk (Dn := fun j => j != 20) (i := 20) (fun h => absurd h (by decide)) ?_
        refine Z.td (by rfl) (by kernel_rfl) ?_
        refine Z.only [] rfl ?_
        -- ret#1
        refine Z.out0n trivial ?_
        exact ⟨_, rfl, rfl, hs⟩
        )
theorem ac_index (A : Option Addr) (n c : Nat) (l : List Int) (x : Int) (w : World) (hx : Sl w A (ints .i64 l)) (hl : l.length = n) (hn : n ≤ 1000) :
    Calls Try.prog 60 #[.slice A n c, .int .i64 x] w (SX.Ret fun v w' => (∃ i : Int, v = .int .i64 i ∧ (decide (0 ≤ i) = decide (x ∈ l))) ∧ SX.St w [] w' []) := by
  have hs := SX.St.start w
  have hxx := hx.sx
  refine Z.enter Try.func60 rfl Try.ntmps60 rfl rfl ?_
  refine Z.seq ?_
  refine Z.region ?_
  refine Z.lb 1 rfl ?_
  refine Z.lnil ?_
  refine Z.only [0, 1] rfl ?_
  refine Z.nthen ?_
  refine Z.seq ?_
  refine Z.seq ?_
  refine Z.region ?_
  refine Z.lb 1 rfl ?_
  refine Z.l rfl rfl (by rfl) (Z.keepS hs) (Z.Yd.lenS rfl Try.underlying87) ?_
  refine Z.lb 1 rfl ?_
  refine Z.lnil ?_
  refine Z.only [0, 1, 7, 8] rfl ?_
  refine Z.nthen ?_
  refine Z.block ?_
  refine Z.loopk (ι := Nat) [0, 1, 7] rfl (fun k => [(8, [], .int .i64 (k : Int))]) (fun k wr => (k ≤ n ∧ x ∉ l.take k) ∧ SX.St w [] wr []) (fun k => n - k) 0 (by refine ⟨?_, trivial⟩ <;> (first | rfl | (refine Z.lookv rfl ?_; simp; done) | (refine Z.lookv rfl ?_; simp; omega))) ⟨⟨by omega, by simp⟩, hs⟩ ?_
  clear hs
  rintro k w1 ⟨⟨hk, hj⟩, hs⟩
  refine Z.only [0, 1, 7, 8] rfl ?_
  refine Z.seq ?_
  refine Z.region ?_
  refine Z.lb 1 rfl ?_
  refine Z.lnil ?_
  refine Z.only [0, 1, 7, 8, 9] rfl ?_
  refine Z.nthen ?_
  refine Z.seq ?_
  refine Z.cond rfl (fun hc2 => ?_) (fun hc2 => ?_)
  · first
      | (exfalso; simp at hc2 <;> omega)
      | (
        (try simp at hc2)
        have hlt : k < l.length := by omega
        have hel : elt l (k : Int) = l[k] := by simp [elt, hlt]
        obtain ⟨b, off, rfl, hb0, hx2⟩ := Z.Sl.some hx (by simp [ints]; omega)
        refine Z.skip ?_
        refine Z.nthen ?_
        refine Z.seq ?_
        refine Z.block ?_
        refine Z.seq ?_
        refine Z.region ?_
        refine Z.lb 2 rfl ?_
        refine Z.lnil ?_
        refine Z.only [0, 1, 5, 7, 8] rfl ?_
        refine Z.nthen ?_
        refine Z.seq ?_
        refine Z.region ?_
        refine Z.lb 3 rfl ?_
        refine Z.l rfl rfl (by rfl) (Z.keepS hs) (Z.Yd.elem rfl rfl Try.underlying87 Try.sizeOf44 (fun hG => ⟨(by first | omega | (have hG' := Z.gh rfl hG; simp at hG'; omega)), (by first | omega | (have hG' := Z.gh rfl hG; simp at hG'; omega))⟩)) ?_
        refine Z.l rfl rfl (by rfl) (Z.keepS hs) (by first | exact Z.Yd.load rfl Try.isAgg44 (fun _ => Z.cellB (by first | ((repeat (first | exact List.mem_cons_self | refine List.mem_cons_of_mem _ ?_ | refine List.mem_append_right _ ?_)); done) | fail) rfl) | exact Z.Yd.load rfl Try.isAgg44 (fun hG => Z.cellR (by first | ((repeat (first | exact List.mem_cons_self | refine List.mem_cons_of_mem _ ?_ | refine List.mem_append_right _ ?_)); done) | fail) (Z.ints_at (by first | omega | (have hG' := Z.gh rfl hG; simp at hG'; omega)) (by first | omega | (have hG' := Z.gh rfl hG; simp at hG'; omega)))) | exact Z.Yd.load rfl Try.isAgg44 (fun hG => Z.cellXi (by assumption) (by first | omega | (have hG' := Z.gh rfl hG; simp at hG'; omega)) (by first | omega | (have hG' := Z.gh rfl hG; simp at hG'; omega))) | exact Z.Yd.load rfl Try.isAgg44 (fun hG => Z.cellS (by assumption) rfl (by first | omega | (have hG' := Z.gh rfl hG; simp at hG'; omega)) (by first | omega | (have hG' := Z.gh rfl hG; simp at hG'; omega))) | fail "load 4.4") ?_
        refine Z.lb 1 rfl ?_
        refine Z.lnil ?_
        refine Z.only [0, 1, 5, 7, 8, 16] rfl ?_
        refine Z.nthen ?_
        refine Z.cond rfl (fun hc4 => ?_) (fun hc4 => ?_)
        · first
            | (exfalso; simp at hc4 <;> omega)
            | (
              (try simp at hc4)
              refine Z.seq ?_
              refine Z.region ?_
              refine Z.lb 2 rfl ?_
              refine Z.lnil ?_
              refine Z.only [4] rfl ?_
              refine Z.nthen ?_
              refine Z.ret ?_
              repeat (first | refine Z.rthen ?_ | refine Z.rblock ?_ | refine Z.rscope ?_)
              -- ret#0
              refine Z.out1 (by exact ⟨rfl, trivial⟩) ?_
              refine ⟨_, rfl, ⟨_, rfl, ?_⟩, hs⟩
              have hm : x ∈ l := by
                have hmem := List.getElem_mem hlt
                rw [← hel] at hmem
                simp_all
              rw [decide_eq_true hm]
              simp
              )
        · first
            | (exfalso; simp at hc4 <;> omega)
            | (
              (try simp at hc4)
              refine Z.skip ?_
              refine Z.nblock ?_
              refine Z.nthen ?_
              refine Z.region ?_
              refine Z.l rfl rfl (by rfl) (Z.keepS hs) (Z.Yd.add rfl rfl (fun hG => Z.wi64 (by first | omega | (have hG' := Z.gh rfl hG; simp at hG'; omega)))) ?_
              refine Z.lb 1 rfl ?_
              refine Z.lnil ?_
              refine Z.only [0, 1, 7, 8] rfl ?_
              refine Z.nthen ?_
              refine Z.again (k + 1) (by refine ⟨?_, ?_, ?_, ?_, trivial⟩ <;> (first | rfl | (refine Z.lookv rfl ?_; simp; done) | (refine Z.lookv rfl ?_; simp; omega))) ⟨⟨by omega, fun hm => ?_⟩, hs⟩ (by omega)
              rw [List.take_add_one, List.getElem?_eq_getElem hlt] at hm
              rcases List.mem_append.1 hm with hm | hm
              · exact hj hm
              · have : x = l[k] := by simpa using hm
                rw [← hel] at this
                simp_all
              )
        )
  · first
      | (exfalso; simp at hc2 <;> omega)
      | (
        (try simp at hc2)
        refine Z.exit ?_
        refine Z.xthen ?_
        refine Z.xthen ?_
        refine Z.xblock ?_
        refine Z.nthen ?_
        refine Z.seq ?_
        refine Z.region ?_
        refine Z.lb 1 rfl ?_
        refine Z.lnil ?_
        refine Z.only [4] rfl ?_
        refine Z.nthen ?_
        refine Z.ret ?_
        -- ret#1
        refine Z.out1 (by exact ⟨rfl, trivial⟩) ?_
        rw [List.take_of_length_le (by omega)] at hj
        refine ⟨_, rfl, ⟨_, rfl, ?_⟩, hs⟩
        rw [decide_eq_false hj]
        rfl
        )
theorem ac_contains (A : Option Addr) (n c : Nat) (l : List Int) (x : Int) (w : World) (hx : Sl w A (ints .i64 l)) (hl : l.length = n) (hn : n ≤ 1000) :
    Calls Try.prog 49 #[.slice A n c, .int .i64 x] w (SX.Ret fun v w' => v = .bool (decide (x ∈ l)) ∧ SX.St w [] w' []) := by
  have hs := SX.St.start w
  refine Z.enter Try.func49 rfl Try.ntmps49 rfl rfl ?_
  refine Z.seq ?_
  refine Z.region ?_
  refine Z.lb 1 rfl ?_
  refine Z.lnil ?_
  refine Z.only [0, 1] rfl ?_
  refine Z.nthen ?_
  refine Z.seq ?_
  refine Z.region ?_
  refine Z.lb 2 rfl ?_
  refine Z.le rfl trivial ?_
  refine Z.ZO.call rfl rfl (by rfl) rfl rfl Try.call60 rfl (ac_index A n c l x _ (hx.st hs) hl hn) ?_
  rintro v1_2 w1_2 ⟨⟨i, rfl, hi⟩, hy⟩
  replace hs := hs.call hy
  clear hy
  try simp only [List.cons_append, List.nil_append, List.append_nil] at hs
  refine Z.lb 2 rfl ?_
  refine Z.lnil ?_
  refine Z.only [4] rfl ?_
  refine Z.nthen ?_
  refine Z.ret ?_
  -- ret#0
  refine Z.out1 (by exact ⟨rfl, trivial⟩) ?_
  exact ⟨_, rfl, by rw [← hi], hs⟩
theorem tick_max {m : AcV} {t : Int} : (tickV m t).max = m.max := by unfold tickV failV; split <;> (try split) <;> rfl

set_option maxHeartbeats 1000000 in
set_option maxRecDepth 100000 in
theorem ac_timedB (g T : Nat) (Cs : List SX.Ent) (m : AcV) (now : Int) (fine : Bool) (e : Int) (k : Nat) (cap : Array Value) (A : Option Addr) (n c : Nat) (sts : List Int) (w : World)
    (hs : SX.St w (SX.idsOf (SX.Ent.blk g T m.cells.toArray :: Cs)) w (SX.Ent.blk g T m.cells.toArray :: Cs)) (hm : m.ok) (hA : Sx w (SX.idsOf (SX.Ent.blk g T m.cells.toArray :: Cs)) A (ints .i64 sts)) (hl : sts.length = n) (hn : n ≤ 1000)
    (hk : ∀ args w, (callFunc k args).run Try.prog w = .ok (.enter k args) w) (rv : Value) (re : Int) (rm : AcV)
    (hstep : fine = true → okT now → e = 0 → (tickV m now).st ∈ sts → ∀ W, SX.St w (SX.idsOf (SX.Ent.blk g T m.cells.toArray :: Cs)) W (SX.Ent.blk g T (tickV m now).cells.toArray :: Cs) →
      Calls Try.prog k cap W (SX.Ret fun v W' => v = .tuple #[rv, .int .i64 re] ∧ SX.St W (SX.idsOf (SX.Ent.blk g T m.cells.toArray :: Cs)) W' (SX.Ent.blk g T rm.cells.toArray :: Cs)))
    (xv : Value) (xe : Int) (xm : AcV) (hx : (xv, xe, xm) = if fine = true ∧ okT now then (if e = 0 then (if (tickV m now).st ∈ sts then (rv, re, rm) else (.bool false, 8, tickV m now)) else (.bool false, e, m)) else (.bool false, 2, m)) :
    Calls Try.prog 29 #[.pointer (some ⟨g, 0, none⟩), .int .i64 now, .bool fine, .int .i64 e, .func (.func k) #[] cap, .slice A n c] w (SX.Ret fun v w' => v = .tuple #[xv, .int .i64 xe] ∧ SX.St w (SX.idsOf (SX.Ent.blk g T m.cells.toArray :: Cs)) w' (SX.Ent.blk g T xm.cells.toArray :: Cs)) := by
  have hmax : m.max ≠ 0 := by have := hm.cfg.2.2.2.2; omega
  have hst2 := hm.st
  have hms := hm.time (t := now)
  generalize hM : SX.idsOf (SX.Ent.blk g T m.cells.toArray :: Cs) = M at *
  refine Z.enter Try.func29 rfl Try.ntmps29 rfl rfl ?_
  refine Z.seq ?_
  refine Z.region ?_
  refine Z.lb 2 rfl ?_
  refine Z.lnil ?_
  refine Z.only [0, 1, 2, 3, 4, 5, 12] rfl ?_
  refine Z.nthen ?_
  refine Z.seq ?_
  refine Z.block ?_
  refine Z.seq ?_
  refine Z.region ?_
  refine Z.lb 1 rfl ?_
  refine Z.le rfl trivial ?_
  refine Z.ZO.call rfl rfl (by rfl) rfl rfl Try.call36 rfl (ac_none g m _ (hs.celOf (by first | ((repeat (first | exact List.mem_cons_self | refine List.mem_cons_of_mem _ ?_ | refine List.mem_append_right _ ?_)); done) | fail)) hmax) ?_
  rintro v1_1 w1_1 ⟨rfl, hy⟩
  replace hs := hs.call hy
  clear hy
  try simp only [List.cons_append, List.nil_append, List.append_nil] at hs
  refine Z.lb 1 rfl ?_
  refine Z.lnil ?_
  refine Z.only [0, 1, 2, 3, 4, 5, 12, 14] rfl ?_
  refine Z.nthen ?_
  refine Z.cond rfl (fun h => absurd h (by simp)) (fun hc1 => ?_)
  refine Z.seq ?_
  refine Z.region ?_
  refine Z.lb 3 rfl ?_
  refine Z.split (s := 21) rfl (fun hsp21 => ?_) (fun hsp21 => ?_)
  · first
      | (exfalso; simp at hsp21 <;> omega)
      | (
        refine Z.yes (s := 21) (b := true) rfl hsp21 rfl ?_
        (try simp at hsp21)
        refine Z.ls rfl rfl rfl (by rfl) ?_
        refine Z.ls rfl rfl rfl (by rfl) ?_
        refine Z.ls rfl rfl rfl (by rfl) ?_
        refine Z.l rfl rfl (by rfl) (Z.keepS hs) (Z.Yd.pickT rfl rfl) ?_
        refine Z.lb 1 rfl ?_
        refine Z.lnil ?_
        refine Z.only [0, 1, 3, 4, 5, 12, 18] rfl ?_
        refine Z.nthen ?_
        refine Z.cond rfl (fun hc3 => ?_) (fun hc3 => ?_)
        · first
            | (exfalso; simp at hc3 <;> omega)
            | (
              (try simp at hc3)
              rw [if_neg (by unfold okT; simp_all <;> omega)] at hx
              refine Z.seq ?_
              refine Z.region ?_
              refine Z.lb 3 rfl ?_
              refine Z.lnil ?_
              refine Z.only [12, 13] rfl ?_
              refine Z.nthen ?_
              refine Z.ret ?_
              repeat (first | refine Z.rthen ?_ | refine Z.rblock ?_ | refine Z.rscope ?_)
              -- ret#0
              refine Z.out2 (by exact ⟨rfl, rfl, trivial⟩) ?_
              cases hx
              exact ⟨_, rfl, rfl, hs⟩
              )
        · first
            | (exfalso; simp at hc3 <;> omega)
            | (
              (try simp at hc3)
              rw [if_pos (by unfold okT; simp_all <;> omega)] at hx
              have hok : okT now := by unfold okT; omega
              refine Z.seq ?_
              refine Z.region ?_
              refine Z.lb 3 rfl ?_
              refine Z.lnil ?_
              refine Z.only [0, 1, 3, 4, 5, 12, 27] rfl ?_
              refine Z.nthen ?_
              refine Z.cond rfl (fun hc5 => ?_) (fun hc5 => ?_)
              · first
                  | (exfalso; simp at hc5 <;> omega)
                  | (
                    (try simp at hc5)
                    rw [if_neg (by assumption)] at hx
                    refine Z.seq ?_
                    refine Z.region ?_
                    refine Z.lb 4 rfl ?_
                    refine Z.lnil ?_
                    refine Z.only [12, 13] rfl ?_
                    refine Z.nthen ?_
                    refine Z.ret ?_
                    repeat (first | refine Z.rthen ?_ | refine Z.rblock ?_ | refine Z.rscope ?_)
                    -- ret#1
                    refine Z.out2 (by exact ⟨rfl, rfl, trivial⟩) ?_
                    cases hx
                    exact ⟨_, rfl, rfl, hs⟩
                    )
              · first
                  | (exfalso; simp at hc5 <;> omega)
                  | (
                    (try simp at hc5)
                    rw [if_pos (by assumption)] at hx
                    refine Z.skip ?_
                    refine Z.nblock ?_
                    refine Z.nthen ?_
                    refine Z.seq ?_
                    refine Z.region ?_
                    replace hs : SX.St w M _ (SX.Ent.blk g T #[.int .u64 (m).id, .int .i64 (m).rnt, .int .i64 (m).win, .int .i64 (m).con, .int .i64 (m).max, .int .i64 (m).st, .int .i64 (m).now, .int .i64 (m).due, .int .i64 (m).frm, .int .i64 (m).pre, .int .i64 (m).att, .int .i64 (m).bnd, .int .i64 (m).rn] :: Cs) := hs
                    refine Z.l rfl rfl (by rfl) (Z.keepS hs) (Z.Yd.pure rfl) ?_
                    refine Z.lb 1 rfl ?_
                    refine Z.l rfl rfl (by rfl) (Z.keepS hs) (Z.Yd.nilc rfl rfl) ?_
                    refine Z.l rfl rfl (by rfl) (Z.keepS hs) (Z.Yd.fieldA (m := 6) rfl (by kernel_rfl)) ?_
                    refine Z.l rfl rfl (by rfl) (Z.keepS hs) (by first | exact Z.Yd.load rfl Try.isAgg3 (fun _ => Z.cellB (by first | ((repeat (first | exact List.mem_cons_self | refine List.mem_cons_of_mem _ ?_ | refine List.mem_append_right _ ?_)); done) | fail) rfl) | exact Z.Yd.load rfl Try.isAgg3 (fun _ => Z.cellO (by assumption) (by simp) (by assumption)) | fail "load 7.4") ?_
                    refine Z.lb 1 rfl ?_
                    refine Z.l rfl rfl (by rfl) (Z.keepS hs) (Z.Yd.max rfl rfl) ?_
                    refine Z.l rfl rfl (by rfl) (Z.keepS hs) (Z.Yd.nilc rfl rfl) ?_
                    refine Z.l rfl rfl (by rfl) (Z.keepS hs) (Z.Yd.fieldA (m := 6) rfl (by kernel_rfl)) ?_
                    refine Z.le rfl trivial ?_
                    first | refine Z.ZO.store rfl rfl hs Try.sizeOf3 rfl rfl rfl (by first | exact SX.at0 | exact SX.at1 | exact SX.at2 | exact SX.at3 | exact SX.at4 | exact SX.at5 | exact Z.at6 | exact Z.at7 | exact Z.at8 | exact Z.at9 | exact Z.at10 | exact Z.at11 | exact Z.at12) (by first | (simp; done) | (simp; omega)) ?_ | refine Z.ZO.storeR rfl rfl hs Try.sizeOf3 rfl rfl rfl (by first | exact SX.at0 | exact SX.at1 | exact SX.at2 | exact SX.at3 | exact SX.at4 | exact SX.at5 | exact Z.at6 | exact Z.at7 | exact Z.at8 | exact Z.at9 | exact Z.at10 | exact Z.at11 | exact Z.at12) (by first | omega | (simp [ints_length]; done) | (simp [ints_length]; omega)) ?_
                    clear hs; intro ws hs
                    simp only [Nat.zero_add, Nat.add_zero, Nat.reduceAdd, Int.reduceToNat, Nat.reduceMul, List.set_cons_zero, List.set_cons_succ, List.setIfInBounds_toArray] at hs
                    refine Z.lnil ?_
                    refine Z.only [0, 4, 5, 12] rfl ?_
                    refine Z.nthen ?_
                    refine Z.seq ?_
                    refine Z.seq ?_
                    refine Z.drawK (fun _ => true) mixed hs ?_
                    clear hs; intro wd8 hs
                    refine Z.tb [0] (by kernel_rfl) rfl ⟨_, hs, by first | (simp; done) | exact fun e he => List.mem_append_right _ he⟩ rfl ?_
                    refine Z.t 1 rfl rfl rfl (by rfl) (by kernel_rfl) ⟨_, hs, by first | (simp; done) | exact fun e he => List.mem_append_right _ he⟩ (Z.Yd.nilc rfl rfl) ?_
                    refine Z.t 2 rfl rfl rfl (by rfl) (by kernel_rfl) ⟨_, hs, by first | (simp; done) | exact fun e he => List.mem_append_right _ he⟩ (Z.Yd.fieldA (m := 5) rfl (by kernel_rfl)) ?_
                    refine Z.t 3 rfl rfl rfl (by rfl) (by kernel_rfl) ⟨_, hs, by first | (simp; done) | exact fun e he => List.mem_append_right _ he⟩ (by first | exact Z.Yd.load rfl Try.isAgg44 (fun _ => Z.cellB (by first | ((repeat (first | exact List.mem_cons_self | refine List.mem_cons_of_mem _ ?_ | refine List.mem_append_right _ ?_)); done) | fail) rfl) | exact Z.Yd.load rfl Try.isAgg44 (fun _ => Z.cellO (by assumption) (by simp) (by assumption)) | fail "load 8.3") ?_
                    refine Z.tb [4, 5, 6] (by kernel_rfl) rfl ⟨_, hs, by first | (simp; done) | exact fun e he => List.mem_append_right _ he⟩ rfl ?_
                    refine Z.t 7 rfl rfl rfl (by rfl) (by kernel_rfl) ⟨_, hs, by first | (simp; done) | exact fun e he => List.mem_append_right _ he⟩ (Z.Yd.nilc rfl rfl) ?_
                    refine Z.t 8 rfl rfl rfl (by rfl) (by kernel_rfl) ⟨_, hs, by first | (simp; done) | exact fun e he => List.mem_append_right _ he⟩ (Z.Yd.fieldA (m := 5) rfl (by kernel_rfl)) ?_
                    refine Z.t 9 rfl rfl rfl (by rfl) (by kernel_rfl) ⟨_, hs, by first | (simp; done) | exact fun e he => List.mem_append_right _ he⟩ (by first | exact Z.Yd.load rfl Try.isAgg44 (fun _ => Z.cellB (by first | ((repeat (first | exact List.mem_cons_self | refine List.mem_cons_of_mem _ ?_ | refine List.mem_append_right _ ?_)); done) | fail) rfl) | exact Z.Yd.load rfl Try.isAgg44 (fun _ => Z.cellO (by assumption) (by simp) (by assumption)) | fail "load 8.9") ?_
                    refine Z.tb [10, 11, 12, 13] (by kernel_rfl) rfl ⟨_, hs, by first | (simp; done) | exact fun e he => List.mem_append_right _ he⟩ rfl ?_
                    refine Z.t 14 rfl rfl rfl (by rfl) (by kernel_rfl) ⟨_, hs, by first | (simp; done) | exact fun e he => List.mem_append_right _ he⟩ (Z.Yd.nilc rfl rfl) ?_
                    refine Z.t 15 rfl rfl rfl (by rfl) (by kernel_rfl) ⟨_, hs, by first | (simp; done) | exact fun e he => List.mem_append_right _ he⟩ (Z.Yd.fieldA (m := 6) rfl (by kernel_rfl)) ?_
                    refine Z.t 16 rfl rfl rfl (by rfl) (by kernel_rfl) ⟨_, hs, by first | (simp; done) | exact fun e he => List.mem_append_right _ he⟩ (by first | exact Z.Yd.load rfl Try.isAgg3 (fun _ => Z.cellB (by first | ((repeat (first | exact List.mem_cons_self | refine List.mem_cons_of_mem _ ?_ | refine List.mem_append_right _ ?_)); done) | fail) rfl) | exact Z.Yd.load rfl Try.isAgg3 (fun _ => Z.cellO (by assumption) (by simp) (by assumption)) | fail "load 8.16") ?_
                    refine Z.tb [17] (by kernel_rfl) rfl ⟨_, hs, by first | (simp; done) | exact fun e he => List.mem_append_right _ he⟩ rfl ?_
                    refine Z.t 18 rfl rfl rfl (by rfl) (by kernel_rfl) ⟨_, hs, by first | (simp; done) | exact fun e he => List.mem_append_right _ he⟩ (Z.Yd.nilc rfl rfl) ?_
                    refine Z.t 19 rfl rfl rfl (by rfl) (by kernel_rfl) ⟨_, hs, by first | (simp; done) | exact fun e he => List.mem_append_right _ he⟩ (Z.Yd.fieldA (m := 7) rfl (by kernel_rfl)) ?_
                    refine Z.t 20 rfl rfl rfl (by rfl) (by kernel_rfl) ⟨_, hs, by first | (simp; done) | exact fun e he => List.mem_append_right _ he⟩ (by first | exact Z.Yd.load rfl Try.isAgg3 (fun _ => Z.cellB (by first | ((repeat (first | exact List.mem_cons_self | refine List.mem_cons_of_mem _ ?_ | refine List.mem_append_right _ ?_)); done) | fail) rfl) | exact Z.Yd.load rfl Try.isAgg3 (fun _ => Z.cellO (by assumption) (by simp) (by assumption)) | fail "load 8.20") ?_
                    refine Z.tb [21, 22] (by kernel_rfl) rfl ⟨_, hs, by first | (simp; done) | exact fun e he => List.mem_append_right _ he⟩ rfl ?_
                    refine Z.td (by rfl) (by kernel_rfl) ?_
                    refine Z.only [0, 4, 5, 12, 63] rfl ?_
                    refine Z.nthen ?_
                    refine Z.cutt (ι := Nat) [0, 4, 5, 12] rfl (fun _ => []) (fun _ wr => SX.St w M wr (SX.Ent.blk g T (tickV m now).cells.toArray :: Cs)) ?_ ?_
                    · skip
                      refine Z.cond rfl (fun hc8 => ?_) (fun hc8 => ?_)
                      · first
                          | (exfalso; simp at hc8 <;> omega)
                          | (
                            (try simp at hc8)
                            have eT : tickV m now = failV { m with now := max m.now now } := if_pos (show waits m now by unfold waits; omega)
                            refine Z.region ?_
                            refine Z.lb 1 rfl ?_
                            refine Z.le rfl trivial ?_
                            refine Z.ZO.call rfl rfl (by rfl) rfl rfl Try.call35 rfl (ac_fail g T { m with now := max m.now now } _ (hs.lend (L1 := [_])) (hms hok)) ?_
                            rintro v9_1 w9_1 ⟨rfl, hz⟩
                            replace hs := hs.regain (L1 := [_]) hz
                            refine Z.lnil ?_
                            refine Z.only [0, 4, 5, 12] rfl ?_
                            refine Z.nthen ?_
                            first | exact Z.meet 0 (by refine ⟨?_, ?_, ?_, ?_, trivial⟩ <;> (first | rfl | (refine Z.lookv rfl ?_; simp; done) | (refine Z.lookv rfl ?_; simp; omega))) (by rw [eT]; exact hs)
                            )
                      · first
                          | (exfalso; simp at hc8 <;> omega)
                          | (
                            (try simp at hc8)
                            have eT : tickV m now = { m with now := max m.now now } := if_neg (show ¬ waits m now by unfold waits; intro h; have := hc8 h.1; omega)
                            refine Z.skip ?_
                            refine Z.nthen ?_
                            first | exact Z.meet 0 (by refine ⟨?_, ?_, ?_, ?_, trivial⟩ <;> (first | rfl | (refine Z.lookv rfl ?_; simp; done) | (refine Z.lookv rfl ?_; simp; omega))) (by rw [eT]; exact hs)
                            )
                    · clear hs
                      rintro _ w8 hs
                      refine Z.only [0, 4, 5, 12] rfl ?_
                      refine Z.seq ?_
                      refine Z.seq ?_
                      refine Z.region ?_
                      refine Z.lb 2 rfl ?_
                      refine Z.l rfl rfl (by rfl) (Z.keepS hs) (Z.Yd.nilc rfl rfl) ?_
                      refine Z.l rfl rfl (by rfl) (Z.keepS hs) (Z.Yd.fieldA (m := 5) rfl (by kernel_rfl)) ?_
                      refine Z.l rfl rfl (by rfl) (Z.keepS hs) (by first | exact Z.Yd.load rfl Try.isAgg44 (fun _ => Z.cellB (by first | ((repeat (first | exact List.mem_cons_self | refine List.mem_cons_of_mem _ ?_ | refine List.mem_append_right _ ?_)); done) | fail) rfl) | exact Z.Yd.load rfl Try.isAgg44 (fun _ => Z.cellO (by assumption) (by simp) (by assumption)) | fail "load 10.4") ?_
                      refine Z.le rfl trivial ?_
                      refine Z.ZO.call rfl rfl (by rfl) rfl rfl Try.call49 rfl (ac_contains A n c sts _ _ (hA.st hs) hl hn) ?_
                      rintro v10_5 w10_5 ⟨rfl, hy⟩
                      replace hs := hs.call hy
                      clear hy
                      try simp only [List.cons_append, List.nil_append, List.append_nil] at hs
                      refine Z.lb 1 rfl ?_
                      refine Z.lnil ?_
                      refine Z.only [4, 12, 72] rfl ?_
                      refine Z.nthen ?_
                      refine Z.cond rfl (fun hc10 => ?_) (fun hc10 => ?_)
                      · first
                          | (exfalso; simp at hc10 <;> omega)
                          | (
                            (try simp at hc10)
                            rw [if_neg (by simp_all)] at hx
                            refine Z.seq ?_
                            refine Z.region ?_
                            refine Z.lb 3 rfl ?_
                            refine Z.lnil ?_
                            refine Z.only [12, 13] rfl ?_
                            refine Z.nthen ?_
                            refine Z.ret ?_
                            repeat (first | refine Z.rthen ?_ | refine Z.rblock ?_ | refine Z.rscope ?_)
                            -- ret#2
                            refine Z.out2 (by exact ⟨rfl, rfl, trivial⟩) ?_
                            cases hx
                            exact ⟨_, rfl, rfl, hs⟩
                            )
                      · first
                          | (exfalso; simp at hc10 <;> omega)
                          | (
                            (try simp at hc10)
                            rw [if_pos (by simp_all)] at hx
                            refine Z.skip ?_
                            refine Z.nthen ?_
                            refine Z.seq ?_
                            refine Z.region ?_
                            refine Z.lb 1 rfl ?_
                            refine Z.le rfl trivial ?_
                            refine Z.ZO.call rfl rfl (by rfl) rfl rfl hk (by first | rfl | simp) (hstep (by simp_all) hok (by assumption) (by simp_all) _ hs) ?_
                            rintro v12_1 w12_1 ⟨rfl, hz⟩
                            replace hs := hs.regainAll (by rw [show SX.idsOf (SX.Ent.blk g T (tickV m now).cells.toArray :: Cs) = M from hM]; exact hz)
                            refine Z.lb 4 rfl ?_
                            refine Z.lnil ?_
                            refine Z.only [12, 13] rfl ?_
                            refine Z.nthen ?_
                            refine Z.ret ?_
                            -- ret#3
                            refine Z.out2 (by exact ⟨rfl, rfl, trivial⟩) ?_
                            cases hx
                            exact ⟨_, rfl, rfl, hs⟩
                            )
                    )
              )
        )
  · first
      | (exfalso; simp at hsp21 <;> omega)
      | (
        refine Z.yes (s := 21) (b := false) rfl hsp21 rfl ?_
        (try simp at hsp21)
        refine Z.lb 1 rfl ?_
        refine Z.yes (s := 21) (b := false) rfl rfl rfl ?_
        refine Z.le rfl (by exact ⟨rfl, trivial⟩) ?_
        refine Z.ZO.call rfl rfl (by rfl) rfl rfl Try.call27 rfl (ac_inside now 0 1073741823 _) ?_
        rintro v3_4 w3_4 ⟨rfl, hy⟩
        replace hs := hs.call hy
        clear hy
        try simp only [List.cons_append, List.nil_append, List.append_nil] at hs
        refine Z.lb 1 rfl ?_
        refine Z.yes (s := 21) (b := false) rfl rfl rfl ?_
        refine Z.l rfl rfl (by rfl) (Z.keepS hs) (Z.Yd.pickF rfl rfl) ?_
        refine Z.lb 1 rfl ?_
        refine Z.lnil ?_
        refine Z.only [0, 1, 3, 4, 5, 12, 18] rfl ?_
        refine Z.nthen ?_
        refine Z.cond rfl (fun hc3 => ?_) (fun hc3 => ?_)
        · first
            | (exfalso; simp at hc3 <;> omega)
            | (
              (try simp at hc3)
              rw [if_neg (by unfold okT; simp_all <;> omega)] at hx
              refine Z.seq ?_
              refine Z.region ?_
              refine Z.lb 3 rfl ?_
              refine Z.lnil ?_
              refine Z.only [12, 13] rfl ?_
              refine Z.nthen ?_
              refine Z.ret ?_
              repeat (first | refine Z.rthen ?_ | refine Z.rblock ?_ | refine Z.rscope ?_)
              -- ret#4
              refine Z.out2 (by exact ⟨rfl, rfl, trivial⟩) ?_
              cases hx
              exact ⟨_, rfl, rfl, hs⟩
              )
        · first
            | (exfalso; simp at hc3 <;> omega)
            | (
              (try simp at hc3)
              rw [if_pos (by unfold okT; simp_all <;> omega)] at hx
              have hok : okT now := by unfold okT; omega
              refine Z.seq ?_
              refine Z.region ?_
              refine Z.lb 3 rfl ?_
              refine Z.lnil ?_
              refine Z.only [0, 1, 3, 4, 5, 12, 27] rfl ?_
              refine Z.nthen ?_
              refine Z.cond rfl (fun hc5 => ?_) (fun hc5 => ?_)
              · first
                  | (exfalso; simp at hc5 <;> omega)
                  | (
                    (try simp at hc5)
                    rw [if_neg (by assumption)] at hx
                    refine Z.seq ?_
                    refine Z.region ?_
                    refine Z.lb 4 rfl ?_
                    refine Z.lnil ?_
                    refine Z.only [12, 13] rfl ?_
                    refine Z.nthen ?_
                    refine Z.ret ?_
                    repeat (first | refine Z.rthen ?_ | refine Z.rblock ?_ | refine Z.rscope ?_)
                    -- ret#5
                    refine Z.out2 (by exact ⟨rfl, rfl, trivial⟩) ?_
                    cases hx
                    exact ⟨_, rfl, rfl, hs⟩
                    )
              · first
                  | (exfalso; simp at hc5 <;> omega)
                  | (
                    (try simp at hc5)
                    rw [if_pos (by assumption)] at hx
                    refine Z.skip ?_
                    refine Z.nblock ?_
                    refine Z.nthen ?_
                    refine Z.seq ?_
                    refine Z.region ?_
                    replace hs : SX.St w M _ (SX.Ent.blk g T #[.int .u64 (m).id, .int .i64 (m).rnt, .int .i64 (m).win, .int .i64 (m).con, .int .i64 (m).max, .int .i64 (m).st, .int .i64 (m).now, .int .i64 (m).due, .int .i64 (m).frm, .int .i64 (m).pre, .int .i64 (m).att, .int .i64 (m).bnd, .int .i64 (m).rn] :: Cs) := hs
                    refine Z.l rfl rfl (by rfl) (Z.keepS hs) (Z.Yd.pure rfl) ?_
                    refine Z.lb 1 rfl ?_
                    refine Z.l rfl rfl (by rfl) (Z.keepS hs) (Z.Yd.nilc rfl rfl) ?_
                    refine Z.l rfl rfl (by rfl) (Z.keepS hs) (Z.Yd.fieldA (m := 6) rfl (by kernel_rfl)) ?_
                    refine Z.l rfl rfl (by rfl) (Z.keepS hs) (by first | exact Z.Yd.load rfl Try.isAgg3 (fun _ => Z.cellB (by first | ((repeat (first | exact List.mem_cons_self | refine List.mem_cons_of_mem _ ?_ | refine List.mem_append_right _ ?_)); done) | fail) rfl) | exact Z.Yd.load rfl Try.isAgg3 (fun _ => Z.cellO (by assumption) (by simp) (by assumption)) | fail "load 7.4") ?_
                    refine Z.lb 1 rfl ?_
                    refine Z.l rfl rfl (by rfl) (Z.keepS hs) (Z.Yd.max rfl rfl) ?_
                    refine Z.l rfl rfl (by rfl) (Z.keepS hs) (Z.Yd.nilc rfl rfl) ?_
                    refine Z.l rfl rfl (by rfl) (Z.keepS hs) (Z.Yd.fieldA (m := 6) rfl (by kernel_rfl)) ?_
                    refine Z.le rfl trivial ?_
                    first | refine Z.ZO.store rfl rfl hs Try.sizeOf3 rfl rfl rfl (by first | exact SX.at0 | exact SX.at1 | exact SX.at2 | exact SX.at3 | exact SX.at4 | exact SX.at5 | exact Z.at6 | exact Z.at7 | exact Z.at8 | exact Z.at9 | exact Z.at10 | exact Z.at11 | exact Z.at12) (by first | (simp; done) | (simp; omega)) ?_ | refine Z.ZO.storeR rfl rfl hs Try.sizeOf3 rfl rfl rfl (by first | exact SX.at0 | exact SX.at1 | exact SX.at2 | exact SX.at3 | exact SX.at4 | exact SX.at5 | exact Z.at6 | exact Z.at7 | exact Z.at8 | exact Z.at9 | exact Z.at10 | exact Z.at11 | exact Z.at12) (by first | omega | (simp [ints_length]; done) | (simp [ints_length]; omega)) ?_
                    clear hs; intro ws hs
                    simp only [Nat.zero_add, Nat.add_zero, Nat.reduceAdd, Int.reduceToNat, Nat.reduceMul, List.set_cons_zero, List.set_cons_succ, List.setIfInBounds_toArray] at hs
                    refine Z.lnil ?_
                    refine Z.only [0, 4, 5, 12] rfl ?_
                    refine Z.nthen ?_
                    refine Z.seq ?_
                    refine Z.seq ?_
                    refine Z.drawK (fun _ => true) mixed hs ?_
                    clear hs; intro wd8 hs
                    refine Z.tb [0] (by kernel_rfl) rfl ⟨_, hs, by first | (simp; done) | exact fun e he => List.mem_append_right _ he⟩ rfl ?_
                    refine Z.t 1 rfl rfl rfl (by rfl) (by kernel_rfl) ⟨_, hs, by first | (simp; done) | exact fun e he => List.mem_append_right _ he⟩ (Z.Yd.nilc rfl rfl) ?_
                    refine Z.t 2 rfl rfl rfl (by rfl) (by kernel_rfl) ⟨_, hs, by first | (simp; done) | exact fun e he => List.mem_append_right _ he⟩ (Z.Yd.fieldA (m := 5) rfl (by kernel_rfl)) ?_
                    refine Z.t 3 rfl rfl rfl (by rfl) (by kernel_rfl) ⟨_, hs, by first | (simp; done) | exact fun e he => List.mem_append_right _ he⟩ (by first | exact Z.Yd.load rfl Try.isAgg44 (fun _ => Z.cellB (by first | ((repeat (first | exact List.mem_cons_self | refine List.mem_cons_of_mem _ ?_ | refine List.mem_append_right _ ?_)); done) | fail) rfl) | exact Z.Yd.load rfl Try.isAgg44 (fun _ => Z.cellO (by assumption) (by simp) (by assumption)) | fail "load 8.3") ?_
                    refine Z.tb [4, 5, 6] (by kernel_rfl) rfl ⟨_, hs, by first | (simp; done) | exact fun e he => List.mem_append_right _ he⟩ rfl ?_
                    refine Z.t 7 rfl rfl rfl (by rfl) (by kernel_rfl) ⟨_, hs, by first | (simp; done) | exact fun e he => List.mem_append_right _ he⟩ (Z.Yd.nilc rfl rfl) ?_
                    refine Z.t 8 rfl rfl rfl (by rfl) (by kernel_rfl) ⟨_, hs, by first | (simp; done) | exact fun e he => List.mem_append_right _ he⟩ (Z.Yd.fieldA (m := 5) rfl (by kernel_rfl)) ?_
                    refine Z.t 9 rfl rfl rfl (by rfl) (by kernel_rfl) ⟨_, hs, by first | (simp; done) | exact fun e he => List.mem_append_right _ he⟩ (by first | exact Z.Yd.load rfl Try.isAgg44 (fun _ => Z.cellB (by first | ((repeat (first | exact List.mem_cons_self | refine List.mem_cons_of_mem _ ?_ | refine List.mem_append_right _ ?_)); done) | fail) rfl) | exact Z.Yd.load rfl Try.isAgg44 (fun _ => Z.cellO (by assumption) (by simp) (by assumption)) | fail "load 8.9") ?_
                    refine Z.tb [10, 11, 12, 13] (by kernel_rfl) rfl ⟨_, hs, by first | (simp; done) | exact fun e he => List.mem_append_right _ he⟩ rfl ?_
                    refine Z.t 14 rfl rfl rfl (by rfl) (by kernel_rfl) ⟨_, hs, by first | (simp; done) | exact fun e he => List.mem_append_right _ he⟩ (Z.Yd.nilc rfl rfl) ?_
                    refine Z.t 15 rfl rfl rfl (by rfl) (by kernel_rfl) ⟨_, hs, by first | (simp; done) | exact fun e he => List.mem_append_right _ he⟩ (Z.Yd.fieldA (m := 6) rfl (by kernel_rfl)) ?_
                    refine Z.t 16 rfl rfl rfl (by rfl) (by kernel_rfl) ⟨_, hs, by first | (simp; done) | exact fun e he => List.mem_append_right _ he⟩ (by first | exact Z.Yd.load rfl Try.isAgg3 (fun _ => Z.cellB (by first | ((repeat (first | exact List.mem_cons_self | refine List.mem_cons_of_mem _ ?_ | refine List.mem_append_right _ ?_)); done) | fail) rfl) | exact Z.Yd.load rfl Try.isAgg3 (fun _ => Z.cellO (by assumption) (by simp) (by assumption)) | fail "load 8.16") ?_
                    refine Z.tb [17] (by kernel_rfl) rfl ⟨_, hs, by first | (simp; done) | exact fun e he => List.mem_append_right _ he⟩ rfl ?_
                    refine Z.t 18 rfl rfl rfl (by rfl) (by kernel_rfl) ⟨_, hs, by first | (simp; done) | exact fun e he => List.mem_append_right _ he⟩ (Z.Yd.nilc rfl rfl) ?_
                    refine Z.t 19 rfl rfl rfl (by rfl) (by kernel_rfl) ⟨_, hs, by first | (simp; done) | exact fun e he => List.mem_append_right _ he⟩ (Z.Yd.fieldA (m := 7) rfl (by kernel_rfl)) ?_
                    refine Z.t 20 rfl rfl rfl (by rfl) (by kernel_rfl) ⟨_, hs, by first | (simp; done) | exact fun e he => List.mem_append_right _ he⟩ (by first | exact Z.Yd.load rfl Try.isAgg3 (fun _ => Z.cellB (by first | ((repeat (first | exact List.mem_cons_self | refine List.mem_cons_of_mem _ ?_ | refine List.mem_append_right _ ?_)); done) | fail) rfl) | exact Z.Yd.load rfl Try.isAgg3 (fun _ => Z.cellO (by assumption) (by simp) (by assumption)) | fail "load 8.20") ?_
                    refine Z.tb [21, 22] (by kernel_rfl) rfl ⟨_, hs, by first | (simp; done) | exact fun e he => List.mem_append_right _ he⟩ rfl ?_
                    refine Z.td (by rfl) (by kernel_rfl) ?_
                    refine Z.only [0, 4, 5, 12, 63] rfl ?_
                    refine Z.nthen ?_
                    refine Z.cutt (ι := Nat) [0, 4, 5, 12] rfl (fun _ => []) (fun _ wr => SX.St w M wr (SX.Ent.blk g T (tickV m now).cells.toArray :: Cs)) ?_ ?_
                    · skip
                      refine Z.cond rfl (fun hc8 => ?_) (fun hc8 => ?_)
                      · first
                          | (exfalso; simp at hc8 <;> omega)
                          | (
                            (try simp at hc8)
                            have eT : tickV m now = failV { m with now := max m.now now } := if_pos (show waits m now by unfold waits; omega)
                            refine Z.region ?_
                            refine Z.lb 1 rfl ?_
                            refine Z.le rfl trivial ?_
                            refine Z.ZO.call rfl rfl (by rfl) rfl rfl Try.call35 rfl (ac_fail g T { m with now := max m.now now } _ (hs.lend (L1 := [_])) (hms hok)) ?_
                            rintro v9_1 w9_1 ⟨rfl, hz⟩
                            replace hs := hs.regain (L1 := [_]) hz
                            refine Z.lnil ?_
                            refine Z.only [0, 4, 5, 12] rfl ?_
                            refine Z.nthen ?_
                            first | exact Z.meet 0 (by refine ⟨?_, ?_, ?_, ?_, trivial⟩ <;> (first | rfl | (refine Z.lookv rfl ?_; simp; done) | (refine Z.lookv rfl ?_; simp; omega))) (by rw [eT]; exact hs)
                            )
                      · first
                          | (exfalso; simp at hc8 <;> omega)
                          | (
                            (try simp at hc8)
                            have eT : tickV m now = { m with now := max m.now now } := if_neg (show ¬ waits m now by unfold waits; intro h; have := hc8 h.1; omega)
                            refine Z.skip ?_
                            refine Z.nthen ?_
                            first | exact Z.meet 0 (by refine ⟨?_, ?_, ?_, ?_, trivial⟩ <;> (first | rfl | (refine Z.lookv rfl ?_; simp; done) | (refine Z.lookv rfl ?_; simp; omega))) (by rw [eT]; exact hs)
                            )
                    · clear hs
                      rintro _ w8 hs
                      refine Z.only [0, 4, 5, 12] rfl ?_
                      refine Z.seq ?_
                      refine Z.seq ?_
                      refine Z.region ?_
                      refine Z.lb 2 rfl ?_
                      refine Z.l rfl rfl (by rfl) (Z.keepS hs) (Z.Yd.nilc rfl rfl) ?_
                      refine Z.l rfl rfl (by rfl) (Z.keepS hs) (Z.Yd.fieldA (m := 5) rfl (by kernel_rfl)) ?_
                      refine Z.l rfl rfl (by rfl) (Z.keepS hs) (by first | exact Z.Yd.load rfl Try.isAgg44 (fun _ => Z.cellB (by first | ((repeat (first | exact List.mem_cons_self | refine List.mem_cons_of_mem _ ?_ | refine List.mem_append_right _ ?_)); done) | fail) rfl) | exact Z.Yd.load rfl Try.isAgg44 (fun _ => Z.cellO (by assumption) (by simp) (by assumption)) | fail "load 10.4") ?_
                      refine Z.le rfl trivial ?_
                      refine Z.ZO.call rfl rfl (by rfl) rfl rfl Try.call49 rfl (ac_contains A n c sts _ _ (hA.st hs) hl hn) ?_
                      rintro v10_5 w10_5 ⟨rfl, hy⟩
                      replace hs := hs.call hy
                      clear hy
                      try simp only [List.cons_append, List.nil_append, List.append_nil] at hs
                      refine Z.lb 1 rfl ?_
                      refine Z.lnil ?_
                      refine Z.only [4, 12, 72] rfl ?_
                      refine Z.nthen ?_
                      refine Z.cond rfl (fun hc10 => ?_) (fun hc10 => ?_)
                      · first
                          | (exfalso; simp at hc10 <;> omega)
                          | (
                            (try simp at hc10)
                            rw [if_neg (by simp_all)] at hx
                            refine Z.seq ?_
                            refine Z.region ?_
                            refine Z.lb 3 rfl ?_
                            refine Z.lnil ?_
                            refine Z.only [12, 13] rfl ?_
                            refine Z.nthen ?_
                            refine Z.ret ?_
                            repeat (first | refine Z.rthen ?_ | refine Z.rblock ?_ | refine Z.rscope ?_)
                            -- ret#6
                            refine Z.out2 (by exact ⟨rfl, rfl, trivial⟩) ?_
                            cases hx
                            exact ⟨_, rfl, rfl, hs⟩
                            )
                      · first
                          | (exfalso; simp at hc10 <;> omega)
                          | (
                            (try simp at hc10)
                            rw [if_pos (by simp_all)] at hx
                            refine Z.skip ?_
                            refine Z.nthen ?_
                            refine Z.seq ?_
                            refine Z.region ?_
                            refine Z.lb 1 rfl ?_
                            refine Z.le rfl trivial ?_
                            refine Z.ZO.call rfl rfl (by rfl) rfl rfl hk (by first | rfl | simp) (hstep (by simp_all) hok (by assumption) (by simp_all) _ hs) ?_
                            rintro v12_1 w12_1 ⟨rfl, hz⟩
                            replace hs := hs.regainAll (by rw [show SX.idsOf (SX.Ent.blk g T (tickV m now).cells.toArray :: Cs) = M from hM]; exact hz)
                            refine Z.lb 4 rfl ?_
                            refine Z.lnil ?_
                            refine Z.only [12, 13] rfl ?_
                            refine Z.nthen ?_
                            refine Z.ret ?_
                            -- ret#7
                            refine Z.out2 (by exact ⟨rfl, rfl, trivial⟩) ?_
                            cases hx
                            exact ⟨_, rfl, rfl, hs⟩
                            )
                    )
              )
        )
set_option maxHeartbeats 1000000 in
set_option maxRecDepth 100000 in
theorem ac_timedI (g T : Nat) (Cs : List SX.Ent) (m : AcV) (now : Int) (fine : Bool) (e : Int) (k : Nat) (cap : Array Value) (A : Option Addr) (n c : Nat) (sts : List Int) (w : World)
    (hs : SX.St w (SX.idsOf (SX.Ent.blk g T m.cells.toArray :: Cs)) w (SX.Ent.blk g T m.cells.toArray :: Cs)) (hm : m.ok) (hA : Sx w (SX.idsOf (SX.Ent.blk g T m.cells.toArray :: Cs)) A (ints .i64 sts)) (hl : sts.length = n) (hn : n ≤ 1000)
    (hk : ∀ args w, (callFunc k args).run Try.prog w = .ok (.enter k args) w) (rv : Value) (re : Int) (rm : AcV)
    (hstep : fine = true → okT now → e = 0 → (tickV m now).st ∈ sts → ∀ W, SX.St w (SX.idsOf (SX.Ent.blk g T m.cells.toArray :: Cs)) W (SX.Ent.blk g T (tickV m now).cells.toArray :: Cs) →
      Calls Try.prog k cap W (SX.Ret fun v W' => v = .tuple #[rv, .int .i64 re] ∧ SX.St W (SX.idsOf (SX.Ent.blk g T m.cells.toArray :: Cs)) W' (SX.Ent.blk g T rm.cells.toArray :: Cs)))
    (xv : Value) (xe : Int) (xm : AcV) (hx : (xv, xe, xm) = if fine = true ∧ okT now then (if e = 0 then (if (tickV m now).st ∈ sts then (rv, re, rm) else (.int .i64 0, 8, tickV m now)) else (.int .i64 0, e, m)) else (.int .i64 0, 2, m)) :
    Calls Try.prog 32 #[.pointer (some ⟨g, 0, none⟩), .int .i64 now, .bool fine, .int .i64 e, .func (.func k) #[] cap, .slice A n c] w (SX.Ret fun v w' => v = .tuple #[xv, .int .i64 xe] ∧ SX.St w (SX.idsOf (SX.Ent.blk g T m.cells.toArray :: Cs)) w' (SX.Ent.blk g T xm.cells.toArray :: Cs)) := by
  have hmax : m.max ≠ 0 := by have := hm.cfg.2.2.2.2; omega
  have hst2 := hm.st
  have hms := hm.time (t := now)
  generalize hM : SX.idsOf (SX.Ent.blk g T m.cells.toArray :: Cs) = M at *
  refine Z.enter Try.func32 rfl Try.ntmps32 rfl rfl ?_
  refine Z.seq ?_
  refine Z.region ?_
  refine Z.lb 2 rfl ?_
  refine Z.lnil ?_
  refine Z.only [0, 1, 2, 3, 4, 5, 12] rfl ?_
  refine Z.nthen ?_
  refine Z.seq ?_
  refine Z.block ?_
  refine Z.seq ?_
  refine Z.region ?_
  refine Z.lb 1 rfl ?_
  refine Z.le rfl trivial ?_
  refine Z.ZO.call rfl rfl (by rfl) rfl rfl Try.call36 rfl (ac_none g m _ (hs.celOf (by first | ((repeat (first | exact List.mem_cons_self | refine List.mem_cons_of_mem _ ?_ | refine List.mem_append_right _ ?_)); done) | fail)) hmax) ?_
  rintro v1_1 w1_1 ⟨rfl, hy⟩
  replace hs := hs.call hy
  clear hy
  try simp only [List.cons_append, List.nil_append, List.append_nil] at hs
  refine Z.lb 1 rfl ?_
  refine Z.lnil ?_
  refine Z.only [0, 1, 2, 3, 4, 5, 12, 14] rfl ?_
  refine Z.nthen ?_
  refine Z.cond rfl (fun h => absurd h (by simp)) (fun hc1 => ?_)
  refine Z.seq ?_
  refine Z.region ?_
  refine Z.lb 3 rfl ?_
  refine Z.split (s := 21) rfl (fun hsp21 => ?_) (fun hsp21 => ?_)
  · first
      | (exfalso; simp at hsp21 <;> omega)
      | (
        refine Z.yes (s := 21) (b := true) rfl hsp21 rfl ?_
        (try simp at hsp21)
        refine Z.ls rfl rfl rfl (by rfl) ?_
        refine Z.ls rfl rfl rfl (by rfl) ?_
        refine Z.ls rfl rfl rfl (by rfl) ?_
        refine Z.l rfl rfl (by rfl) (Z.keepS hs) (Z.Yd.pickT rfl rfl) ?_
        refine Z.lb 1 rfl ?_
        refine Z.lnil ?_
        refine Z.only [0, 1, 3, 4, 5, 12, 18] rfl ?_
        refine Z.nthen ?_
        refine Z.cond rfl (fun hc3 => ?_) (fun hc3 => ?_)
        · first
            | (exfalso; simp at hc3 <;> omega)
            | (
              (try simp at hc3)
              rw [if_neg (by unfold okT; simp_all <;> omega)] at hx
              refine Z.seq ?_
              refine Z.region ?_
              refine Z.lb 3 rfl ?_
              refine Z.lnil ?_
              refine Z.only [12, 13] rfl ?_
              refine Z.nthen ?_
              refine Z.ret ?_
              repeat (first | refine Z.rthen ?_ | refine Z.rblock ?_ | refine Z.rscope ?_)
              -- ret#0
              refine Z.out2 (by exact ⟨rfl, rfl, trivial⟩) ?_
              cases hx
              exact ⟨_, rfl, rfl, hs⟩
              )
        · first
            | (exfalso; simp at hc3 <;> omega)
            | (
              (try simp at hc3)
              rw [if_pos (by unfold okT; simp_all <;> omega)] at hx
              have hok : okT now := by unfold okT; omega
              refine Z.seq ?_
              refine Z.region ?_
              refine Z.lb 3 rfl ?_
              refine Z.lnil ?_
              refine Z.only [0, 1, 3, 4, 5, 12, 27] rfl ?_
              refine Z.nthen ?_
              refine Z.cond rfl (fun hc5 => ?_) (fun hc5 => ?_)
              · first
                  | (exfalso; simp at hc5 <;> omega)
                  | (
                    (try simp at hc5)
                    rw [if_neg (by assumption)] at hx
                    refine Z.seq ?_
                    refine Z.region ?_
                    refine Z.lb 4 rfl ?_
                    refine Z.lnil ?_
                    refine Z.only [12, 13] rfl ?_
                    refine Z.nthen ?_
                    refine Z.ret ?_
                    repeat (first | refine Z.rthen ?_ | refine Z.rblock ?_ | refine Z.rscope ?_)
                    -- ret#1
                    refine Z.out2 (by exact ⟨rfl, rfl, trivial⟩) ?_
                    cases hx
                    exact ⟨_, rfl, rfl, hs⟩
                    )
              · first
                  | (exfalso; simp at hc5 <;> omega)
                  | (
                    (try simp at hc5)
                    rw [if_pos (by assumption)] at hx
                    refine Z.skip ?_
                    refine Z.nblock ?_
                    refine Z.nthen ?_
                    refine Z.seq ?_
                    refine Z.region ?_
                    replace hs : SX.St w M _ (SX.Ent.blk g T #[.int .u64 (m).id, .int .i64 (m).rnt, .int .i64 (m).win, .int .i64 (m).con, .int .i64 (m).max, .int .i64 (m).st, .int .i64 (m).now, .int .i64 (m).due, .int .i64 (m).frm, .int .i64 (m).pre, .int .i64 (m).att, .int .i64 (m).bnd, .int .i64 (m).rn] :: Cs) := hs
                    refine Z.l rfl rfl (by rfl) (Z.keepS hs) (Z.Yd.pure rfl) ?_
                    refine Z.lb 1 rfl ?_
                    refine Z.l rfl rfl (by rfl) (Z.keepS hs) (Z.Yd.nilc rfl rfl) ?_
                    refine Z.l rfl rfl (by rfl) (Z.keepS hs) (Z.Yd.fieldA (m := 6) rfl (by kernel_rfl)) ?_
                    refine Z.l rfl rfl (by rfl) (Z.keepS hs) (by first | exact Z.Yd.load rfl Try.isAgg3 (fun _ => Z.cellB (by first | ((repeat (first | exact List.mem_cons_self | refine List.mem_cons_of_mem _ ?_ | refine List.mem_append_right _ ?_)); done) | fail) rfl) | exact Z.Yd.load rfl Try.isAgg3 (fun _ => Z.cellO (by assumption) (by simp) (by assumption)) | fail "load 7.4") ?_
                    refine Z.lb 1 rfl ?_
                    refine Z.l rfl rfl (by rfl) (Z.keepS hs) (Z.Yd.max rfl rfl) ?_
                    refine Z.l rfl rfl (by rfl) (Z.keepS hs) (Z.Yd.nilc rfl rfl) ?_
                    refine Z.l rfl rfl (by rfl) (Z.keepS hs) (Z.Yd.fieldA (m := 6) rfl (by kernel_rfl)) ?_
                    refine Z.le rfl trivial ?_
                    first | refine Z.ZO.store rfl rfl hs Try.sizeOf3 rfl rfl rfl (by first | exact SX.at0 | exact SX.at1 | exact SX.at2 | exact SX.at3 | exact SX.at4 | exact SX.at5 | exact Z.at6 | exact Z.at7 | exact Z.at8 | exact Z.at9 | exact Z.at10 | exact Z.at11 | exact Z.at12) (by first | (simp; done) | (simp; omega)) ?_ | refine Z.ZO.storeR rfl rfl hs Try.sizeOf3 rfl rfl rfl (by first | exact SX.at0 | exact SX.at1 | exact SX.at2 | exact SX.at3 | exact SX.at4 | exact SX.at5 | exact Z.at6 | exact Z.at7 | exact Z.at8 | exact Z.at9 | exact Z.at10 | exact Z.at11 | exact Z.at12) (by first | omega | (simp [ints_length]; done) | (simp [ints_length]; omega)) ?_
                    clear hs; intro ws hs
                    simp only [Nat.zero_add, Nat.add_zero, Nat.reduceAdd, Int.reduceToNat, Nat.reduceMul, List.set_cons_zero, List.set_cons_succ, List.setIfInBounds_toArray] at hs
                    refine Z.lnil ?_
                    refine Z.only [0, 4, 5, 12] rfl ?_
                    refine Z.nthen ?_
                    refine Z.seq ?_
                    refine Z.seq ?_
                    refine Z.drawK (fun _ => true) mixed hs ?_
                    clear hs; intro wd8 hs
                    refine Z.tb [0] (by kernel_rfl) rfl ⟨_, hs, by first | (simp; done) | exact fun e he => List.mem_append_right _ he⟩ rfl ?_
                    refine Z.t 1 rfl rfl rfl (by rfl) (by kernel_rfl) ⟨_, hs, by first | (simp; done) | exact fun e he => List.mem_append_right _ he⟩ (Z.Yd.nilc rfl rfl) ?_
                    refine Z.t 2 rfl rfl rfl (by rfl) (by kernel_rfl) ⟨_, hs, by first | (simp; done) | exact fun e he => List.mem_append_right _ he⟩ (Z.Yd.fieldA (m := 5) rfl (by kernel_rfl)) ?_
                    refine Z.t 3 rfl rfl rfl (by rfl) (by kernel_rfl) ⟨_, hs, by first | (simp; done) | exact fun e he => List.mem_append_right _ he⟩ (by first | exact Z.Yd.load rfl Try.isAgg44 (fun _ => Z.cellB (by first | ((repeat (first | exact List.mem_cons_self | refine List.mem_cons_of_mem _ ?_ | refine List.mem_append_right _ ?_)); done) | fail) rfl) | exact Z.Yd.load rfl Try.isAgg44 (fun _ => Z.cellO (by assumption) (by simp) (by assumption)) | fail "load 8.3") ?_
                    refine Z.tb [4, 5, 6] (by kernel_rfl) rfl ⟨_, hs, by first | (simp; done) | exact fun e he => List.mem_append_right _ he⟩ rfl ?_
                    refine Z.t 7 rfl rfl rfl (by rfl) (by kernel_rfl) ⟨_, hs, by first | (simp; done) | exact fun e he => List.mem_append_right _ he⟩ (Z.Yd.nilc rfl rfl) ?_
                    refine Z.t 8 rfl rfl rfl (by rfl) (by kernel_rfl) ⟨_, hs, by first | (simp; done) | exact fun e he => List.mem_append_right _ he⟩ (Z.Yd.fieldA (m := 5) rfl (by kernel_rfl)) ?_
                    refine Z.t 9 rfl rfl rfl (by rfl) (by kernel_rfl) ⟨_, hs, by first | (simp; done) | exact fun e he => List.mem_append_right _ he⟩ (by first | exact Z.Yd.load rfl Try.isAgg44 (fun _ => Z.cellB (by first | ((repeat (first | exact List.mem_cons_self | refine List.mem_cons_of_mem _ ?_ | refine List.mem_append_right _ ?_)); done) | fail) rfl) | exact Z.Yd.load rfl Try.isAgg44 (fun _ => Z.cellO (by assumption) (by simp) (by assumption)) | fail "load 8.9") ?_
                    refine Z.tb [10, 11, 12, 13] (by kernel_rfl) rfl ⟨_, hs, by first | (simp; done) | exact fun e he => List.mem_append_right _ he⟩ rfl ?_
                    refine Z.t 14 rfl rfl rfl (by rfl) (by kernel_rfl) ⟨_, hs, by first | (simp; done) | exact fun e he => List.mem_append_right _ he⟩ (Z.Yd.nilc rfl rfl) ?_
                    refine Z.t 15 rfl rfl rfl (by rfl) (by kernel_rfl) ⟨_, hs, by first | (simp; done) | exact fun e he => List.mem_append_right _ he⟩ (Z.Yd.fieldA (m := 6) rfl (by kernel_rfl)) ?_
                    refine Z.t 16 rfl rfl rfl (by rfl) (by kernel_rfl) ⟨_, hs, by first | (simp; done) | exact fun e he => List.mem_append_right _ he⟩ (by first | exact Z.Yd.load rfl Try.isAgg3 (fun _ => Z.cellB (by first | ((repeat (first | exact List.mem_cons_self | refine List.mem_cons_of_mem _ ?_ | refine List.mem_append_right _ ?_)); done) | fail) rfl) | exact Z.Yd.load rfl Try.isAgg3 (fun _ => Z.cellO (by assumption) (by simp) (by assumption)) | fail "load 8.16") ?_
                    refine Z.tb [17] (by kernel_rfl) rfl ⟨_, hs, by first | (simp; done) | exact fun e he => List.mem_append_right _ he⟩ rfl ?_
                    refine Z.t 18 rfl rfl rfl (by rfl) (by kernel_rfl) ⟨_, hs, by first | (simp; done) | exact fun e he => List.mem_append_right _ he⟩ (Z.Yd.nilc rfl rfl) ?_
                    refine Z.t 19 rfl rfl rfl (by rfl) (by kernel_rfl) ⟨_, hs, by first | (simp; done) | exact fun e he => List.mem_append_right _ he⟩ (Z.Yd.fieldA (m := 7) rfl (by kernel_rfl)) ?_
                    refine Z.t 20 rfl rfl rfl (by rfl) (by kernel_rfl) ⟨_, hs, by first | (simp; done) | exact fun e he => List.mem_append_right _ he⟩ (by first | exact Z.Yd.load rfl Try.isAgg3 (fun _ => Z.cellB (by first | ((repeat (first | exact List.mem_cons_self | refine List.mem_cons_of_mem _ ?_ | refine List.mem_append_right _ ?_)); done) | fail) rfl) | exact Z.Yd.load rfl Try.isAgg3 (fun _ => Z.cellO (by assumption) (by simp) (by assumption)) | fail "load 8.20") ?_
                    refine Z.tb [21, 22] (by kernel_rfl) rfl ⟨_, hs, by first | (simp; done) | exact fun e he => List.mem_append_right _ he⟩ rfl ?_
                    refine Z.td (by rfl) (by kernel_rfl) ?_
                    refine Z.only [0, 4, 5, 12, 63] rfl ?_
                    refine Z.nthen ?_
                    refine Z.cutt (ι := Nat) [0, 4, 5, 12] rfl (fun _ => []) (fun _ wr => SX.St w M wr (SX.Ent.blk g T (tickV m now).cells.toArray :: Cs)) ?_ ?_
                    · skip
                      refine Z.cond rfl (fun hc8 => ?_) (fun hc8 => ?_)
                      · first
                          | (exfalso; simp at hc8 <;> omega)
                          | (
                            (try simp at hc8)
                            have eT : tickV m now = failV { m with now := max m.now now } := if_pos (show waits m now by unfold waits; omega)
                            refine Z.region ?_
                            refine Z.lb 1 rfl ?_
                            refine Z.le rfl trivial ?_
                            refine Z.ZO.call rfl rfl (by rfl) rfl rfl Try.call35 rfl (ac_fail g T { m with now := max m.now now } _ (hs.lend (L1 := [_])) (hms hok)) ?_
                            rintro v9_1 w9_1 ⟨rfl, hz⟩
                            replace hs := hs.regain (L1 := [_]) hz
                            refine Z.lnil ?_
                            refine Z.only [0, 4, 5, 12] rfl ?_
                            refine Z.nthen ?_
                            first | exact Z.meet 0 (by refine ⟨?_, ?_, ?_, ?_, trivial⟩ <;> (first | rfl | (refine Z.lookv rfl ?_; simp; done) | (refine Z.lookv rfl ?_; simp; omega))) (by rw [eT]; exact hs)
                            )
                      · first
                          | (exfalso; simp at hc8 <;> omega)
                          | (
                            (try simp at hc8)
                            have eT : tickV m now = { m with now := max m.now now } := if_neg (show ¬ waits m now by unfold waits; intro h; have := hc8 h.1; omega)
                            refine Z.skip ?_
                            refine Z.nthen ?_
                            first | exact Z.meet 0 (by refine ⟨?_, ?_, ?_, ?_, trivial⟩ <;> (first | rfl | (refine Z.lookv rfl ?_; simp; done) | (refine Z.lookv rfl ?_; simp; omega))) (by rw [eT]; exact hs)
                            )
                    · clear hs
                      rintro _ w8 hs
                      refine Z.only [0, 4, 5, 12] rfl ?_
                      refine Z.seq ?_
                      refine Z.seq ?_
                      refine Z.region ?_
                      refine Z.lb 2 rfl ?_
                      refine Z.l rfl rfl (by rfl) (Z.keepS hs) (Z.Yd.nilc rfl rfl) ?_
                      refine Z.l rfl rfl (by rfl) (Z.keepS hs) (Z.Yd.fieldA (m := 5) rfl (by kernel_rfl)) ?_
                      refine Z.l rfl rfl (by rfl) (Z.keepS hs) (by first | exact Z.Yd.load rfl Try.isAgg44 (fun _ => Z.cellB (by first | ((repeat (first | exact List.mem_cons_self | refine List.mem_cons_of_mem _ ?_ | refine List.mem_append_right _ ?_)); done) | fail) rfl) | exact Z.Yd.load rfl Try.isAgg44 (fun _ => Z.cellO (by assumption) (by simp) (by assumption)) | fail "load 10.4") ?_
                      refine Z.le rfl trivial ?_
                      refine Z.ZO.call rfl rfl (by rfl) rfl rfl Try.call49 rfl (ac_contains A n c sts _ _ (hA.st hs) hl hn) ?_
                      rintro v10_5 w10_5 ⟨rfl, hy⟩
                      replace hs := hs.call hy
                      clear hy
                      try simp only [List.cons_append, List.nil_append, List.append_nil] at hs
                      refine Z.lb 1 rfl ?_
                      refine Z.lnil ?_
                      refine Z.only [4, 12, 72] rfl ?_
                      refine Z.nthen ?_
                      refine Z.cond rfl (fun hc10 => ?_) (fun hc10 => ?_)
                      · first
                          | (exfalso; simp at hc10 <;> omega)
                          | (
                            (try simp at hc10)
                            rw [if_neg (by simp_all)] at hx
                            refine Z.seq ?_
                            refine Z.region ?_
                            refine Z.lb 3 rfl ?_
                            refine Z.lnil ?_
                            refine Z.only [12, 13] rfl ?_
                            refine Z.nthen ?_
                            refine Z.ret ?_
                            repeat (first | refine Z.rthen ?_ | refine Z.rblock ?_ | refine Z.rscope ?_)
                            -- ret#2
                            refine Z.out2 (by exact ⟨rfl, rfl, trivial⟩) ?_
                            cases hx
                            exact ⟨_, rfl, rfl, hs⟩
                            )
                      · first
                          | (exfalso; simp at hc10 <;> omega)
                          | (
                            (try simp at hc10)
                            rw [if_pos (by simp_all)] at hx
                            refine Z.skip ?_
                            refine Z.nthen ?_
                            refine Z.seq ?_
                            refine Z.region ?_
                            refine Z.lb 1 rfl ?_
                            refine Z.le rfl trivial ?_
                            refine Z.ZO.call rfl rfl (by rfl) rfl rfl hk (by first | rfl | simp) (hstep (by simp_all) hok (by assumption) (by simp_all) _ hs) ?_
                            rintro v12_1 w12_1 ⟨rfl, hz⟩
                            replace hs := hs.regainAll (by rw [show SX.idsOf (SX.Ent.blk g T (tickV m now).cells.toArray :: Cs) = M from hM]; exact hz)
                            refine Z.lb 4 rfl ?_
                            refine Z.lnil ?_
                            refine Z.only [12, 13] rfl ?_
                            refine Z.nthen ?_
                            refine Z.ret ?_
                            -- ret#3
                            refine Z.out2 (by exact ⟨rfl, rfl, trivial⟩) ?_
                            cases hx
                            exact ⟨_, rfl, rfl, hs⟩
                            )
                    )
              )
        )
  · first
      | (exfalso; simp at hsp21 <;> omega)
      | (
        refine Z.yes (s := 21) (b := false) rfl hsp21 rfl ?_
        (try simp at hsp21)
        refine Z.lb 1 rfl ?_
        refine Z.yes (s := 21) (b := false) rfl rfl rfl ?_
        refine Z.le rfl (by exact ⟨rfl, trivial⟩) ?_
        refine Z.ZO.call rfl rfl (by rfl) rfl rfl Try.call27 rfl (ac_inside now 0 1073741823 _) ?_
        rintro v3_4 w3_4 ⟨rfl, hy⟩
        replace hs := hs.call hy
        clear hy
        try simp only [List.cons_append, List.nil_append, List.append_nil] at hs
        refine Z.lb 1 rfl ?_
        refine Z.yes (s := 21) (b := false) rfl rfl rfl ?_
        refine Z.l rfl rfl (by rfl) (Z.keepS hs) (Z.Yd.pickF rfl rfl) ?_
        refine Z.lb 1 rfl ?_
        refine Z.lnil ?_
        refine Z.only [0, 1, 3, 4, 5, 12, 18] rfl ?_
        refine Z.nthen ?_
        refine Z.cond rfl (fun hc3 => ?_) (fun hc3 => ?_)
        · first
            | (exfalso; simp at hc3 <;> omega)
            | (
              (try simp at hc3)
              rw [if_neg (by unfold okT; simp_all <;> omega)] at hx
              refine Z.seq ?_
              refine Z.region ?_
              refine Z.lb 3 rfl ?_
              refine Z.lnil ?_
              refine Z.only [12, 13] rfl ?_
              refine Z.nthen ?_
              refine Z.ret ?_
              repeat (first | refine Z.rthen ?_ | refine Z.rblock ?_ | refine Z.rscope ?_)
              -- ret#4
              refine Z.out2 (by exact ⟨rfl, rfl, trivial⟩) ?_
              cases hx
              exact ⟨_, rfl, rfl, hs⟩
              )
        · first
            | (exfalso; simp at hc3 <;> omega)
            | (
              (try simp at hc3)
              rw [if_pos (by unfold okT; simp_all <;> omega)] at hx
              have hok : okT now := by unfold okT; omega
              refine Z.seq ?_
              refine Z.region ?_
              refine Z.lb 3 rfl ?_
              refine Z.lnil ?_
              refine Z.only [0, 1, 3, 4, 5, 12, 27] rfl ?_
              refine Z.nthen ?_
              refine Z.cond rfl (fun hc5 => ?_) (fun hc5 => ?_)
              · first
                  | (exfalso; simp at hc5 <;> omega)
                  | (
                    (try simp at hc5)
                    rw [if_neg (by assumption)] at hx
                    refine Z.seq ?_
                    refine Z.region ?_
                    refine Z.lb 4 rfl ?_
                    refine Z.lnil ?_
                    refine Z.only [12, 13] rfl ?_
                    refine Z.nthen ?_
                    refine Z.ret ?_
                    repeat (first | refine Z.rthen ?_ | refine Z.rblock ?_ | refine Z.rscope ?_)
                    -- ret#5
                    refine Z.out2 (by exact ⟨rfl, rfl, trivial⟩) ?_
                    cases hx
                    exact ⟨_, rfl, rfl, hs⟩
                    )
              · first
                  | (exfalso; simp at hc5 <;> omega)
                  | (
                    (try simp at hc5)
                    rw [if_pos (by assumption)] at hx
                    refine Z.skip ?_
                    refine Z.nblock ?_
                    refine Z.nthen ?_
                    refine Z.seq ?_
                    refine Z.region ?_
                    replace hs : SX.St w M _ (SX.Ent.blk g T #[.int .u64 (m).id, .int .i64 (m).rnt, .int .i64 (m).win, .int .i64 (m).con, .int .i64 (m).max, .int .i64 (m).st, .int .i64 (m).now, .int .i64 (m).due, .int .i64 (m).frm, .int .i64 (m).pre, .int .i64 (m).att, .int .i64 (m).bnd, .int .i64 (m).rn] :: Cs) := hs
                    refine Z.l rfl rfl (by rfl) (Z.keepS hs) (Z.Yd.pure rfl) ?_
                    refine Z.lb 1 rfl ?_
                    refine Z.l rfl rfl (by rfl) (Z.keepS hs) (Z.Yd.nilc rfl rfl) ?_
                    refine Z.l rfl rfl (by rfl) (Z.keepS hs) (Z.Yd.fieldA (m := 6) rfl (by kernel_rfl)) ?_
                    refine Z.l rfl rfl (by rfl) (Z.keepS hs) (by first | exact Z.Yd.load rfl Try.isAgg3 (fun _ => Z.cellB (by first | ((repeat (first | exact List.mem_cons_self | refine List.mem_cons_of_mem _ ?_ | refine List.mem_append_right _ ?_)); done) | fail) rfl) | exact Z.Yd.load rfl Try.isAgg3 (fun _ => Z.cellO (by assumption) (by simp) (by assumption)) | fail "load 7.4") ?_
                    refine Z.lb 1 rfl ?_
                    refine Z.l rfl rfl (by rfl) (Z.keepS hs) (Z.Yd.max rfl rfl) ?_
                    refine Z.l rfl rfl (by rfl) (Z.keepS hs) (Z.Yd.nilc rfl rfl) ?_
                    refine Z.l rfl rfl (by rfl) (Z.keepS hs) (Z.Yd.fieldA (m := 6) rfl (by kernel_rfl)) ?_
                    refine Z.le rfl trivial ?_
                    first | refine Z.ZO.store rfl rfl hs Try.sizeOf3 rfl rfl rfl (by first | exact SX.at0 | exact SX.at1 | exact SX.at2 | exact SX.at3 | exact SX.at4 | exact SX.at5 | exact Z.at6 | exact Z.at7 | exact Z.at8 | exact Z.at9 | exact Z.at10 | exact Z.at11 | exact Z.at12) (by first | (simp; done) | (simp; omega)) ?_ | refine Z.ZO.storeR rfl rfl hs Try.sizeOf3 rfl rfl rfl (by first | exact SX.at0 | exact SX.at1 | exact SX.at2 | exact SX.at3 | exact SX.at4 | exact SX.at5 | exact Z.at6 | exact Z.at7 | exact Z.at8 | exact Z.at9 | exact Z.at10 | exact Z.at11 | exact Z.at12) (by first | omega | (simp [ints_length]; done) | (simp [ints_length]; omega)) ?_
                    clear hs; intro ws hs
                    simp only [Nat.zero_add, Nat.add_zero, Nat.reduceAdd, Int.reduceToNat, Nat.reduceMul, List.set_cons_zero, List.set_cons_succ, List.setIfInBounds_toArray] at hs
                    refine Z.lnil ?_
                    refine Z.only [0, 4, 5, 12] rfl ?_
                    refine Z.nthen ?_
                    refine Z.seq ?_
                    refine Z.seq ?_
                    refine Z.drawK (fun _ => true) mixed hs ?_
                    clear hs; intro wd8 hs
                    refine Z.tb [0] (by kernel_rfl) rfl ⟨_, hs, by first | (simp; done) | exact fun e he => List.mem_append_right _ he⟩ rfl ?_
                    refine Z.t 1 rfl rfl rfl (by rfl) (by kernel_rfl) ⟨_, hs, by first | (simp; done) | exact fun e he => List.mem_append_right _ he⟩ (Z.Yd.nilc rfl rfl) ?_
                    refine Z.t 2 rfl rfl rfl (by rfl) (by kernel_rfl) ⟨_, hs, by first | (simp; done) | exact fun e he => List.mem_append_right _ he⟩ (Z.Yd.fieldA (m := 5) rfl (by kernel_rfl)) ?_
                    refine Z.t 3 rfl rfl rfl (by rfl) (by kernel_rfl) ⟨_, hs, by first | (simp; done) | exact fun e he => List.mem_append_right _ he⟩ (by first | exact Z.Yd.load rfl Try.isAgg44 (fun _ => Z.cellB (by first | ((repeat (first | exact List.mem_cons_self | refine List.mem_cons_of_mem _ ?_ | refine List.mem_append_right _ ?_)); done) | fail) rfl) | exact Z.Yd.load rfl Try.isAgg44 (fun _ => Z.cellO (by assumption) (by simp) (by assumption)) | fail "load 8.3") ?_
                    refine Z.tb [4, 5, 6] (by kernel_rfl) rfl ⟨_, hs, by first | (simp; done) | exact fun e he => List.mem_append_right _ he⟩ rfl ?_
                    refine Z.t 7 rfl rfl rfl (by rfl) (by kernel_rfl) ⟨_, hs, by first | (simp; done) | exact fun e he => List.mem_append_right _ he⟩ (Z.Yd.nilc rfl rfl) ?_
                    refine Z.t 8 rfl rfl rfl (by rfl) (by kernel_rfl) ⟨_, hs, by first | (simp; done) | exact fun e he => List.mem_append_right _ he⟩ (Z.Yd.fieldA (m := 5) rfl (by kernel_rfl)) ?_
                    refine Z.t 9 rfl rfl rfl (by rfl) (by kernel_rfl) ⟨_, hs, by first | (simp; done) | exact fun e he => List.mem_append_right _ he⟩ (by first | exact Z.Yd.load rfl Try.isAgg44 (fun _ => Z.cellB (by first | ((repeat (first | exact List.mem_cons_self | refine List.mem_cons_of_mem _ ?_ | refine List.mem_append_right _ ?_)); done) | fail) rfl) | exact Z.Yd.load rfl Try.isAgg44 (fun _ => Z.cellO (by assumption) (by simp) (by assumption)) | fail "load 8.9") ?_
                    refine Z.tb [10, 11, 12, 13] (by kernel_rfl) rfl ⟨_, hs, by first | (simp; done) | exact fun e he => List.mem_append_right _ he⟩ rfl ?_
                    refine Z.t 14 rfl rfl rfl (by rfl) (by kernel_rfl) ⟨_, hs, by first | (simp; done) | exact fun e he => List.mem_append_right _ he⟩ (Z.Yd.nilc rfl rfl) ?_
                    refine Z.t 15 rfl rfl rfl (by rfl) (by kernel_rfl) ⟨_, hs, by first | (simp; done) | exact fun e he => List.mem_append_right _ he⟩ (Z.Yd.fieldA (m := 6) rfl (by kernel_rfl)) ?_
                    refine Z.t 16 rfl rfl rfl (by rfl) (by kernel_rfl) ⟨_, hs, by first | (simp; done) | exact fun e he => List.mem_append_right _ he⟩ (by first | exact Z.Yd.load rfl Try.isAgg3 (fun _ => Z.cellB (by first | ((repeat (first | exact List.mem_cons_self | refine List.mem_cons_of_mem _ ?_ | refine List.mem_append_right _ ?_)); done) | fail) rfl) | exact Z.Yd.load rfl Try.isAgg3 (fun _ => Z.cellO (by assumption) (by simp) (by assumption)) | fail "load 8.16") ?_
                    refine Z.tb [17] (by kernel_rfl) rfl ⟨_, hs, by first | (simp; done) | exact fun e he => List.mem_append_right _ he⟩ rfl ?_
                    refine Z.t 18 rfl rfl rfl (by rfl) (by kernel_rfl) ⟨_, hs, by first | (simp; done) | exact fun e he => List.mem_append_right _ he⟩ (Z.Yd.nilc rfl rfl) ?_
                    refine Z.t 19 rfl rfl rfl (by rfl) (by kernel_rfl) ⟨_, hs, by first | (simp; done) | exact fun e he => List.mem_append_right _ he⟩ (Z.Yd.fieldA (m := 7) rfl (by kernel_rfl)) ?_
                    refine Z.t 20 rfl rfl rfl (by rfl) (by kernel_rfl) ⟨_, hs, by first | (simp; done) | exact fun e he => List.mem_append_right _ he⟩ (by first | exact Z.Yd.load rfl Try.isAgg3 (fun _ => Z.cellB (by first | ((repeat (first | exact List.mem_cons_self | refine List.mem_cons_of_mem _ ?_ | refine List.mem_append_right _ ?_)); done) | fail) rfl) | exact Z.Yd.load rfl Try.isAgg3 (fun _ => Z.cellO (by assumption) (by simp) (by assumption)) | fail "load 8.20") ?_
                    refine Z.tb [21, 22] (by kernel_rfl) rfl ⟨_, hs, by first | (simp; done) | exact fun e he => List.mem_append_right _ he⟩ rfl ?_
                    refine Z.td (by rfl) (by kernel_rfl) ?_
                    refine Z.only [0, 4, 5, 12, 63] rfl ?_
                    refine Z.nthen ?_
                    refine Z.cutt (ι := Nat) [0, 4, 5, 12] rfl (fun _ => []) (fun _ wr => SX.St w M wr (SX.Ent.blk g T (tickV m now).cells.toArray :: Cs)) ?_ ?_
                    · skip
                      refine Z.cond rfl (fun hc8 => ?_) (fun hc8 => ?_)
                      · first
                          | (exfalso; simp at hc8 <;> omega)
                          | (
                            (try simp at hc8)
                            have eT : tickV m now = failV { m with now := max m.now now } := if_pos (show waits m now by unfold waits; omega)
                            refine Z.region ?_
                            refine Z.lb 1 rfl ?_
                            refine Z.le rfl trivial ?_
                            refine Z.ZO.call rfl rfl (by rfl) rfl rfl Try.call35 rfl (ac_fail g T { m with now := max m.now now } _ (hs.lend (L1 := [_])) (hms hok)) ?_
                            rintro v9_1 w9_1 ⟨rfl, hz⟩
                            replace hs := hs.regain (L1 := [_]) hz
                            refine Z.lnil ?_
                            refine Z.only [0, 4, 5, 12] rfl ?_
                            refine Z.nthen ?_
                            first | exact Z.meet 0 (by refine ⟨?_, ?_, ?_, ?_, trivial⟩ <;> (first | rfl | (refine Z.lookv rfl ?_; simp; done) | (refine Z.lookv rfl ?_; simp; omega))) (by rw [eT]; exact hs)
                            )
                      · first
                          | (exfalso; simp at hc8 <;> omega)
                          | (
                            (try simp at hc8)
                            have eT : tickV m now = { m with now := max m.now now } := if_neg (show ¬ waits m now by unfold waits; intro h; have := hc8 h.1; omega)
                            refine Z.skip ?_
                            refine Z.nthen ?_
                            first | exact Z.meet 0 (by refine ⟨?_, ?_, ?_, ?_, trivial⟩ <;> (first | rfl | (refine Z.lookv rfl ?_; simp; done) | (refine Z.lookv rfl ?_; simp; omega))) (by rw [eT]; exact hs)
                            )
                    · clear hs
                      rintro _ w8 hs
                      refine Z.only [0, 4, 5, 12] rfl ?_
                      refine Z.seq ?_
                      refine Z.seq ?_
                      refine Z.region ?_
                      refine Z.lb 2 rfl ?_
                      refine Z.l rfl rfl (by rfl) (Z.keepS hs) (Z.Yd.nilc rfl rfl) ?_
                      refine Z.l rfl rfl (by rfl) (Z.keepS hs) (Z.Yd.fieldA (m := 5) rfl (by kernel_rfl)) ?_
                      refine Z.l rfl rfl (by rfl) (Z.keepS hs) (by first | exact Z.Yd.load rfl Try.isAgg44 (fun _ => Z.cellB (by first | ((repeat (first | exact List.mem_cons_self | refine List.mem_cons_of_mem _ ?_ | refine List.mem_append_right _ ?_)); done) | fail) rfl) | exact Z.Yd.load rfl Try.isAgg44 (fun _ => Z.cellO (by assumption) (by simp) (by assumption)) | fail "load 10.4") ?_
                      refine Z.le rfl trivial ?_
                      refine Z.ZO.call rfl rfl (by rfl) rfl rfl Try.call49 rfl (ac_contains A n c sts _ _ (hA.st hs) hl hn) ?_
                      rintro v10_5 w10_5 ⟨rfl, hy⟩
                      replace hs := hs.call hy
                      clear hy
                      try simp only [List.cons_append, List.nil_append, List.append_nil] at hs
                      refine Z.lb 1 rfl ?_
                      refine Z.lnil ?_
                      refine Z.only [4, 12, 72] rfl ?_
                      refine Z.nthen ?_
                      refine Z.cond rfl (fun hc10 => ?_) (fun hc10 => ?_)
                      · first
                          | (exfalso; simp at hc10 <;> omega)
                          | (
                            (try simp at hc10)
                            rw [if_neg (by simp_all)] at hx
                            refine Z.seq ?_
                            refine Z.region ?_
                            refine Z.lb 3 rfl ?_
                            refine Z.lnil ?_
                            refine Z.only [12, 13] rfl ?_
                            refine Z.nthen ?_
                            refine Z.ret ?_
                            repeat (first | refine Z.rthen ?_ | refine Z.rblock ?_ | refine Z.rscope ?_)
                            -- ret#6
                            refine Z.out2 (by exact ⟨rfl, rfl, trivial⟩) ?_
                            cases hx
                            exact ⟨_, rfl, rfl, hs⟩
                            )
                      · first
                          | (exfalso; simp at hc10 <;> omega)
                          | (
                            (try simp at hc10)
                            rw [if_pos (by simp_all)] at hx
                            refine Z.skip ?_
                            refine Z.nthen ?_
                            refine Z.seq ?_
                            refine Z.region ?_
                            refine Z.lb 1 rfl ?_
                            refine Z.le rfl trivial ?_
                            refine Z.ZO.call rfl rfl (by rfl) rfl rfl hk (by first | rfl | simp) (hstep (by simp_all) hok (by assumption) (by simp_all) _ hs) ?_
                            rintro v12_1 w12_1 ⟨rfl, hz⟩
                            replace hs := hs.regainAll (by rw [show SX.idsOf (SX.Ent.blk g T (tickV m now).cells.toArray :: Cs) = M from hM]; exact hz)
                            refine Z.lb 4 rfl ?_
                            refine Z.lnil ?_
                            refine Z.only [12, 13] rfl ?_
                            refine Z.nthen ?_
                            refine Z.ret ?_
                            -- ret#7
                            refine Z.out2 (by exact ⟨rfl, rfl, trivial⟩) ?_
                            cases hx
                            exact ⟨_, rfl, rfl, hs⟩
                            )
                    )
              )
        )
end Go.Proofs.Ytjgfooakcljddaa

/- Random access of a handset: Start, Send, Answer, Tick. -/
namespace Go.Proofs.Ytjgfooakcljddaa
open Go.RowKit
set_option linter.unusedSimpArgs false
set_option linter.unusedVariables false
--newlaws

theorem ac_start1 (g T g2 T2 : Nat) (m : AcV) (w : World) (hs : SX.St w (SX.idsOf [SX.Ent.blk g T m.cells.toArray, SX.Ent.blk g2 T2 #[.pointer (some ⟨g, 0, none⟩)]]) w [SX.Ent.blk g T m.cells.toArray, SX.Ent.blk g2 T2 #[.pointer (some ⟨g, 0, none⟩)]]) :
    Calls Try.prog 30 #[.pointer (some ⟨g2, 0, none⟩)] w (SX.Ret fun v w' => v = .tuple #[.bool true, .int .i64 0] ∧ SX.St w (SX.idsOf [SX.Ent.blk g T m.cells.toArray, SX.Ent.blk g2 T2 #[.pointer (some ⟨g, 0, none⟩)]]) w' [SX.Ent.blk g T ({ m with st := 1, due := m.now, att := 0, bnd := 0 } : AcV).cells.toArray, SX.Ent.blk g2 T2 #[.pointer (some ⟨g, 0, none⟩)]]) := by
  generalize hM : SX.idsOf [SX.Ent.blk g T m.cells.toArray, SX.Ent.blk g2 T2 #[.pointer (some ⟨g, 0, none⟩)]] = M at *
  replace hs : SX.St w M w [SX.Ent.blk g T #[.int .u64 (m).id, .int .i64 (m).rnt, .int .i64 (m).win, .int .i64 (m).con, .int .i64 (m).max, .int .i64 (m).st, .int .i64 (m).now, .int .i64 (m).due, .int .i64 (m).frm, .int .i64 (m).pre, .int .i64 (m).att, .int .i64 (m).bnd, .int .i64 (m).rn], SX.Ent.blk g2 T2 #[.pointer (some ⟨g, 0, none⟩)]] := hs
  refine Z.enter Try.func30 rfl Try.ntmps30 rfl rfl ?_
  refine Z.seq ?_
  refine Z.region ?_
  refine Z.lb 2 rfl ?_
  refine Z.lnil ?_
  refine Z.only [0] rfl ?_
  refine Z.nthen ?_
  refine Z.seq ?_
  refine Z.drawL [SX.Ent.blk g2 T2 #[.pointer (some ⟨g, 0, none⟩)]] (fun j => j != 7) mixed hs ?_
  clear hs; intro wd1 hs
  refine Z.t 0 rfl rfl rfl (by rfl) (by kernel_rfl) ⟨_, hs, by first | (simp; done) | exact fun e he => List.mem_append_right _ he⟩ (by first | exact Z.Yd.load rfl Try.isAgg25 (fun _ => Z.cellB (by first | ((repeat (first | exact List.mem_cons_self | refine List.mem_cons_of_mem _ ?_ | refine List.mem_append_right _ ?_)); done) | fail) rfl) | exact Z.Yd.load rfl Try.isAgg25 (fun _ => Z.cellO (by assumption) (by simp) (by assumption)) | fail "load 1.0") ?_
  refine Z.t 1 rfl rfl rfl (by rfl) (by kernel_rfl) ⟨_, hs, by first | (simp; done) | exact fun e he => List.mem_append_right _ he⟩ (by first | exact Z.Yd.load rfl Try.isAgg25 (fun _ => Z.cellB (by first | ((repeat (first | exact List.mem_cons_self | refine List.mem_cons_of_mem _ ?_ | refine List.mem_append_right _ ?_)); done) | fail) rfl) | exact Z.Yd.load rfl Try.isAgg25 (fun _ => Z.cellO (by assumption) (by simp) (by assumption)) | fail "load 1.1") ?_
  refine Z.t 2 rfl rfl rfl (by rfl) (by kernel_rfl) ⟨_, hs, by first | (simp; done) | exact fun e he => List.mem_append_right _ he⟩ (Z.Yd.nilc rfl rfl) ?_
  refine Z.t 3 rfl rfl rfl (by rfl) (by kernel_rfl) ⟨_, hs, by first | (simp; done) | exact fun e he => List.mem_append_right _ he⟩ (Z.Yd.fieldA (m := 10) rfl (by kernel_rfl)) ?_
  refine Z.tn 4 rfl rfl (by kernel_rfl) rfl trivial ?_
  first | refine Z.ZO.store rfl rfl hs Try.sizeOf3 rfl rfl rfl (by first | exact SX.at0 | exact SX.at1 | exact SX.at2 | exact SX.at3 | exact SX.at4 | exact SX.at5 | exact Z.at6 | exact Z.at7 | exact Z.at8 | exact Z.at9 | exact Z.at10 | exact Z.at11 | exact Z.at12) (by first | (simp; done) | (simp; omega)) ?_ | refine Z.ZO.storeR rfl rfl hs Try.sizeOf3 rfl rfl rfl (by first | exact SX.at0 | exact SX.at1 | exact SX.at2 | exact SX.at3 | exact SX.at4 | exact SX.at5 | exact Z.at6 | exact Z.at7 | exact Z.at8 | exact Z.at9 | exact Z.at10 | exact Z.at11 | exact Z.at12) (by first | omega | (simp [ints_length]; done) | (simp [ints_length]; omega)) ?_
  clear hs; intro ws hs
  simp only [Nat.zero_add, Nat.add_zero, Nat.reduceAdd, Int.reduceToNat, Nat.reduceMul, List.set_cons_zero, List.set_cons_succ, List.setIfInBounds_toArray] at hs
  refine Z.tk (Dn := fun j => j != 7) (i := 4) (fun _ => ⟨_, hs, by first | (simp; done) | exact fun e he => List.mem_append_right _ he⟩) ?_
  refine Z.tn 5 rfl rfl (by kernel_rfl) rfl trivial ?_
  refine Z.ZO.quiet rfl (by rfl) (Z.keepS hs) (Z.Yd.nilc rfl rfl) ?_
  refine Z.tk (Dn := fun j => j != 7) (i := 5) (fun _ => ⟨_, hs, by first | (simp; done) | exact fun e he => List.mem_append_right _ he⟩) ?_
  refine Z.t 6 rfl rfl rfl (by rfl) (by kernel_rfl) ⟨_, hs, by first | (simp; done) | exact fun e he => List.mem_append_right _ he⟩ (Z.Yd.fieldA (m := 11) rfl (by kernel_rfl)) ?_
  refine Z.tn 7 rfl rfl (by kernel_rfl) rfl trivial ?_
  first | refine Z.ZO.store rfl rfl hs Try.sizeOf3 rfl rfl rfl (by first | exact SX.at0 | exact SX.at1 | exact SX.at2 | exact SX.at3 | exact SX.at4 | exact SX.at5 | exact Z.at6 | exact Z.at7 | exact Z.at8 | exact Z.at9 | exact Z.at10 | exact Z.at11 | exact Z.at12) (by first | (simp; done) | (simp; omega)) ?_ | refine Z.ZO.storeR rfl rfl hs Try.sizeOf3 rfl rfl rfl (by first | exact SX.at0 | exact SX.at1 | exact SX.at2 | exact SX.at3 | exact SX.at4 | exact SX.at5 | exact Z.at6 | exact Z.at7 | exact Z.at8 | exact Z.at9 | exact Z.at10 | exact Z.at11 | exact Z.at12) (by first | omega | (simp [ints_length]; done) | (simp [ints_length]; omega)) ?_
  clear hs; intro ws hs
  simp only [Nat.zero_add, Nat.add_zero, Nat.reduceAdd, Int.reduceToNat, Nat.reduceMul, List.set_cons_zero, List.set_cons_succ, List.setIfInBounds_toArray] at hs
  refine Z.tk (Dn := fun j => j != 7) (i := 7) (fun h => absurd h (by decide)) ?_
  refine Z.td (by rfl) (by kernel_rfl) ?_
  refine Z.only [0] rfl ?_
  refine Z.nthen ?_
  refine Z.seq ?_
  refine Z.drawK (fun j => j != 5) mixed hs ?_
  clear hs; intro wd2 hs
  refine Z.t 0 rfl rfl rfl (by rfl) (by kernel_rfl) ⟨_, hs, by first | (simp; done) | exact fun e he => List.mem_append_right _ he⟩ (by first | exact Z.Yd.load rfl Try.isAgg25 (fun _ => Z.cellB (by first | ((repeat (first | exact List.mem_cons_self | refine List.mem_cons_of_mem _ ?_ | refine List.mem_append_right _ ?_)); done) | fail) rfl) | exact Z.Yd.load rfl Try.isAgg25 (fun _ => Z.cellO (by assumption) (by simp) (by assumption)) | fail "load 2.0") ?_
  refine Z.tn 1 rfl rfl (by kernel_rfl) rfl trivial ?_
  refine Z.ZO.quiet rfl (by rfl) (Z.keepS hs) (by first | exact Z.Yd.load rfl Try.isAgg25 (fun _ => Z.cellB (by first | ((repeat (first | exact List.mem_cons_self | refine List.mem_cons_of_mem _ ?_ | refine List.mem_append_right _ ?_)); done) | fail) rfl) | exact Z.Yd.load rfl Try.isAgg25 (fun _ => Z.cellO (by assumption) (by simp) (by assumption)) | fail "load 2.1") ?_
  refine Z.tk (Dn := fun j => j != 5) (i := 1) (fun _ => ⟨_, hs, by first | (simp; done) | exact fun e he => List.mem_append_right _ he⟩) ?_
  refine Z.tn 2 rfl rfl (by kernel_rfl) rfl trivial ?_
  refine Z.ZO.quiet rfl (by rfl) (Z.keepS hs) (Z.Yd.nilc rfl rfl) ?_
  refine Z.tk (Dn := fun j => j != 5) (i := 2) (fun _ => ⟨_, hs, by first | (simp; done) | exact fun e he => List.mem_append_right _ he⟩) ?_
  refine Z.tn 3 rfl rfl (by kernel_rfl) rfl trivial ?_
  refine Z.ZO.quiet rfl (by rfl) (Z.keepS hs) (Z.Yd.fieldA (m := 6) rfl (by kernel_rfl)) ?_
  refine Z.tk (Dn := fun j => j != 5) (i := 3) (fun _ => ⟨_, hs, by first | (simp; done) | exact fun e he => List.mem_append_right _ he⟩) ?_
  refine Z.t 4 rfl rfl rfl (by rfl) (by kernel_rfl) ⟨_, hs, by first | (simp; done) | exact fun e he => List.mem_append_right _ he⟩ (by first | exact Z.Yd.load rfl Try.isAgg3 (fun _ => Z.cellB (by first | ((repeat (first | exact List.mem_cons_self | refine List.mem_cons_of_mem _ ?_ | refine List.mem_append_right _ ?_)); done) | fail) rfl) | exact Z.Yd.load rfl Try.isAgg3 (fun _ => Z.cellO (by assumption) (by simp) (by assumption)) | fail "load 2.4") ?_
  refine Z.tn 5 rfl rfl (by kernel_rfl) rfl trivial ?_
  refine Z.ZO.call rfl rfl (by rfl) rfl rfl Try.call31 rfl (ac_enter g T { m with att := 0, bnd := 0 } 1 m.now _ (hs.lend (L1 := [_]))) ?_
  rintro v2_5 w2_5 ⟨rfl, hz⟩
  replace hs := hs.regain (L1 := [_]) hz
  refine Z.tk (Dn := fun j => j != 5) (i := 5) (fun h => absurd h (by decide)) ?_
  refine Z.td (by rfl) (by kernel_rfl) ?_
  refine Z.only [] rfl ?_
  refine Z.nthen ?_
  refine Z.seq ?_
  refine Z.region ?_
  refine Z.lb 2 rfl ?_
  refine Z.lnil ?_
  refine Z.only [1, 2] rfl ?_
  refine Z.nthen ?_
  refine Z.ret ?_
  -- ret#0
  refine Z.out2 (by exact ⟨rfl, rfl, trivial⟩) ?_
  exact ⟨_, rfl, rfl, hs⟩
theorem ac_start (g T : Nat) (m : AcV) (t : Int) (w : World) (hs : SX.St w (SX.idsOf [SX.Ent.blk g T m.cells.toArray]) w [SX.Ent.blk g T m.cells.toArray]) (hm : m.ok) :
    Calls Try.prog 11 #[.pointer (some ⟨g, 0, none⟩), .int .i64 t] w (SX.Ret fun v w' => v = .int .i64 (startV m t).2 ∧ SX.St w (SX.idsOf [SX.Ent.blk g T m.cells.toArray]) w' [SX.Ent.blk g T (startV m t).1.cells.toArray]) := by
  generalize hM : SX.idsOf [SX.Ent.blk g T m.cells.toArray] = M at *
  obtain ⟨X, hX⟩ : ∃ X : Value × Int × AcV, X = if true = true ∧ okT t then (if (0 : Int) = 0 then (if (tickV m t).st ∈ [0, 4, 5] then (.bool true, 0, { tickV m t with st := 1, due := (tickV m t).now, att := 0, bnd := 0 }) else (.bool false, 8, tickV m t)) else (.bool false, 0, m)) else (.bool false, 2, m) := ⟨_, rfl⟩
  have hE : X.2.1 = (startV m t).2 ∧ X.2.2 = (startV m t).1 := by
    rw [hX]
    unfold startV
    by_cases h1 : okT t
    · by_cases h2 : (tickV m t).st = 0 ∨ (tickV m t).st = 4 ∨ (tickV m t).st = 5
      · simp [h1, h2]
      · simp [h1, h2]
    · simp [h1]
  refine Z.enter Try.func11 rfl Try.ntmps11 rfl rfl ?_
  refine Z.seq ?_
  refine Z.region ?_
  refine Z.le rfl trivial ?_
  refine Z.ZO.box rfl rfl (by rfl) rfl rfl hs ?_
  clear hs; intro g2 w2 hs
  refine Z.lb 1 rfl ?_
  refine Z.lnil ?_
  refine Z.only [1, 2] rfl ?_
  refine Z.nthen ?_
  refine Z.seq ?_
  refine Z.region ?_
  refine Z.l rfl rfl (by rfl) (Z.keepS hs) (by first | exact Z.Yd.load rfl Try.isAgg25 (fun _ => Z.cellB (by first | ((repeat (first | exact List.mem_cons_self | refine List.mem_cons_of_mem _ ?_ | refine List.mem_append_right _ ?_)); done) | fail) rfl) | exact Z.Yd.load rfl Try.isAgg25 (fun _ => Z.cellO (by assumption) (by simp) (by assumption)) | fail "load 1.0") ?_
  refine Z.lb 2 rfl ?_
  refine Z.le rfl trivial ?_
  refine Z.ZO.litL (T' := 44) [(0, 1), (1, 1), (2, 1)] [.int .i64 0, .int .i64 0, .int .i64 0] rfl rfl (by rfl) rfl rfl (by intro W; kernel_rfl) hs ?_
  clear hs; intro g11 w11 hs
  replace hs : SX.St w M _ ([SX.Ent.blk g T m.cells.toArray, SX.Ent.blk g2 _ _] ++ [_]) := hs.sel [2, 1, 0] (by decide)
  refine Z.le rfl trivial ?_
  refine Z.ZO.call rfl rfl (by rfl) rfl rfl Try.call29 rfl (ac_timedB g T [SX.Ent.blk g2 _ _] m t true 0 30 _ _ _ _ [0, 4, 5] _ hs.lend hm (by have h0 := Z.blk_lentj hs (j := 0) rfl; exact h0) rfl (by decide) Try.call30 _ _ _ (fun _ _ _ _ W hW ↦ ac_start1 g T g2 _ (tickV m t) W hW.all) X.1 X.2.1 X.2.2 hX) ?_
  rintro v1_4 w1_4 ⟨rfl, hz⟩
  replace hs := hs.regain hz
  rw [hE.2] at hs
  rw [hE.1]
  refine Z.lb 5 rfl ?_
  refine Z.lnil ?_
  refine Z.only [6] rfl ?_
  refine Z.nthen ?_
  refine Z.seq ?_
  refine Z.region ?_
  refine Z.lb 2 rfl ?_
  refine Z.lnil ?_
  refine Z.only [4] rfl ?_
  refine Z.nthen ?_
  refine Z.ret ?_
  -- ret#0
  refine Z.out1 (by exact ⟨rfl, trivial⟩) ?_
  exact ⟨_, rfl, rfl, hs.sel [0] (by decide)⟩
theorem ac_tick1 (w : World) : Calls Try.prog 48 #[] w (SX.Ret fun v w' => v = .tuple #[.bool true, .int .i64 0] ∧ SX.St w [] w' []) := by
  have hs := SX.St.start w
  refine Z.enter Try.func48 rfl Try.ntmps48 rfl rfl ?_
  refine Z.seq ?_
  refine Z.region ?_
  refine Z.lb 2 rfl ?_
  refine Z.lnil ?_
  refine Z.only [] rfl ?_
  refine Z.nthen ?_
  refine Z.seq ?_
  refine Z.region ?_
  refine Z.lb 2 rfl ?_
  refine Z.lnil ?_
  refine Z.only [0, 1] rfl ?_
  refine Z.nthen ?_
  refine Z.ret ?_
  -- ret#0
  refine Z.out2 (by exact ⟨rfl, rfl, trivial⟩) ?_
  first | exact ⟨_, rfl, rfl, hs⟩ | exact ⟨_, rfl, rfl, hs.sub (List.nil_sublist _)⟩
theorem ac_tick (g T : Nat) (m : AcV) (t : Int) (w : World) (hs : SX.St w (SX.idsOf [SX.Ent.blk g T m.cells.toArray]) w [SX.Ent.blk g T m.cells.toArray]) (hm : m.ok) :
    Calls Try.prog 24 #[.pointer (some ⟨g, 0, none⟩), .int .i64 t] w (SX.Ret fun v w' => v = .int .i64 (if okT t then 0 else 2) ∧ SX.St w (SX.idsOf [SX.Ent.blk g T m.cells.toArray]) w' [SX.Ent.blk g T (if okT t then tickV m t else m).cells.toArray]) := by
  generalize hM : SX.idsOf [SX.Ent.blk g T m.cells.toArray] = M at *
  obtain ⟨X, hX⟩ : ∃ X : Value × Int × AcV, X = if true = true ∧ okT t then (if (0 : Int) = 0 then (if (tickV m t).st ∈ [0, 1, 2, 3, 4, 5] then (.bool true, 0, tickV m t) else (.bool false, 8, tickV m t)) else (.bool false, 0, m)) else (.bool false, 2, m) := ⟨_, rfl⟩
  have hE : X.2.1 = (if okT t then 0 else 2) ∧ X.2.2 = (if okT t then tickV m t else m) := by
    rw [hX]
    by_cases h1 : okT t
    · have h2 : (tickV m t).st ∈ ([0, 1, 2, 3, 4, 5] : List Int) := by
        have := (hm.tick h1).st
        simp
        omega
      rw [if_pos ⟨rfl, h1⟩, if_pos rfl, if_pos h2, if_pos h1, if_pos h1]
      exact ⟨rfl, rfl⟩
    · rw [if_neg (fun h => h1 h.2), if_neg h1, if_neg h1]
      exact ⟨rfl, rfl⟩
  refine Z.enter Try.func24 rfl Try.ntmps24 rfl rfl ?_
  refine Z.seq ?_
  refine Z.region ?_
  refine Z.lb 1 rfl ?_
  refine Z.lnil ?_
  refine Z.only [0, 1] rfl ?_
  refine Z.nthen ?_
  refine Z.seq ?_
  refine Z.region ?_
  refine Z.lb 2 rfl ?_
  refine Z.le rfl trivial ?_
  refine Z.ZO.litL (T' := 44) [(0, 1), (1, 1), (2, 1), (3, 1), (4, 1), (5, 1)] [.int .i64 0, .int .i64 0, .int .i64 0, .int .i64 0, .int .i64 0, .int .i64 0] rfl rfl (by rfl) rfl rfl (by intro W; kernel_rfl) hs ?_
  clear hs; intro g10 w10 hs
  replace hs : SX.St w M _ ([SX.Ent.blk g T m.cells.toArray] ++ [_]) := hs.sel [1, 0] (by decide)
  refine Z.le rfl trivial ?_
  refine Z.ZO.call rfl rfl (by rfl) rfl rfl Try.call29 rfl (ac_timedB g T [] m t true 0 48 _ _ _ _ [0, 1, 2, 3, 4, 5] _ hs.lend hm (by have h0 := Z.blk_lentj hs (j := 0) rfl; exact h0) rfl (by decide) Try.call48 _ _ _ (fun _ _ _ _ W hW ↦ (ac_tick1 W).mono (by rintro e W' ⟨v, rfl, rfl, hy⟩; exact ⟨_, rfl, rfl, by have h1 := hW.all.call hy; exact h1⟩)) X.1 X.2.1 X.2.2 hX) ?_
  rintro v1_3 w1_3 ⟨rfl, hz⟩
  replace hs := hs.regain hz
  rw [hE.2] at hs
  rw [hE.1]
  refine Z.lb 5 rfl ?_
  refine Z.lnil ?_
  refine Z.only [6] rfl ?_
  refine Z.nthen ?_
  refine Z.seq ?_
  refine Z.region ?_
  refine Z.lb 2 rfl ?_
  refine Z.lnil ?_
  refine Z.only [4] rfl ?_
  refine Z.nthen ?_
  refine Z.ret ?_
  -- ret#0
  refine Z.out1 (by exact ⟨rfl, trivial⟩) ?_
  exact ⟨_, rfl, rfl, hs.sel [0] (by decide)⟩
def sendS (m : AcV) (d : Int) : Int × Int × AcV := if m.now < m.due then (0, 10, m) else (d % 64, 0, { m with pre := d % 64, frm := m.now + 3, att := m.att + 1, st := 2, due := m.now + 3 + m.win })
theorem ac_send1 (g T g2 T2 g3 T3 : Nat) (m : AcV) (d : Int) (w : World) (hs : SX.St w (SX.idsOf [SX.Ent.blk g T m.cells.toArray, SX.Ent.blk g2 T2 #[.pointer (some ⟨g, 0, none⟩)], SX.Ent.blk g3 T3 #[.int .i64 d]]) w [SX.Ent.blk g T m.cells.toArray, SX.Ent.blk g2 T2 #[.pointer (some ⟨g, 0, none⟩)], SX.Ent.blk g3 T3 #[.int .i64 d]]) (hm : m.ok) (hd : 0 ≤ d) :
    Calls Try.prog 33 #[.pointer (some ⟨g2, 0, none⟩), .pointer (some ⟨g3, 0, none⟩)] w (SX.Ret fun v w' => v = .tuple #[.int .i64 (sendS m d).1, .int .i64 (sendS m d).2.1] ∧ SX.St w (SX.idsOf [SX.Ent.blk g T m.cells.toArray, SX.Ent.blk g2 T2 #[.pointer (some ⟨g, 0, none⟩)], SX.Ent.blk g3 T3 #[.int .i64 d]]) w' [SX.Ent.blk g T (sendS m d).2.2.cells.toArray, SX.Ent.blk g2 T2 #[.pointer (some ⟨g, 0, none⟩)], SX.Ent.blk g3 T3 #[.int .i64 d]]) := by
  generalize hM : SX.idsOf [SX.Ent.blk g T m.cells.toArray, SX.Ent.blk g2 T2 #[.pointer (some ⟨g, 0, none⟩)], SX.Ent.blk g3 T3 #[.int .i64 d]] = M at *
  obtain ⟨h1, h2, h3, h4, h5, h6, h7, h8, h9, h10⟩ := hm
  have h11 := h1.2.2.1
  have h12 := h1.2.2.2.2
  replace hs : SX.St w M w [SX.Ent.blk g T #[.int .u64 (m).id, .int .i64 (m).rnt, .int .i64 (m).win, .int .i64 (m).con, .int .i64 (m).max, .int .i64 (m).st, .int .i64 (m).now, .int .i64 (m).due, .int .i64 (m).frm, .int .i64 (m).pre, .int .i64 (m).att, .int .i64 (m).bnd, .int .i64 (m).rn], SX.Ent.blk g2 T2 #[.pointer (some ⟨g, 0, none⟩)], SX.Ent.blk g3 T3 #[.int .i64 d]] := hs
  refine Z.enter Try.func33 rfl Try.ntmps33 rfl rfl ?_
  refine Z.seq ?_
  refine Z.region ?_
  refine Z.lb 2 rfl ?_
  refine Z.lnil ?_
  refine Z.only [0, 1] rfl ?_
  refine Z.nthen ?_
  refine Z.seq ?_
  refine Z.seq ?_
  refine Z.drawK (fun _ => true) mixed hs ?_
  clear hs; intro wd1 hs
  refine Z.t 0 rfl rfl rfl (by rfl) (by kernel_rfl) ⟨_, hs, by first | (simp; done) | exact fun e he => List.mem_append_right _ he⟩ (by first | exact Z.Yd.load rfl Try.isAgg25 (fun _ => Z.cellB (by first | ((repeat (first | exact List.mem_cons_self | refine List.mem_cons_of_mem _ ?_ | refine List.mem_append_right _ ?_)); done) | fail) rfl) | exact Z.Yd.load rfl Try.isAgg25 (fun _ => Z.cellO (by assumption) (by simp) (by assumption)) | fail "load 1.0") ?_
  refine Z.t 1 rfl rfl rfl (by rfl) (by kernel_rfl) ⟨_, hs, by first | (simp; done) | exact fun e he => List.mem_append_right _ he⟩ (Z.Yd.nilc rfl rfl) ?_
  refine Z.t 2 rfl rfl rfl (by rfl) (by kernel_rfl) ⟨_, hs, by first | (simp; done) | exact fun e he => List.mem_append_right _ he⟩ (Z.Yd.fieldA (m := 6) rfl (by kernel_rfl)) ?_
  refine Z.t 3 rfl rfl rfl (by rfl) (by kernel_rfl) ⟨_, hs, by first | (simp; done) | exact fun e he => List.mem_append_right _ he⟩ (by first | exact Z.Yd.load rfl Try.isAgg3 (fun _ => Z.cellB (by first | ((repeat (first | exact List.mem_cons_self | refine List.mem_cons_of_mem _ ?_ | refine List.mem_append_right _ ?_)); done) | fail) rfl) | exact Z.Yd.load rfl Try.isAgg3 (fun _ => Z.cellO (by assumption) (by simp) (by assumption)) | fail "load 1.3") ?_
  refine Z.t 4 rfl rfl rfl (by rfl) (by kernel_rfl) ⟨_, hs, by first | (simp; done) | exact fun e he => List.mem_append_right _ he⟩ (by first | exact Z.Yd.load rfl Try.isAgg25 (fun _ => Z.cellB (by first | ((repeat (first | exact List.mem_cons_self | refine List.mem_cons_of_mem _ ?_ | refine List.mem_append_right _ ?_)); done) | fail) rfl) | exact Z.Yd.load rfl Try.isAgg25 (fun _ => Z.cellO (by assumption) (by simp) (by assumption)) | fail "load 1.4") ?_
  refine Z.t 5 rfl rfl rfl (by rfl) (by kernel_rfl) ⟨_, hs, by first | (simp; done) | exact fun e he => List.mem_append_right _ he⟩ (Z.Yd.nilc rfl rfl) ?_
  refine Z.t 6 rfl rfl rfl (by rfl) (by kernel_rfl) ⟨_, hs, by first | (simp; done) | exact fun e he => List.mem_append_right _ he⟩ (Z.Yd.fieldA (m := 7) rfl (by kernel_rfl)) ?_
  refine Z.t 7 rfl rfl rfl (by rfl) (by kernel_rfl) ⟨_, hs, by first | (simp; done) | exact fun e he => List.mem_append_right _ he⟩ (by first | exact Z.Yd.load rfl Try.isAgg3 (fun _ => Z.cellB (by first | ((repeat (first | exact List.mem_cons_self | refine List.mem_cons_of_mem _ ?_ | refine List.mem_append_right _ ?_)); done) | fail) rfl) | exact Z.Yd.load rfl Try.isAgg3 (fun _ => Z.cellO (by assumption) (by simp) (by assumption)) | fail "load 1.7") ?_
  refine Z.tb [8] (by kernel_rfl) rfl ⟨_, hs, by first | (simp; done) | exact fun e he => List.mem_append_right _ he⟩ rfl ?_
  refine Z.td (by rfl) (by kernel_rfl) ?_
  refine Z.only [0, 1, 12] rfl ?_
  refine Z.nthen ?_
  refine Z.cond rfl (fun hc1 => ?_) (fun hc1 => ?_)
  · first
      | (exfalso; simp at hc1 <;> omega)
      | (
        (try simp at hc1)
        have e : sendS m d = (0, 10, m) := if_pos (by omega)
        rw [e]
        refine Z.seq ?_
        refine Z.region ?_
        refine Z.lb 2 rfl ?_
        refine Z.lnil ?_
        refine Z.only [2, 3] rfl ?_
        refine Z.nthen ?_
        refine Z.ret ?_
        repeat (first | refine Z.rthen ?_ | refine Z.rblock ?_ | refine Z.rscope ?_)
        -- ret#0
        refine Z.out2 (by exact ⟨rfl, rfl, trivial⟩) ?_
        exact ⟨_, rfl, rfl, hs⟩
        )
  · first
      | (exfalso; simp at hc1 <;> omega)
      | (
        (try simp at hc1)
        have e : sendS m d = (d % 64, 0, { m with pre := d % 64, frm := m.now + 3, att := m.att + 1, st := 2, due := m.now + 3 + m.win }) := if_neg (by omega)
        rw [e]
        refine Z.skip ?_
        refine Z.nthen ?_
        refine Z.seq ?_
        refine Z.drawS (fun W => ∃ x y : Value, SX.Keep w M [SX.Ent.blk g T #[.int .u64 m.id, .int .i64 m.rnt, .int .i64 m.win, .int .i64 m.con, .int .i64 m.max, .int .i64 m.st, .int .i64 m.now, .int .i64 m.due, x, y, .int .i64 m.att, .int .i64 m.bnd, .int .i64 m.rn], SX.Ent.blk g2 T2 #[.pointer (some ⟨g, 0, none⟩)], SX.Ent.blk g3 T3 #[.int .i64 d]] W) (fun j => j != 14) mixed hs ?_
        clear hs; intro wd3 hs
        refine Z.t 0 rfl rfl rfl (by rfl) (by kernel_rfl) ⟨_, _, _, hs, by first | exact fun e he => he | (simp; done)⟩ (by exact Z.Yd.load rfl Try.isAgg25 (fun _ W hS => by obtain ⟨x, y, hK⟩ := hS; exact Z.cellB (by first | ((repeat (first | exact List.mem_cons_self | refine List.mem_cons_of_mem _ ?_ | refine List.mem_append_right _ ?_)); done) | fail) rfl W hK)) ?_
        refine Z.t 1 rfl rfl rfl (by rfl) (by kernel_rfl) ⟨_, _, _, hs, by first | exact fun e he => he | (simp; done)⟩ (by exact Z.Yd.load rfl Try.isAgg25 (fun _ W hS => by obtain ⟨x, y, hK⟩ := hS; exact Z.cellB (by first | ((repeat (first | exact List.mem_cons_self | refine List.mem_cons_of_mem _ ?_ | refine List.mem_append_right _ ?_)); done) | fail) rfl W hK)) ?_
        refine Z.t 2 rfl rfl rfl (by rfl) (by kernel_rfl) ⟨_, _, _, hs, by first | exact fun e he => he | (simp; done)⟩ (by exact Z.Yd.load rfl Try.isAgg3 (fun _ W hS => by obtain ⟨x, y, hK⟩ := hS; exact Z.cellB (by first | ((repeat (first | exact List.mem_cons_self | refine List.mem_cons_of_mem _ ?_ | refine List.mem_append_right _ ?_)); done) | fail) rfl W hK)) ?_
        refine Z.t 3 rfl rfl rfl (by rfl) (by kernel_rfl) ⟨_, _, _, hs, by first | exact fun e he => he | (simp; done)⟩ (Z.Yd.rem rfl rfl (by intro hG; first | decide | omega) (by intro hG; first | exact Z.tmodn (by omega) | exact rfl)) ?_
        refine Z.t 4 rfl rfl rfl (by rfl) (by kernel_rfl) ⟨_, _, _, hs, by first | exact fun e he => he | (simp; done)⟩ (by exact Z.Yd.load rfl Try.isAgg25 (fun _ W hS => by obtain ⟨x, y, hK⟩ := hS; exact Z.cellB (by first | ((repeat (first | exact List.mem_cons_self | refine List.mem_cons_of_mem _ ?_ | refine List.mem_append_right _ ?_)); done) | fail) rfl W hK)) ?_
        refine Z.t 5 rfl rfl rfl (by rfl) (by kernel_rfl) ⟨_, _, _, hs, by first | exact fun e he => he | (simp; done)⟩ (Z.Yd.nilc rfl rfl) ?_
        refine Z.t 6 rfl rfl rfl (by rfl) (by kernel_rfl) ⟨_, _, _, hs, by first | exact fun e he => he | (simp; done)⟩ (Z.Yd.fieldA (m := 6) rfl (by kernel_rfl)) ?_
        refine Z.t 7 rfl rfl rfl (by rfl) (by kernel_rfl) ⟨_, _, _, hs, by first | exact fun e he => he | (simp; done)⟩ (by exact Z.Yd.load rfl Try.isAgg3 (fun _ W hS => by obtain ⟨x, y, hK⟩ := hS; exact Z.cellB (by first | ((repeat (first | exact List.mem_cons_self | refine List.mem_cons_of_mem _ ?_ | refine List.mem_append_right _ ?_)); done) | fail) rfl W hK)) ?_
        refine Z.t 8 rfl rfl rfl (by rfl) (by kernel_rfl) ⟨_, _, _, hs, by first | exact fun e he => he | (simp; done)⟩ (Z.Yd.add rfl rfl (fun hG => Z.wi64 (by first | omega | (have hG' := Z.gh rfl hG; simp at hG'; omega)))) ?_
        refine Z.t 9 rfl rfl rfl (by rfl) (by kernel_rfl) ⟨_, _, _, hs, by first | exact fun e he => he | (simp; done)⟩ (Z.Yd.nilc rfl rfl) ?_
        refine Z.t 10 rfl rfl rfl (by rfl) (by kernel_rfl) ⟨_, _, _, hs, by first | exact fun e he => he | (simp; done)⟩ (Z.Yd.fieldA (m := 9) rfl (by kernel_rfl)) ?_
        refine Z.tn 11 rfl rfl (by kernel_rfl) rfl trivial ?_
        first | refine Z.ZO.store rfl rfl hs Try.sizeOf3 rfl rfl rfl (by first | exact SX.at0 | exact SX.at1 | exact SX.at2 | exact SX.at3 | exact SX.at4 | exact SX.at5 | exact Z.at6 | exact Z.at7 | exact Z.at8 | exact Z.at9 | exact Z.at10 | exact Z.at11 | exact Z.at12) (by first | (simp; done) | (simp; omega)) ?_ | refine Z.ZO.storeR rfl rfl hs Try.sizeOf3 rfl rfl rfl (by first | exact SX.at0 | exact SX.at1 | exact SX.at2 | exact SX.at3 | exact SX.at4 | exact SX.at5 | exact Z.at6 | exact Z.at7 | exact Z.at8 | exact Z.at9 | exact Z.at10 | exact Z.at11 | exact Z.at12) (by first | omega | (simp [ints_length]; done) | (simp [ints_length]; omega)) ?_
        clear hs; intro ws hs
        simp only [Nat.zero_add, Nat.add_zero, Nat.reduceAdd, Int.reduceToNat, Nat.reduceMul, List.set_cons_zero, List.set_cons_succ, List.setIfInBounds_toArray] at hs
        refine Z.tk (Dn := fun j => j != 14) (i := 11) (fun _ => ⟨_, _, _, hs, by first | exact fun e he => he | (simp; done)⟩) ?_
        refine Z.tn 12 rfl rfl (by kernel_rfl) rfl trivial ?_
        refine Z.ZO.quiet rfl (by rfl) (Z.keepS hs) (Z.Yd.nilc rfl rfl) ?_
        refine Z.tk (Dn := fun j => j != 14) (i := 12) (fun _ => ⟨_, _, _, hs, by first | exact fun e he => he | (simp; done)⟩) ?_
        refine Z.t 13 rfl rfl rfl (by rfl) (by kernel_rfl) ⟨_, _, _, hs, by first | exact fun e he => he | (simp; done)⟩ (Z.Yd.fieldA (m := 8) rfl (by kernel_rfl)) ?_
        refine Z.tn 14 rfl rfl (by kernel_rfl) rfl trivial ?_
        first | refine Z.ZO.store rfl rfl hs Try.sizeOf3 rfl rfl rfl (by first | exact SX.at0 | exact SX.at1 | exact SX.at2 | exact SX.at3 | exact SX.at4 | exact SX.at5 | exact Z.at6 | exact Z.at7 | exact Z.at8 | exact Z.at9 | exact Z.at10 | exact Z.at11 | exact Z.at12) (by first | (simp; done) | (simp; omega)) ?_ | refine Z.ZO.storeR rfl rfl hs Try.sizeOf3 rfl rfl rfl (by first | exact SX.at0 | exact SX.at1 | exact SX.at2 | exact SX.at3 | exact SX.at4 | exact SX.at5 | exact Z.at6 | exact Z.at7 | exact Z.at8 | exact Z.at9 | exact Z.at10 | exact Z.at11 | exact Z.at12) (by first | omega | (simp [ints_length]; done) | (simp [ints_length]; omega)) ?_
        clear hs; intro ws hs
        simp only [Nat.zero_add, Nat.add_zero, Nat.reduceAdd, Int.reduceToNat, Nat.reduceMul, List.set_cons_zero, List.set_cons_succ, List.setIfInBounds_toArray] at hs
        refine Z.tk (Dn := fun j => j != 14) (i := 14) (fun h => absurd h (by decide)) ?_
        refine Z.td (by rfl) (by kernel_rfl) ?_
        refine Z.only [0] rfl ?_
        refine Z.nthen ?_
        refine Z.seq ?_
        refine Z.region ?_
        refine Z.l rfl rfl (by rfl) (Z.keepS hs) (by first | exact Z.Yd.load rfl Try.isAgg25 (fun _ => Z.cellB (by first | ((repeat (first | exact List.mem_cons_self | refine List.mem_cons_of_mem _ ?_ | refine List.mem_append_right _ ?_)); done) | fail) rfl) | exact Z.Yd.load rfl Try.isAgg25 (fun _ => Z.cellO (by assumption) (by simp) (by assumption)) | fail "load 4.0") ?_
        refine Z.l rfl rfl (by rfl) (Z.keepS hs) (Z.Yd.nilc rfl rfl) ?_
        refine Z.l rfl rfl (by rfl) (Z.keepS hs) (Z.Yd.fieldA (m := 10) rfl (by kernel_rfl)) ?_
        refine Z.l rfl rfl (by rfl) (Z.keepS hs) (by first | exact Z.Yd.load rfl Try.isAgg3 (fun _ => Z.cellB (by first | ((repeat (first | exact List.mem_cons_self | refine List.mem_cons_of_mem _ ?_ | refine List.mem_append_right _ ?_)); done) | fail) rfl) | exact Z.Yd.load rfl Try.isAgg3 (fun _ => Z.cellO (by assumption) (by simp) (by assumption)) | fail "load 4.3") ?_
        refine Z.l rfl rfl (by rfl) (Z.keepS hs) (Z.Yd.add rfl rfl (fun hG => Z.wi64 (by first | omega | (have hG' := Z.gh rfl hG; simp at hG'; omega)))) ?_
        refine Z.l rfl rfl (by rfl) (Z.keepS hs) (Z.Yd.nilc rfl rfl) ?_
        refine Z.l rfl rfl (by rfl) (Z.keepS hs) (Z.Yd.fieldA (m := 10) rfl (by kernel_rfl)) ?_
        refine Z.le rfl trivial ?_
        first | refine Z.ZO.store rfl rfl hs Try.sizeOf3 rfl rfl rfl (by first | exact SX.at0 | exact SX.at1 | exact SX.at2 | exact SX.at3 | exact SX.at4 | exact SX.at5 | exact Z.at6 | exact Z.at7 | exact Z.at8 | exact Z.at9 | exact Z.at10 | exact Z.at11 | exact Z.at12) (by first | (simp; done) | (simp; omega)) ?_ | refine Z.ZO.storeR rfl rfl hs Try.sizeOf3 rfl rfl rfl (by first | exact SX.at0 | exact SX.at1 | exact SX.at2 | exact SX.at3 | exact SX.at4 | exact SX.at5 | exact Z.at6 | exact Z.at7 | exact Z.at8 | exact Z.at9 | exact Z.at10 | exact Z.at11 | exact Z.at12) (by first | omega | (simp [ints_length]; done) | (simp [ints_length]; omega)) ?_
        clear hs; intro ws hs
        simp only [Nat.zero_add, Nat.add_zero, Nat.reduceAdd, Int.reduceToNat, Nat.reduceMul, List.set_cons_zero, List.set_cons_succ, List.setIfInBounds_toArray] at hs
        refine Z.lnil ?_
        refine Z.only [0] rfl ?_
        refine Z.nthen ?_
        refine Z.seq ?_
        refine Z.drawK (fun j => j != 11) mixed hs ?_
        clear hs; intro wd5 hs
        refine Z.t 0 rfl rfl rfl (by rfl) (by kernel_rfl) ⟨_, hs, by first | (simp; done) | exact fun e he => List.mem_append_right _ he⟩ (by first | exact Z.Yd.load rfl Try.isAgg25 (fun _ => Z.cellB (by first | ((repeat (first | exact List.mem_cons_self | refine List.mem_cons_of_mem _ ?_ | refine List.mem_append_right _ ?_)); done) | fail) rfl) | exact Z.Yd.load rfl Try.isAgg25 (fun _ => Z.cellO (by assumption) (by simp) (by assumption)) | fail "load 5.0") ?_
        refine Z.tX 1 [1, 2, 3, 4, 10, 11] rfl rfl rfl (by rfl) (by kernel_rfl) ⟨_, hs, by first | (simp; done) | exact fun e he => List.mem_append_right _ he⟩ (by first | exact Z.Yd.load rfl Try.isAgg25 (fun _ => Z.cellB (by first | ((repeat (first | exact List.mem_cons_self | refine List.mem_cons_of_mem _ ?_ | refine List.mem_append_right _ ?_)); done) | fail) rfl) | exact Z.Yd.load rfl Try.isAgg25 (fun _ => Z.cellO (by assumption) (by simp) (by assumption)) | fail "load 5.1") ?_
        refine Z.tX 2 [2, 3, 4, 10, 11] rfl rfl rfl (by rfl) (by kernel_rfl) ⟨_, hs, by first | (simp; done) | exact fun e he => List.mem_append_right _ he⟩ (Z.Yd.nilc rfl rfl) ?_
        refine Z.tX 3 [3, 4, 10, 11] rfl rfl rfl (by rfl) (by kernel_rfl) ⟨_, hs, by first | (simp; done) | exact fun e he => List.mem_append_right _ he⟩ (Z.Yd.fieldA (m := 8) rfl (by kernel_rfl)) ?_
        refine Z.tX 4 [4, 10, 11] rfl rfl rfl (by rfl) (by kernel_rfl) ⟨_, hs, by first | (simp; done) | exact fun e he => List.mem_append_right _ he⟩ (by first | exact Z.Yd.load rfl Try.isAgg3 (fun _ => Z.cellB (by first | ((repeat (first | exact List.mem_cons_self | refine List.mem_cons_of_mem _ ?_ | refine List.mem_append_right _ ?_)); done) | fail) rfl) | exact Z.Yd.load rfl Try.isAgg3 (fun _ => Z.cellO (by assumption) (by simp) (by assumption)) | fail "load 5.4") ?_
        refine Z.tn 5 rfl rfl (by kernel_rfl) rfl trivial ?_
        refine Z.ZO.quiet rfl (by rfl) (Z.keepS hs) (by first | exact Z.Yd.load rfl Try.isAgg25 (fun _ => Z.cellB (by first | ((repeat (first | exact List.mem_cons_self | refine List.mem_cons_of_mem _ ?_ | refine List.mem_append_right _ ?_)); done) | fail) rfl) | exact Z.Yd.load rfl Try.isAgg25 (fun _ => Z.cellO (by assumption) (by simp) (by assumption)) | fail "load 5.5") ?_
        refine Z.tk (Dn := fun j => j != 11) (i := 5) (fun _ => ⟨_, hs, by first | (simp; done) | exact fun e he => List.mem_append_right _ he⟩) ?_
        refine Z.tn 6 rfl rfl (by kernel_rfl) rfl trivial ?_
        refine Z.ZO.quiet rfl (by rfl) (Z.keepS hs) (Z.Yd.nilc rfl rfl) ?_
        refine Z.tk (Dn := fun j => j != 11) (i := 6) (fun _ => ⟨_, hs, by first | (simp; done) | exact fun e he => List.mem_append_right _ he⟩) ?_
        refine Z.tn 7 rfl rfl (by kernel_rfl) rfl trivial ?_
        refine Z.ZO.quiet rfl (by rfl) (Z.keepS hs) (Z.Yd.fieldA (m := 0) rfl (by kernel_rfl)) ?_
        refine Z.tk (Dn := fun j => j != 11) (i := 7) (fun _ => ⟨_, hs, by first | (simp; done) | exact fun e he => List.mem_append_right _ he⟩) ?_
        refine Z.tn 8 rfl rfl (by kernel_rfl) rfl trivial ?_
        refine Z.ZO.quiet rfl (by rfl) (Z.keepS hs) (Z.Yd.fieldA (m := 2) rfl (by kernel_rfl)) ?_
        refine Z.tk (Dn := fun j => j != 11) (i := 8) (fun _ => ⟨_, hs, by first | (simp; done) | exact fun e he => List.mem_append_right _ he⟩) ?_
        refine Z.tn 9 rfl rfl (by kernel_rfl) rfl trivial ?_
        refine Z.ZO.quiet rfl (by rfl) (Z.keepS hs) (by first | exact Z.Yd.load rfl Try.isAgg3 (fun _ => Z.cellB (by first | ((repeat (first | exact List.mem_cons_self | refine List.mem_cons_of_mem _ ?_ | refine List.mem_append_right _ ?_)); done) | fail) rfl) | exact Z.Yd.load rfl Try.isAgg3 (fun _ => Z.cellO (by assumption) (by simp) (by assumption)) | fail "load 5.9") ?_
        refine Z.tk (Dn := fun j => j != 11) (i := 9) (fun _ => ⟨_, hs, by first | (simp; done) | exact fun e he => List.mem_append_right _ he⟩) ?_
        refine Z.t 10 rfl rfl rfl (by rfl) (by kernel_rfl) ⟨_, hs, by first | (simp; done) | exact fun e he => List.mem_append_right _ he⟩ (Z.Yd.add rfl rfl (fun hG => Z.wi64 (by first | omega | (have hG' := Z.gh rfl hG; simp at hG'; omega)))) ?_
        refine Z.tn 11 rfl rfl (by kernel_rfl) rfl trivial ?_
        refine Z.ZO.call rfl rfl (by rfl) rfl rfl Try.call31 rfl (ac_enter g T { m with pre := d % 64, frm := m.now + 3, att := m.att + 1 } 2 (m.now + 3 + m.win) _ (hs.lend (L1 := [_]))) ?_
        rintro v5_11 w5_11 ⟨rfl, hz⟩
        replace hs := hs.regain (L1 := [_]) hz
        refine Z.tk (Dn := fun j => j != 11) (i := 11) (fun h => absurd h (by decide)) ?_
        refine Z.td (by rfl) (by kernel_rfl) ?_
        refine Z.only [0] rfl ?_
        refine Z.nthen ?_
        refine Z.seq ?_
        refine Z.region ?_
        refine Z.l rfl rfl (by rfl) (Z.keepS hs) (by first | exact Z.Yd.load rfl Try.isAgg25 (fun _ => Z.cellB (by first | ((repeat (first | exact List.mem_cons_self | refine List.mem_cons_of_mem _ ?_ | refine List.mem_append_right _ ?_)); done) | fail) rfl) | exact Z.Yd.load rfl Try.isAgg25 (fun _ => Z.cellO (by assumption) (by simp) (by assumption)) | fail "load 6.0") ?_
        refine Z.l rfl rfl (by rfl) (Z.keepS hs) (Z.Yd.nilc rfl rfl) ?_
        refine Z.l rfl rfl (by rfl) (Z.keepS hs) (Z.Yd.fieldA (m := 9) rfl (by kernel_rfl)) ?_
        refine Z.l rfl rfl (by rfl) (Z.keepS hs) (by first | exact Z.Yd.load rfl Try.isAgg3 (fun _ => Z.cellB (by first | ((repeat (first | exact List.mem_cons_self | refine List.mem_cons_of_mem _ ?_ | refine List.mem_append_right _ ?_)); done) | fail) rfl) | exact Z.Yd.load rfl Try.isAgg3 (fun _ => Z.cellO (by assumption) (by simp) (by assumption)) | fail "load 6.3") ?_
        refine Z.lb 2 rfl ?_
        refine Z.lnil ?_
        refine Z.only [2, 3] rfl ?_
        refine Z.nthen ?_
        refine Z.ret ?_
        -- ret#1
        refine Z.out2 (by exact ⟨rfl, rfl, trivial⟩) ?_
        exact ⟨_, rfl, rfl, hs⟩
        )
theorem ac_send (g T : Nat) (m : AcV) (t d : Int) (w : World) (hs : SX.St w (SX.idsOf [SX.Ent.blk g T m.cells.toArray]) w [SX.Ent.blk g T m.cells.toArray]) (hm : m.ok) :
    Calls Try.prog 12 #[.pointer (some ⟨g, 0, none⟩), .int .i64 t, .int .i64 d] w (SX.Ret fun v w' => v = .tuple #[.int .i64 (sendV m t d).2.1, .int .i64 (sendV m t d).2.2] ∧ SX.St w (SX.idsOf [SX.Ent.blk g T m.cells.toArray]) w' [SX.Ent.blk g T (sendV m t d).1.cells.toArray]) := by
  generalize hM : SX.idsOf [SX.Ent.blk g T m.cells.toArray] = M at *
  obtain ⟨X, hX⟩ : ∃ X : Value × Int × AcV, X = if decide (0 ≤ d) = true ∧ okT t then (if (0 : Int) = 0 then (if (tickV m t).st ∈ [1] then (.int .i64 (sendS (tickV m t) d).1, (sendS (tickV m t) d).2.1, (sendS (tickV m t) d).2.2) else (.int .i64 0, 8, tickV m t)) else (.int .i64 0, 0, m)) else (.int .i64 0, 2, m) := ⟨_, rfl⟩
  have hE : X.1 = .int .i64 (sendV m t d).2.1 ∧ X.2.1 = (sendV m t d).2.2 ∧ X.2.2 = (sendV m t d).1 := by
    rw [hX]
    unfold sendV sendS
    by_cases h1 : okT t <;> by_cases h0 : 0 ≤ d <;> by_cases h2 : (tickV m t).st = 1 <;> by_cases h3 : (tickV m t).now < (tickV m t).due <;> simp [h0, h1, h2, h3]
  refine Z.enter Try.func12 rfl Try.ntmps12 rfl rfl ?_
  refine Z.seq ?_
  refine Z.region ?_
  refine Z.le rfl trivial ?_
  refine Z.ZO.box rfl rfl (by rfl) rfl rfl hs ?_
  clear hs; intro g3 w3 hs
  refine Z.le rfl trivial ?_
  refine Z.ZO.box rfl rfl (by rfl) rfl rfl hs ?_
  clear hs; intro g5 w5 hs
  refine Z.lb 2 rfl ?_
  refine Z.lnil ?_
  refine Z.only [1, 3, 5] rfl ?_
  refine Z.nthen ?_
  refine Z.seq ?_
  refine Z.region ?_
  refine Z.l rfl rfl (by rfl) (Z.keepS hs) (by first | exact Z.Yd.load rfl Try.isAgg25 (fun _ => Z.cellB (by first | ((repeat (first | exact List.mem_cons_self | refine List.mem_cons_of_mem _ ?_ | refine List.mem_append_right _ ?_)); done) | fail) rfl) | exact Z.Yd.load rfl Try.isAgg25 (fun _ => Z.cellO (by assumption) (by simp) (by assumption)) | fail "load 1.0") ?_
  refine Z.lb 1 rfl ?_
  refine Z.l rfl rfl (by rfl) (Z.keepS hs) (by first | exact Z.Yd.load rfl Try.isAgg3 (fun _ => Z.cellB (by first | ((repeat (first | exact List.mem_cons_self | refine List.mem_cons_of_mem _ ?_ | refine List.mem_append_right _ ?_)); done) | fail) rfl) | exact Z.Yd.load rfl Try.isAgg3 (fun _ => Z.cellO (by assumption) (by simp) (by assumption)) | fail "load 1.2") ?_
  refine Z.lb 2 rfl ?_
  refine Z.le rfl trivial ?_
  refine Z.ZO.litL (T' := 44) [(0, 1)] [.int .i64 0] rfl rfl (by rfl) rfl rfl (by intro W; kernel_rfl) hs ?_
  clear hs; intro g13 w13 hs
  replace hs : SX.St w M _ ([SX.Ent.blk g T m.cells.toArray, SX.Ent.blk g3 _ _, SX.Ent.blk g5 _ _] ++ [_]) := hs.sel [3, 2, 1, 0] (by decide)
  refine Z.le rfl trivial ?_
  refine Z.ZO.call rfl rfl (by rfl) rfl rfl Try.call32 rfl (ac_timedI g T [SX.Ent.blk g3 _ _, SX.Ent.blk g5 _ _] m t (decide (0 ≤ d)) 0 33 _ _ _ _ [1] _ hs.lend hm (by have h0 := Z.blk_lentj hs (j := 0) rfl; exact h0) rfl (by decide) Try.call33 _ _ _ (fun hd ht _ _ W hW ↦ ac_send1 g T g3 _ g5 _ (tickV m t) d W hW.all (hm.tick ht) (by simpa using hd)) X.1 X.2.1 X.2.2 hX) ?_
  rintro v1_6 w1_6 ⟨rfl, hz⟩
  replace hs := hs.regain hz
  rw [hE.2.2] at hs
  rw [hE.1, hE.2.1]
  refine Z.lb 4 rfl ?_
  refine Z.lnil ?_
  refine Z.only [6, 7] rfl ?_
  refine Z.nthen ?_
  refine Z.ret ?_
  -- ret#0
  refine Z.out2 (by exact ⟨rfl, rfl, trivial⟩) ?_
  exact ⟨_, rfl, rfl, hs.sel [0] (by decide)⟩
end Go.Proofs.Ytjgfooakcljddaa

/- Random access of a handset: Answer, Message, Resolve. -/
namespace Go.Proofs.Ytjgfooakcljddaa
open Go.RowKit
set_option linter.unusedSimpArgs false
set_option linter.unusedVariables false
--newlaws

def answerS (m : AcV) (p r k : Int) : Bool × Int × AcV := if m.frm ≤ m.now then (if p = m.pre then (if r = 0 then (true, 0, failV { m with bnd := k }) else (true, 0, { m with rn := r, st := 3, due := m.now + m.con })) else (false, 0, m)) else (false, 8, m)
theorem AcV.ok.bound {m : AcV} (h : m.ok) {k : Int} (hk : 0 ≤ k ∧ k ≤ 960) : ({ m with bnd := k } : AcV).ok := by
  obtain ⟨h1, h2, h3, h4, h5, h6, h7, h8, h9, h10⟩ := h
  exact ⟨h1, h2, h3, h4, h5, h6, h7, hk, h9, h10⟩
set_option maxHeartbeats 1000000 in
theorem ac_answer1 (g T g2 T2 g3 T3 : Nat) (m : AcV) (p r k : Int) (w : World) (hs : SX.St w (SX.idsOf [SX.Ent.blk g T m.cells.toArray, SX.Ent.blk g2 T2 #[.pointer (some ⟨g, 0, none⟩)], SX.Ent.blk g3 T3 #[.int .i64 p, .int .i64 r, .int .i64 k]]) w [SX.Ent.blk g T m.cells.toArray, SX.Ent.blk g2 T2 #[.pointer (some ⟨g, 0, none⟩)], SX.Ent.blk g3 T3 #[.int .i64 p, .int .i64 r, .int .i64 k]]) (hm : m.ok) (hr : okR p r k) :
    Calls Try.prog 34 #[.pointer (some ⟨g2, 0, none⟩), .pointer (some ⟨g3, 0, none⟩)] w (SX.Ret fun v w' => v = .tuple #[.bool (answerS m p r k).1, .int .i64 (answerS m p r k).2.1] ∧ SX.St w (SX.idsOf [SX.Ent.blk g T m.cells.toArray, SX.Ent.blk g2 T2 #[.pointer (some ⟨g, 0, none⟩)], SX.Ent.blk g3 T3 #[.int .i64 p, .int .i64 r, .int .i64 k]]) w' [SX.Ent.blk g T (answerS m p r k).2.2.cells.toArray, SX.Ent.blk g2 T2 #[.pointer (some ⟨g, 0, none⟩)], SX.Ent.blk g3 T3 #[.int .i64 p, .int .i64 r, .int .i64 k]]) := by
  generalize hM : SX.idsOf [SX.Ent.blk g T m.cells.toArray, SX.Ent.blk g2 T2 #[.pointer (some ⟨g, 0, none⟩)], SX.Ent.blk g3 T3 #[.int .i64 p, .int .i64 r, .int .i64 k]] = M at *
  have hmb := hm.bound (k := k) hr.2.2
  obtain ⟨h1, h2, h3, h4, h5, h6, h7, h8, h9, h10⟩ := hm
  have h11 := h1.2.2.2.1
  replace hs : SX.St w M w [SX.Ent.blk g T #[.int .u64 (m).id, .int .i64 (m).rnt, .int .i64 (m).win, .int .i64 (m).con, .int .i64 (m).max, .int .i64 (m).st, .int .i64 (m).now, .int .i64 (m).due, .int .i64 (m).frm, .int .i64 (m).pre, .int .i64 (m).att, .int .i64 (m).bnd, .int .i64 (m).rn], SX.Ent.blk g2 T2 #[.pointer (some ⟨g, 0, none⟩)], SX.Ent.blk g3 T3 #[.int .i64 p, .int .i64 r, .int .i64 k]] := hs
  refine Z.enter Try.func34 rfl Try.ntmps34 rfl rfl ?_
  refine Z.seq ?_
  refine Z.region ?_
  refine Z.lb 2 rfl ?_
  refine Z.lnil ?_
  refine Z.only [0, 1] rfl ?_
  refine Z.nthen ?_
  refine Z.seq ?_
  refine Z.block ?_
  refine Z.seq ?_
  refine Z.drawK (fun _ => true) mixed hs ?_
  clear hs; intro wd3 hs
  refine Z.t 0 rfl rfl rfl (by rfl) (by kernel_rfl) ⟨_, hs, by first | (simp; done) | exact fun e he => List.mem_append_right _ he⟩ (by first | exact Z.Yd.load rfl Try.isAgg25 (fun _ => Z.cellB (by first | ((repeat (first | exact List.mem_cons_self | refine List.mem_cons_of_mem _ ?_ | refine List.mem_append_right _ ?_)); done) | fail) rfl) | exact Z.Yd.load rfl Try.isAgg25 (fun _ => Z.cellO (by assumption) (by simp) (by assumption)) | fail "load 3.0") ?_
  refine Z.t 1 rfl rfl rfl (by rfl) (by kernel_rfl) ⟨_, hs, by first | (simp; done) | exact fun e he => List.mem_append_right _ he⟩ (Z.Yd.nilc rfl rfl) ?_
  refine Z.t 2 rfl rfl rfl (by rfl) (by kernel_rfl) ⟨_, hs, by first | (simp; done) | exact fun e he => List.mem_append_right _ he⟩ (Z.Yd.fieldA (m := 6) rfl (by kernel_rfl)) ?_
  refine Z.t 3 rfl rfl rfl (by rfl) (by kernel_rfl) ⟨_, hs, by first | (simp; done) | exact fun e he => List.mem_append_right _ he⟩ (by first | exact Z.Yd.load rfl Try.isAgg3 (fun _ => Z.cellB (by first | ((repeat (first | exact List.mem_cons_self | refine List.mem_cons_of_mem _ ?_ | refine List.mem_append_right _ ?_)); done) | fail) rfl) | exact Z.Yd.load rfl Try.isAgg3 (fun _ => Z.cellO (by assumption) (by simp) (by assumption)) | fail "load 3.3") ?_
  refine Z.t 4 rfl rfl rfl (by rfl) (by kernel_rfl) ⟨_, hs, by first | (simp; done) | exact fun e he => List.mem_append_right _ he⟩ (by first | exact Z.Yd.load rfl Try.isAgg25 (fun _ => Z.cellB (by first | ((repeat (first | exact List.mem_cons_self | refine List.mem_cons_of_mem _ ?_ | refine List.mem_append_right _ ?_)); done) | fail) rfl) | exact Z.Yd.load rfl Try.isAgg25 (fun _ => Z.cellO (by assumption) (by simp) (by assumption)) | fail "load 3.4") ?_
  refine Z.t 5 rfl rfl rfl (by rfl) (by kernel_rfl) ⟨_, hs, by first | (simp; done) | exact fun e he => List.mem_append_right _ he⟩ (Z.Yd.nilc rfl rfl) ?_
  refine Z.t 6 rfl rfl rfl (by rfl) (by kernel_rfl) ⟨_, hs, by first | (simp; done) | exact fun e he => List.mem_append_right _ he⟩ (Z.Yd.fieldA (m := 8) rfl (by kernel_rfl)) ?_
  refine Z.t 7 rfl rfl rfl (by rfl) (by kernel_rfl) ⟨_, hs, by first | (simp; done) | exact fun e he => List.mem_append_right _ he⟩ (by first | exact Z.Yd.load rfl Try.isAgg3 (fun _ => Z.cellB (by first | ((repeat (first | exact List.mem_cons_self | refine List.mem_cons_of_mem _ ?_ | refine List.mem_append_right _ ?_)); done) | fail) rfl) | exact Z.Yd.load rfl Try.isAgg3 (fun _ => Z.cellO (by assumption) (by simp) (by assumption)) | fail "load 3.7") ?_
  refine Z.tb [8, 9] (by kernel_rfl) rfl ⟨_, hs, by first | (simp; done) | exact fun e he => List.mem_append_right _ he⟩ rfl ?_
  refine Z.td (by rfl) (by kernel_rfl) ?_
  refine Z.only [0, 1, 21] rfl ?_
  refine Z.nthen ?_
  refine Z.cond rfl (fun hc3 => ?_) (fun hc3 => ?_)
  · first
      | (exfalso; simp at hc3 <;> omega)
      | (
        (try simp at hc3)
        have e : answerS m p r k = (false, 8, m) := if_neg (by omega)
        rw [e]
        refine Z.seq ?_
        refine Z.region ?_
        refine Z.lb 2 rfl ?_
        refine Z.lnil ?_
        refine Z.only [2, 3] rfl ?_
        refine Z.nthen ?_
        refine Z.ret ?_
        repeat (first | refine Z.rthen ?_ | refine Z.rblock ?_ | refine Z.rscope ?_)
        -- ret#0
        refine Z.out2 (by exact ⟨rfl, rfl, trivial⟩) ?_
        exact ⟨_, rfl, rfl, hs⟩
        )
  · first
      | (exfalso; simp at hc3 <;> omega)
      | (
        (try simp at hc3)
        refine Z.seq ?_
        refine Z.drawK (fun _ => true) mixed hs ?_
        clear hs; intro wd5 hs
        refine Z.t 0 rfl rfl rfl (by rfl) (by kernel_rfl) ⟨_, hs, by first | (simp; done) | exact fun e he => List.mem_append_right _ he⟩ (Z.Yd.fieldA (m := 0) rfl (by kernel_rfl)) ?_
        refine Z.t 1 rfl rfl rfl (by rfl) (by kernel_rfl) ⟨_, hs, by first | (simp; done) | exact fun e he => List.mem_append_right _ he⟩ (by first | exact Z.Yd.load rfl Try.isAgg3 (fun _ => Z.cellB (by first | ((repeat (first | exact List.mem_cons_self | refine List.mem_cons_of_mem _ ?_ | refine List.mem_append_right _ ?_)); done) | fail) rfl) | exact Z.Yd.load rfl Try.isAgg3 (fun _ => Z.cellO (by assumption) (by simp) (by assumption)) | fail "load 5.1") ?_
        refine Z.t 2 rfl rfl rfl (by rfl) (by kernel_rfl) ⟨_, hs, by first | (simp; done) | exact fun e he => List.mem_append_right _ he⟩ (by first | exact Z.Yd.load rfl Try.isAgg25 (fun _ => Z.cellB (by first | ((repeat (first | exact List.mem_cons_self | refine List.mem_cons_of_mem _ ?_ | refine List.mem_append_right _ ?_)); done) | fail) rfl) | exact Z.Yd.load rfl Try.isAgg25 (fun _ => Z.cellO (by assumption) (by simp) (by assumption)) | fail "load 5.2") ?_
        refine Z.t 3 rfl rfl rfl (by rfl) (by kernel_rfl) ⟨_, hs, by first | (simp; done) | exact fun e he => List.mem_append_right _ he⟩ (Z.Yd.nilc rfl rfl) ?_
        refine Z.t 4 rfl rfl rfl (by rfl) (by kernel_rfl) ⟨_, hs, by first | (simp; done) | exact fun e he => List.mem_append_right _ he⟩ (Z.Yd.fieldA (m := 9) rfl (by kernel_rfl)) ?_
        refine Z.t 5 rfl rfl rfl (by rfl) (by kernel_rfl) ⟨_, hs, by first | (simp; done) | exact fun e he => List.mem_append_right _ he⟩ (by first | exact Z.Yd.load rfl Try.isAgg3 (fun _ => Z.cellB (by first | ((repeat (first | exact List.mem_cons_self | refine List.mem_cons_of_mem _ ?_ | refine List.mem_append_right _ ?_)); done) | fail) rfl) | exact Z.Yd.load rfl Try.isAgg3 (fun _ => Z.cellO (by assumption) (by simp) (by assumption)) | fail "load 5.5") ?_
        refine Z.tb [6, 7] (by kernel_rfl) rfl ⟨_, hs, by first | (simp; done) | exact fun e he => List.mem_append_right _ he⟩ rfl ?_
        refine Z.td (by rfl) (by kernel_rfl) ?_
        refine Z.only [0, 1, 31] rfl ?_
        refine Z.nthen ?_
        refine Z.cond rfl (fun hc5 => ?_) (fun hc5 => ?_)
        · first
            | (exfalso; simp at hc5 <;> omega)
            | (
              (try simp at hc5)
              have e : answerS m p r k = (false, 0, m) := by unfold answerS; rw [if_pos (by omega), if_neg (by assumption)]
              rw [e]
              refine Z.seq ?_
              refine Z.region ?_
              refine Z.lb 2 rfl ?_
              refine Z.lnil ?_
              refine Z.only [2, 3] rfl ?_
              refine Z.nthen ?_
              refine Z.ret ?_
              repeat (first | refine Z.rthen ?_ | refine Z.rblock ?_ | refine Z.rscope ?_)
              -- ret#1
              refine Z.out2 (by exact ⟨rfl, rfl, trivial⟩) ?_
              exact ⟨_, rfl, rfl, hs⟩
              )
        · first
            | (exfalso; simp at hc5 <;> omega)
            | (
              (try simp at hc5)
              refine Z.seq ?_
              refine Z.region ?_
              refine Z.l rfl rfl (by rfl) (Z.keepS hs) (Z.Yd.fieldA (m := 1) rfl (by kernel_rfl)) ?_
              refine Z.l rfl rfl (by rfl) (Z.keepS hs) (by first | exact Z.Yd.load rfl Try.isAgg3 (fun _ => Z.cellB (by first | ((repeat (first | exact List.mem_cons_self | refine List.mem_cons_of_mem _ ?_ | refine List.mem_append_right _ ?_)); done) | fail) rfl) | exact Z.Yd.load rfl Try.isAgg3 (fun _ => Z.cellO (by assumption) (by simp) (by assumption)) | fail "load 7.1") ?_
              refine Z.lb 2 rfl ?_
              refine Z.lnil ?_
              refine Z.only [0, 1, 39] rfl ?_
              refine Z.nthen ?_
              refine Z.cond rfl (fun hc7 => ?_) (fun hc7 => ?_)
              · first
                  | (exfalso; simp at hc7 <;> omega)
                  | (
                    (try simp at hc7)
                    have e : answerS m p r k = (true, 0, failV { m with bnd := k }) := by unfold answerS; rw [if_pos (by omega), if_pos (by assumption), if_pos (by assumption)]
                    rw [e]
                    refine Z.seq ?_
                    refine Z.region ?_
                    refine Z.l rfl rfl (by rfl) (Z.keepS hs) (by first | exact Z.Yd.load rfl Try.isAgg25 (fun _ => Z.cellB (by first | ((repeat (first | exact List.mem_cons_self | refine List.mem_cons_of_mem _ ?_ | refine List.mem_append_right _ ?_)); done) | fail) rfl) | exact Z.Yd.load rfl Try.isAgg25 (fun _ => Z.cellO (by assumption) (by simp) (by assumption)) | fail "load 8.0") ?_
                    refine Z.l rfl rfl (by rfl) (Z.keepS hs) (Z.Yd.fieldA (m := 2) rfl (by kernel_rfl)) ?_
                    refine Z.l rfl rfl (by rfl) (Z.keepS hs) (by first | exact Z.Yd.load rfl Try.isAgg3 (fun _ => Z.cellB (by first | ((repeat (first | exact List.mem_cons_self | refine List.mem_cons_of_mem _ ?_ | refine List.mem_append_right _ ?_)); done) | fail) rfl) | exact Z.Yd.load rfl Try.isAgg3 (fun _ => Z.cellO (by assumption) (by simp) (by assumption)) | fail "load 8.2") ?_
                    refine Z.l rfl rfl (by rfl) (Z.keepS hs) (Z.Yd.nilc rfl rfl) ?_
                    refine Z.l rfl rfl (by rfl) (Z.keepS hs) (Z.Yd.fieldA (m := 11) rfl (by kernel_rfl)) ?_
                    refine Z.le rfl trivial ?_
                    first | refine Z.ZO.store rfl rfl hs Try.sizeOf3 rfl rfl rfl (by first | exact SX.at0 | exact SX.at1 | exact SX.at2 | exact SX.at3 | exact SX.at4 | exact SX.at5 | exact Z.at6 | exact Z.at7 | exact Z.at8 | exact Z.at9 | exact Z.at10 | exact Z.at11 | exact Z.at12) (by first | (simp; done) | (simp; omega)) ?_ | refine Z.ZO.storeR rfl rfl hs Try.sizeOf3 rfl rfl rfl (by first | exact SX.at0 | exact SX.at1 | exact SX.at2 | exact SX.at3 | exact SX.at4 | exact SX.at5 | exact Z.at6 | exact Z.at7 | exact Z.at8 | exact Z.at9 | exact Z.at10 | exact Z.at11 | exact Z.at12) (by first | omega | (simp [ints_length]; done) | (simp [ints_length]; omega)) ?_
                    clear hs; intro ws hs
                    simp only [Nat.zero_add, Nat.add_zero, Nat.reduceAdd, Int.reduceToNat, Nat.reduceMul, List.set_cons_zero, List.set_cons_succ, List.setIfInBounds_toArray] at hs
                    refine Z.lnil ?_
                    refine Z.only [0] rfl ?_
                    refine Z.nthen ?_
                    refine Z.region ?_
                    refine Z.l rfl rfl (by rfl) (Z.keepS hs) (by first | exact Z.Yd.load rfl Try.isAgg25 (fun _ => Z.cellB (by first | ((repeat (first | exact List.mem_cons_self | refine List.mem_cons_of_mem _ ?_ | refine List.mem_append_right _ ?_)); done) | fail) rfl) | exact Z.Yd.load rfl Try.isAgg25 (fun _ => Z.cellO (by assumption) (by simp) (by assumption)) | fail "load 9.0") ?_
                    refine Z.le rfl trivial ?_
                    refine Z.ZO.call rfl rfl (by rfl) rfl rfl Try.call35 rfl (ac_fail g T { m with bnd := k } _ (hs.lend (L1 := [_])) hmb) ?_
                    rintro v9_1 w9_1 ⟨rfl, hz⟩
                    replace hs := hs.regain (L1 := [_]) hz
                    refine Z.lnil ?_
                    refine Z.only [] rfl ?_
                    refine Z.nblock ?_
                    refine Z.nthen ?_
                    refine Z.seq ?_
                    refine Z.region ?_
                    refine Z.lb 2 rfl ?_
                    refine Z.lnil ?_
                    refine Z.only [2, 3] rfl ?_
                    refine Z.nthen ?_
                    refine Z.ret ?_
                    -- ret#2
                    refine Z.out2 (by exact ⟨rfl, rfl, trivial⟩) ?_
                    exact ⟨_, rfl, rfl, hs⟩
                    )
              · first
                  | (exfalso; simp at hc7 <;> omega)
                  | (
                    (try simp at hc7)
                    have e : answerS m p r k = (true, 0, { m with rn := r, st := 3, due := m.now + m.con }) := by unfold answerS; rw [if_pos (by omega), if_pos (by assumption), if_neg (by assumption)]
                    rw [e]
                    refine Z.seq ?_
                    refine Z.region ?_
                    refine Z.l rfl rfl (by rfl) (Z.keepS hs) (by first | exact Z.Yd.load rfl Try.isAgg25 (fun _ => Z.cellB (by first | ((repeat (first | exact List.mem_cons_self | refine List.mem_cons_of_mem _ ?_ | refine List.mem_append_right _ ?_)); done) | fail) rfl) | exact Z.Yd.load rfl Try.isAgg25 (fun _ => Z.cellO (by assumption) (by simp) (by assumption)) | fail "load 1.0") ?_
                    refine Z.l rfl rfl (by rfl) (Z.keepS hs) (Z.Yd.fieldA (m := 1) rfl (by kernel_rfl)) ?_
                    refine Z.l rfl rfl (by rfl) (Z.keepS hs) (by first | exact Z.Yd.load rfl Try.isAgg3 (fun _ => Z.cellB (by first | ((repeat (first | exact List.mem_cons_self | refine List.mem_cons_of_mem _ ?_ | refine List.mem_append_right _ ?_)); done) | fail) rfl) | exact Z.Yd.load rfl Try.isAgg3 (fun _ => Z.cellO (by assumption) (by simp) (by assumption)) | fail "load 1.2") ?_
                    refine Z.l rfl rfl (by rfl) (Z.keepS hs) (Z.Yd.nilc rfl rfl) ?_
                    refine Z.l rfl rfl (by rfl) (Z.keepS hs) (Z.Yd.fieldA (m := 12) rfl (by kernel_rfl)) ?_
                    refine Z.le rfl trivial ?_
                    first | refine Z.ZO.store rfl rfl hs Try.sizeOf3 rfl rfl rfl (by first | exact SX.at0 | exact SX.at1 | exact SX.at2 | exact SX.at3 | exact SX.at4 | exact SX.at5 | exact Z.at6 | exact Z.at7 | exact Z.at8 | exact Z.at9 | exact Z.at10 | exact Z.at11 | exact Z.at12) (by first | (simp; done) | (simp; omega)) ?_ | refine Z.ZO.storeR rfl rfl hs Try.sizeOf3 rfl rfl rfl (by first | exact SX.at0 | exact SX.at1 | exact SX.at2 | exact SX.at3 | exact SX.at4 | exact SX.at5 | exact Z.at6 | exact Z.at7 | exact Z.at8 | exact Z.at9 | exact Z.at10 | exact Z.at11 | exact Z.at12) (by first | omega | (simp [ints_length]; done) | (simp [ints_length]; omega)) ?_
                    clear hs; intro ws hs
                    simp only [Nat.zero_add, Nat.add_zero, Nat.reduceAdd, Int.reduceToNat, Nat.reduceMul, List.set_cons_zero, List.set_cons_succ, List.setIfInBounds_toArray] at hs
                    refine Z.lnil ?_
                    refine Z.only [0] rfl ?_
                    refine Z.nthen ?_
                    refine Z.drawK (fun j => j != 11) mixed hs ?_
                    clear hs; intro wd2 hs
                    refine Z.t 0 rfl rfl rfl (by rfl) (by kernel_rfl) ⟨_, hs, by first | (simp; done) | exact fun e he => List.mem_append_right _ he⟩ (by first | exact Z.Yd.load rfl Try.isAgg25 (fun _ => Z.cellB (by first | ((repeat (first | exact List.mem_cons_self | refine List.mem_cons_of_mem _ ?_ | refine List.mem_append_right _ ?_)); done) | fail) rfl) | exact Z.Yd.load rfl Try.isAgg25 (fun _ => Z.cellO (by assumption) (by simp) (by assumption)) | fail "load 2.0") ?_
                    refine Z.tX 1 [1, 2, 3, 4, 10, 11] rfl rfl rfl (by rfl) (by kernel_rfl) ⟨_, hs, by first | (simp; done) | exact fun e he => List.mem_append_right _ he⟩ (by first | exact Z.Yd.load rfl Try.isAgg25 (fun _ => Z.cellB (by first | ((repeat (first | exact List.mem_cons_self | refine List.mem_cons_of_mem _ ?_ | refine List.mem_append_right _ ?_)); done) | fail) rfl) | exact Z.Yd.load rfl Try.isAgg25 (fun _ => Z.cellO (by assumption) (by simp) (by assumption)) | fail "load 2.1") ?_
                    refine Z.tX 2 [2, 3, 4, 10, 11] rfl rfl rfl (by rfl) (by kernel_rfl) ⟨_, hs, by first | (simp; done) | exact fun e he => List.mem_append_right _ he⟩ (Z.Yd.nilc rfl rfl) ?_
                    refine Z.tX 3 [3, 4, 10, 11] rfl rfl rfl (by rfl) (by kernel_rfl) ⟨_, hs, by first | (simp; done) | exact fun e he => List.mem_append_right _ he⟩ (Z.Yd.fieldA (m := 6) rfl (by kernel_rfl)) ?_
                    refine Z.tX 4 [4, 10, 11] rfl rfl rfl (by rfl) (by kernel_rfl) ⟨_, hs, by first | (simp; done) | exact fun e he => List.mem_append_right _ he⟩ (by first | exact Z.Yd.load rfl Try.isAgg3 (fun _ => Z.cellB (by first | ((repeat (first | exact List.mem_cons_self | refine List.mem_cons_of_mem _ ?_ | refine List.mem_append_right _ ?_)); done) | fail) rfl) | exact Z.Yd.load rfl Try.isAgg3 (fun _ => Z.cellO (by assumption) (by simp) (by assumption)) | fail "load 2.4") ?_
                    refine Z.tn 5 rfl rfl (by kernel_rfl) rfl trivial ?_
                    refine Z.ZO.quiet rfl (by rfl) (Z.keepS hs) (by first | exact Z.Yd.load rfl Try.isAgg25 (fun _ => Z.cellB (by first | ((repeat (first | exact List.mem_cons_self | refine List.mem_cons_of_mem _ ?_ | refine List.mem_append_right _ ?_)); done) | fail) rfl) | exact Z.Yd.load rfl Try.isAgg25 (fun _ => Z.cellO (by assumption) (by simp) (by assumption)) | fail "load 2.5") ?_
                    refine Z.tk (Dn := fun j => j != 11) (i := 5) (fun _ => ⟨_, hs, by first | (simp; done) | exact fun e he => List.mem_append_right _ he⟩) ?_
                    refine Z.tn 6 rfl rfl (by kernel_rfl) rfl trivial ?_
                    refine Z.ZO.quiet rfl (by rfl) (Z.keepS hs) (Z.Yd.nilc rfl rfl) ?_
                    refine Z.tk (Dn := fun j => j != 11) (i := 6) (fun _ => ⟨_, hs, by first | (simp; done) | exact fun e he => List.mem_append_right _ he⟩) ?_
                    refine Z.tn 7 rfl rfl (by kernel_rfl) rfl trivial ?_
                    refine Z.ZO.quiet rfl (by rfl) (Z.keepS hs) (Z.Yd.fieldA (m := 0) rfl (by kernel_rfl)) ?_
                    refine Z.tk (Dn := fun j => j != 11) (i := 7) (fun _ => ⟨_, hs, by first | (simp; done) | exact fun e he => List.mem_append_right _ he⟩) ?_
                    refine Z.tn 8 rfl rfl (by kernel_rfl) rfl trivial ?_
                    refine Z.ZO.quiet rfl (by rfl) (Z.keepS hs) (Z.Yd.fieldA (m := 3) rfl (by kernel_rfl)) ?_
                    refine Z.tk (Dn := fun j => j != 11) (i := 8) (fun _ => ⟨_, hs, by first | (simp; done) | exact fun e he => List.mem_append_right _ he⟩) ?_
                    refine Z.tn 9 rfl rfl (by kernel_rfl) rfl trivial ?_
                    refine Z.ZO.quiet rfl (by rfl) (Z.keepS hs) (by first | exact Z.Yd.load rfl Try.isAgg3 (fun _ => Z.cellB (by first | ((repeat (first | exact List.mem_cons_self | refine List.mem_cons_of_mem _ ?_ | refine List.mem_append_right _ ?_)); done) | fail) rfl) | exact Z.Yd.load rfl Try.isAgg3 (fun _ => Z.cellO (by assumption) (by simp) (by assumption)) | fail "load 2.9") ?_
                    refine Z.tk (Dn := fun j => j != 11) (i := 9) (fun _ => ⟨_, hs, by first | (simp; done) | exact fun e he => List.mem_append_right _ he⟩) ?_
                    refine Z.t 10 rfl rfl rfl (by rfl) (by kernel_rfl) ⟨_, hs, by first | (simp; done) | exact fun e he => List.mem_append_right _ he⟩ (Z.Yd.add rfl rfl (fun hG => Z.wi64 (by first | omega | (have hG' := Z.gh rfl hG; simp at hG'; omega)))) ?_
                    refine Z.tn 11 rfl rfl (by kernel_rfl) rfl trivial ?_
                    refine Z.ZO.call rfl rfl (by rfl) rfl rfl Try.call31 rfl (ac_enter g T { m with rn := r } 3 (m.now + m.con) _ (hs.lend (L1 := [_]))) ?_
                    rintro v2_11 w2_11 ⟨rfl, hz⟩
                    replace hs := hs.regain (L1 := [_]) hz
                    refine Z.tk (Dn := fun j => j != 11) (i := 11) (fun h => absurd h (by decide)) ?_
                    refine Z.td (by rfl) (by kernel_rfl) ?_
                    refine Z.only [] rfl ?_
                    refine Z.nblock ?_
                    refine Z.nthen ?_
                    refine Z.seq ?_
                    refine Z.region ?_
                    refine Z.lb 2 rfl ?_
                    refine Z.lnil ?_
                    refine Z.only [2, 3] rfl ?_
                    refine Z.nthen ?_
                    refine Z.ret ?_
                    -- ret#3
                    refine Z.out2 (by exact ⟨rfl, rfl, trivial⟩) ?_
                    exact ⟨_, rfl, rfl, hs⟩
                    )
              )
        )
theorem ac_answer (g T : Nat) (m : AcV) (t p r k : Int) (w : World) (hs : SX.St w (SX.idsOf [SX.Ent.blk g T m.cells.toArray]) w [SX.Ent.blk g T m.cells.toArray]) (hm : m.ok) :
    Calls Try.prog 13 #[.pointer (some ⟨g, 0, none⟩), .int .i64 t, .agg #[.int .i64 p, .int .i64 r, .int .i64 k]] w (SX.Ret fun v w' => v = .tuple #[.bool (answerV m t p r k).2.1, .int .i64 (answerV m t p r k).2.2] ∧ SX.St w (SX.idsOf [SX.Ent.blk g T m.cells.toArray]) w' [SX.Ent.blk g T (answerV m t p r k).1.cells.toArray]) := by
  generalize hM : SX.idsOf [SX.Ent.blk g T m.cells.toArray] = M at *
  obtain ⟨X, hX⟩ : ∃ X : Value × Int × AcV, X = if decide (okR p r k) = true ∧ okT t then (if (0 : Int) = 0 then (if (tickV m t).st ∈ [2] then (.bool (answerS (tickV m t) p r k).1, (answerS (tickV m t) p r k).2.1, (answerS (tickV m t) p r k).2.2) else (.bool false, 8, tickV m t)) else (.bool false, 0, m)) else (.bool false, 2, m) := ⟨_, rfl⟩
  have hE : X.1 = .bool (answerV m t p r k).2.1 ∧ X.2.1 = (answerV m t p r k).2.2 ∧ X.2.2 = (answerV m t p r k).1 := by
    rw [hX]
    by_cases h1 : okT t ∧ okR p r k
    · have hV : answerV m t p r k = if (tickV m t).st = 2 ∧ (tickV m t).frm ≤ (tickV m t).now then (if p = (tickV m t).pre then (if r = 0 then (failV { tickV m t with bnd := k }, true, 0) else ({ tickV m t with rn := r, st := 3, due := (tickV m t).now + (tickV m t).con }, true, 0)) else (tickV m t, false, 0)) else (tickV m t, false, 8) := if_pos h1
      rw [hV, if_pos ⟨decide_eq_true h1.2, h1.1⟩, if_pos rfl]
      by_cases h2 : (tickV m t).st = 2
      · rw [if_pos (show (tickV m t).st ∈ [2] by rw [h2]; decide)]
        unfold answerS
        by_cases h3 : (tickV m t).frm ≤ (tickV m t).now
        · rw [if_pos h3, if_pos (show (tickV m t).st = 2 ∧ (tickV m t).frm ≤ (tickV m t).now from ⟨h2, h3⟩)]
          split
          · split <;> exact ⟨rfl, rfl, rfl⟩
          · exact ⟨rfl, rfl, rfl⟩
        · rw [if_neg h3, if_neg (show ¬ ((tickV m t).st = 2 ∧ (tickV m t).frm ≤ (tickV m t).now) from fun h => h3 h.2)]
          exact ⟨rfl, rfl, rfl⟩
      · rw [if_neg (show ¬ (tickV m t).st ∈ [2] by simpa using h2), if_neg (show ¬ ((tickV m t).st = 2 ∧ (tickV m t).frm ≤ (tickV m t).now) from fun h => h2 h.1)]
        exact ⟨rfl, rfl, rfl⟩
    · have hV : answerV m t p r k = (m, false, 2) := if_neg h1
      rw [hV, if_neg (fun h => h1 ⟨h.2, of_decide_eq_true h.1⟩)]
      exact ⟨rfl, rfl, rfl⟩
  refine Z.enter Try.func13 rfl Try.ntmps13 rfl rfl ?_
  refine Z.seq ?_
  refine Z.region ?_
  refine Z.le rfl trivial ?_
  refine Z.ZO.box rfl rfl (by rfl) rfl rfl hs ?_
  clear hs; intro g3 w3 hs
  refine Z.le rfl trivial ?_
  refine Z.ZO.box rfl rfl (by rfl) rfl rfl hs ?_
  clear hs; intro g5 w5 hs
  refine Z.lb 2 rfl ?_
  refine Z.lnil ?_
  refine Z.only [1, 3, 5] rfl ?_
  refine Z.nthen ?_
  refine Z.seq ?_
  refine Z.cutt (ι := Nat) [1, 3, 5] rfl (fun _ => [(8, [], .bool (decide (okR p r k)))]) (fun _ wr => SX.St w M wr [SX.Ent.blk g5 36 #[.int .i64 p, .int .i64 r, .int .i64 k], SX.Ent.blk g3 25 #[.pointer (some ⟨g, 0, none⟩)], SX.Ent.blk g T m.cells.toArray]) ?_ ?_
  · skip
    refine Z.region ?_
    refine Z.l rfl rfl (by rfl) (Z.keepS hs) (Z.Yd.fieldA (m := 0) rfl (by kernel_rfl)) ?_
    refine Z.l rfl rfl (by rfl) (Z.keepS hs) (by first | exact Z.Yd.load rfl Try.isAgg3 (fun _ => Z.cellB (by first | ((repeat (first | exact List.mem_cons_self | refine List.mem_cons_of_mem _ ?_ | refine List.mem_append_right _ ?_)); done) | fail) rfl) | exact Z.Yd.load rfl Try.isAgg3 (fun _ => Z.cellO (by assumption) (by simp) (by assumption)) | fail "load 1.1") ?_
    refine Z.le rfl trivial ?_
    refine Z.ZO.call rfl rfl (by rfl) rfl rfl Try.call27 rfl (ac_inside p 0 63 _) ?_
    rintro v1_2 w1_2 ⟨rfl, hy⟩
    replace hs := hs.call hy
    clear hy
    try simp only [List.cons_append, List.nil_append, List.append_nil] at hs
    refine Z.lb 1 rfl ?_
    refine Z.split (s := 12) rfl (fun hsp12 => ?_) (fun hsp12 => ?_)
    · first
        | (exfalso; simp at hsp12 <;> omega)
        | (
          refine Z.yes (s := 12) (b := true) rfl hsp12 rfl ?_
          (try simp at hsp12)
          refine Z.l rfl rfl (by rfl) (Z.keepS hs) (Z.Yd.fieldA (m := 1) rfl (by kernel_rfl)) ?_
          refine Z.l rfl rfl (by rfl) (Z.keepS hs) (by first | exact Z.Yd.load rfl Try.isAgg3 (fun _ => Z.cellB (by first | ((repeat (first | exact List.mem_cons_self | refine List.mem_cons_of_mem _ ?_ | refine List.mem_append_right _ ?_)); done) | fail) rfl) | exact Z.Yd.load rfl Try.isAgg3 (fun _ => Z.cellO (by assumption) (by simp) (by assumption)) | fail "load 1.5") ?_
          refine Z.yes (s := 12) (b := true) rfl rfl rfl ?_
          refine Z.le rfl (by exact ⟨rfl, trivial⟩) ?_
          refine Z.ZO.call rfl rfl (by rfl) rfl rfl Try.call27 rfl (ac_inside r 0 65535 _) ?_
          rintro v1_6 w1_6 ⟨rfl, hy⟩
          replace hs := hs.call hy
          clear hy
          try simp only [List.cons_append, List.nil_append, List.append_nil] at hs
          refine Z.l rfl rfl (by rfl) (Z.keepS hs) (Z.Yd.pickT rfl rfl) ?_
          refine Z.lb 1 rfl ?_
          refine Z.split (s := 17) rfl (fun hsp17 => ?_) (fun hsp17 => ?_)
          · first
              | (exfalso; simp at hsp17 <;> omega)
              | (
                refine Z.yes (s := 17) (b := true) rfl hsp17 rfl ?_
                (try simp at hsp17)
                refine Z.l rfl rfl (by rfl) (Z.keepS hs) (Z.Yd.fieldA (m := 2) rfl (by kernel_rfl)) ?_
                refine Z.l rfl rfl (by rfl) (Z.keepS hs) (by first | exact Z.Yd.load rfl Try.isAgg3 (fun _ => Z.cellB (by first | ((repeat (first | exact List.mem_cons_self | refine List.mem_cons_of_mem _ ?_ | refine List.mem_append_right _ ?_)); done) | fail) rfl) | exact Z.Yd.load rfl Try.isAgg3 (fun _ => Z.cellO (by assumption) (by simp) (by assumption)) | fail "load 1.10") ?_
                refine Z.yes (s := 17) (b := true) rfl rfl rfl ?_
                refine Z.le rfl (by exact ⟨rfl, trivial⟩) ?_
                refine Z.ZO.call rfl rfl (by rfl) rfl rfl Try.call27 rfl (ac_inside k 0 960 _) ?_
                rintro v1_11 w1_11 ⟨rfl, hy⟩
                replace hs := hs.call hy
                clear hy
                try simp only [List.cons_append, List.nil_append, List.append_nil] at hs
                refine Z.l rfl rfl (by rfl) (Z.keepS hs) (Z.Yd.pickT rfl rfl) ?_
                refine Z.lb 1 rfl ?_
                refine Z.lnil ?_
                refine Z.only [1, 3, 5, 8] rfl ?_
                refine Z.nthen ?_
                exact Z.meet 0 (by refine ⟨?_, ?_, ?_, ?_, trivial⟩ <;> first | rfl | (refine Z.lookv rfl ?_; congr 1; first | exact (decide_eq_false (by unfold okR; omega)).symm | (rw [decide_eq_decide]; unfold okR; omega))) hs
                )
          · first
              | (exfalso; simp at hsp17 <;> omega)
              | (
                refine Z.yes (s := 17) (b := false) rfl hsp17 rfl ?_
                (try simp at hsp17)
                refine Z.ls rfl rfl rfl (by rfl) ?_
                refine Z.ls rfl rfl rfl (by rfl) ?_
                refine Z.ls rfl rfl rfl (by rfl) ?_
                refine Z.l rfl rfl (by rfl) (Z.keepS hs) (Z.Yd.pickF rfl rfl) ?_
                refine Z.lb 1 rfl ?_
                refine Z.lnil ?_
                refine Z.only [1, 3, 5, 8] rfl ?_
                refine Z.nthen ?_
                exact Z.meet 0 (by refine ⟨?_, ?_, ?_, ?_, trivial⟩ <;> first | rfl | (refine Z.lookv rfl ?_; congr 1; first | exact (decide_eq_false (by unfold okR; omega)).symm | (rw [decide_eq_decide]; unfold okR; omega))) hs
                )
          )
    · first
        | (exfalso; simp at hsp12 <;> omega)
        | (
          refine Z.yes (s := 12) (b := false) rfl hsp12 rfl ?_
          (try simp at hsp12)
          refine Z.ls rfl rfl rfl (by rfl) ?_
          refine Z.ls rfl rfl rfl (by rfl) ?_
          refine Z.ls rfl rfl rfl (by rfl) ?_
          refine Z.l rfl rfl (by rfl) (Z.keepS hs) (Z.Yd.pickF rfl rfl) ?_
          refine Z.lb 1 rfl ?_
          refine Z.split (s := 17) rfl (fun hsp17 => ?_) (fun hsp17 => ?_)
          · first
              | (exfalso; simp at hsp17 <;> omega)
              | (
                refine Z.yes (s := 17) (b := true) rfl hsp17 rfl ?_
                (try simp at hsp17)
                refine Z.l rfl rfl (by rfl) (Z.keepS hs) (Z.Yd.fieldA (m := 2) rfl (by kernel_rfl)) ?_
                refine Z.l rfl rfl (by rfl) (Z.keepS hs) (by first | exact Z.Yd.load rfl Try.isAgg3 (fun _ => Z.cellB (by first | ((repeat (first | exact List.mem_cons_self | refine List.mem_cons_of_mem _ ?_ | refine List.mem_append_right _ ?_)); done) | fail) rfl) | exact Z.Yd.load rfl Try.isAgg3 (fun _ => Z.cellO (by assumption) (by simp) (by assumption)) | fail "load 1.10") ?_
                refine Z.yes (s := 17) (b := true) rfl rfl rfl ?_
                refine Z.le rfl (by exact ⟨rfl, trivial⟩) ?_
                refine Z.ZO.call rfl rfl (by rfl) rfl rfl Try.call27 rfl (ac_inside k 0 960 _) ?_
                rintro v1_11 w1_11 ⟨rfl, hy⟩
                replace hs := hs.call hy
                clear hy
                try simp only [List.cons_append, List.nil_append, List.append_nil] at hs
                refine Z.l rfl rfl (by rfl) (Z.keepS hs) (Z.Yd.pickT rfl rfl) ?_
                refine Z.lb 1 rfl ?_
                refine Z.lnil ?_
                refine Z.only [1, 3, 5, 8] rfl ?_
                refine Z.nthen ?_
                exact Z.meet 0 (by refine ⟨?_, ?_, ?_, ?_, trivial⟩ <;> first | rfl | (refine Z.lookv rfl ?_; congr 1; first | exact (decide_eq_false (by unfold okR; omega)).symm | (rw [decide_eq_decide]; unfold okR; omega))) hs
                )
          · first
              | (exfalso; simp at hsp17 <;> omega)
              | (
                refine Z.yes (s := 17) (b := false) rfl hsp17 rfl ?_
                (try simp at hsp17)
                refine Z.ls rfl rfl rfl (by rfl) ?_
                refine Z.ls rfl rfl rfl (by rfl) ?_
                refine Z.ls rfl rfl rfl (by rfl) ?_
                refine Z.l rfl rfl (by rfl) (Z.keepS hs) (Z.Yd.pickF rfl rfl) ?_
                refine Z.lb 1 rfl ?_
                refine Z.lnil ?_
                refine Z.only [1, 3, 5, 8] rfl ?_
                refine Z.nthen ?_
                exact Z.meet 0 (by refine ⟨?_, ?_, ?_, ?_, trivial⟩ <;> first | rfl | (refine Z.lookv rfl ?_; congr 1; first | exact (decide_eq_false (by unfold okR; omega)).symm | (rw [decide_eq_decide]; unfold okR; omega))) hs
                )
          )
  · clear hs
    rintro _ w1 hs
    refine Z.only [1, 3, 5, 8] rfl ?_
    refine Z.seq ?_
    refine Z.region ?_
    refine Z.l rfl rfl (by rfl) (Z.keepS hs) (by first | exact Z.Yd.load rfl Try.isAgg25 (fun _ => Z.cellB (by first | ((repeat (first | exact List.mem_cons_self | refine List.mem_cons_of_mem _ ?_ | refine List.mem_append_right _ ?_)); done) | fail) rfl) | exact Z.Yd.load rfl Try.isAgg25 (fun _ => Z.cellO (by assumption) (by simp) (by assumption)) | fail "load 2.0") ?_
    refine Z.lb 3 rfl ?_
    refine Z.le rfl trivial ?_
    refine Z.ZO.litL (T' := 44) [(0, 1)] [.int .i64 0] rfl rfl (by rfl) rfl rfl (by intro W; kernel_rfl) hs ?_
    clear hs; intro g26 w26 hs
    replace hs : SX.St w M _ ([SX.Ent.blk g T m.cells.toArray, SX.Ent.blk g3 _ _, SX.Ent.blk g5 _ _] ++ [_]) := hs.sel [3, 2, 1, 0] (by decide)
    refine Z.le rfl trivial ?_
    refine Z.ZO.call rfl rfl (by rfl) rfl rfl Try.call29 rfl (ac_timedB g T [SX.Ent.blk g3 _ _, SX.Ent.blk g5 _ _] m t (decide (okR p r k)) 0 34 _ _ _ _ [2] _ hs.lend hm (by have h0 := Z.blk_lentj hs (j := 0) rfl; exact h0) rfl (by decide) Try.call34 _ _ _ (fun hd ht _ _ W hW ↦ ac_answer1 g T g3 _ g5 _ (tickV m t) p r k W hW.all (hm.tick ht) (by simpa using hd)) X.1 X.2.1 X.2.2 hX) ?_
    rintro v2_5 w2_5 ⟨rfl, hz⟩
    replace hs := hs.regain hz
    rw [hE.2.2] at hs
    rw [hE.1, hE.2.1]
    refine Z.lb 4 rfl ?_
    refine Z.lnil ?_
    refine Z.only [6, 7] rfl ?_
    refine Z.nthen ?_
    refine Z.ret ?_
    -- ret#0
    refine Z.out2 (by exact ⟨rfl, rfl, trivial⟩) ?_
    exact ⟨_, rfl, rfl, hs.sel [0] (by decide)⟩
/-- an identity's part in memory of its own -/
def OwnPt (lc : Int) (l : List Int) (v : Value) (w w' : World) : Prop := ∃ B c co, v = .agg #[.int .i64 lc, .slice B l.length c] ∧ SX.St w [] w' [SX.Ent.row (.slice B l.length co) 5 1 l.length (ints .u8 l)]
theorem msgL_len (m : AcV) : (msgL m).length ≤ 6 := by unfold msgL; split <;> simp
theorem msgL_by (m : AcV) : ∀ x ∈ msgL m, 0 ≤ x ∧ x < 256 := by
  unfold msgL
  split
  · exact be_bytes _ _
  · exact be_bytes _ _
theorem ac_message (g : Nat) (m : AcV) (w : World) (hc : Cel w g m.cells) (hf : m.cfg) :
    Calls Try.prog 37 #[.pointer (some ⟨g, 0, none⟩)] w (SX.Ret fun v w' => ∃ u, v = .tuple #[u, .int .i64 0] ∧ OwnPt (msgC m) (msgL m) u w w') := by
  have hs := SX.St.start w
  obtain ⟨h1, h2, -⟩ := hf
  obtain ⟨idn, hid⟩ := Int.eq_ofNat_of_zero_le h1.1
  obtain ⟨rtn, hrt⟩ := Int.eq_ofNat_of_zero_le h2.1
  refine Z.enter Try.func37 rfl Try.ntmps37 rfl rfl ?_
  refine Z.seq ?_
  refine Z.region ?_
  refine Z.le rfl trivial ?_
  refine Z.ZO.alloc rfl rfl (by rfl) Try.zeroValue40 rfl hs ?_
  clear hs; intro g2 w2 hs
  refine Z.lb 1 rfl ?_
  refine Z.lnil ?_
  refine Z.only [0, 2] rfl ?_
  refine Z.nthen ?_
  refine Z.seq ?_
  refine Z.seq ?_
  refine Z.region ?_
  refine Z.lb 1 rfl ?_
  refine Z.l rfl rfl (by rfl) (Z.keepS hs) (Z.Yd.nilc rfl rfl) ?_
  refine Z.l rfl rfl (by rfl) (Z.keepS hs) (Z.Yd.fieldA (m := 0) rfl (by kernel_rfl)) ?_
  refine Z.l rfl rfl (by rfl) (Z.keepS hs) (Z.Yd.fieldA (m := 1) rfl (by kernel_rfl)) ?_
  refine Z.l rfl rfl (by rfl) (Z.keepS hs) (Z.Yd.load rfl Try.isAgg3 (fun _ => Z.cellO hc.1 (by simp) (hc.2 1 _ rfl))) ?_
  refine Z.lb 1 rfl ?_
  refine Z.lnil ?_
  refine Z.only [0, 2, 9] rfl ?_
  refine Z.nthen ?_
  refine Z.cond rfl (fun hc1 => ?_) (fun hc1 => ?_)
  · first
      | (exfalso; simp at hc1 <;> omega)
      | (
        (try simp at hc1)
        have e1 : msgC m = 27 := if_neg (by assumption)
        have e2 : msgL m = be 2 m.rnt := if_neg (by assumption)
        rw [e1, e2]
        refine Z.seq ?_
        refine Z.region ?_
        refine Z.lb 1 rfl ?_
        refine Z.l rfl rfl (by rfl) (Z.keepS hs) (Z.Yd.nilc rfl rfl) ?_
        refine Z.l rfl rfl (by rfl) (Z.keepS hs) (Z.Yd.fieldA (m := 0) rfl (by kernel_rfl)) ?_
        refine Z.l rfl rfl (by rfl) (Z.keepS hs) (Z.Yd.fieldA (m := 1) rfl (by kernel_rfl)) ?_
        refine Z.l rfl rfl (by rfl) (Z.keepS hs) (Z.Yd.load rfl Try.isAgg3 (fun _ => Z.cellO hc.1 (by simp) (hc.2 1 _ rfl))) ?_
        refine Z.l rfl rfl (by rfl) (Z.keepS hs) (Z.Yd.convI rfl ⟨_, Try.underlying3⟩ Try.underlying22 (fun hG => Z.wu64 (by first | omega | (have hG' := Z.gh rfl hG; simp at hG'; omega)))) ?_
        rw [hrt]
        refine Z.le rfl trivial ?_
        refine Z.ZO.call rfl rfl (by rfl) rfl rfl Try.call50 rfl (encid_ok 27 rtn _ (by omega) (.inl rfl) (by show rtn / 65536 = 0; omega)) ?_
        rintro v2_6 w2_6 ⟨u, rfl, B, co, rfl, hy⟩
        replace hs := hs.call hy
        clear hy
        try simp only [List.cons_append, List.nil_append, List.append_nil] at hs
        refine Z.lb 2 rfl ?_
        refine Z.le rfl trivial ?_
        first | refine Z.ZO.storeA rfl rfl hs rfl rfl (by kernel_rfl) (by first | (simp [Value.oneCell']; done) | (refine Z.all_one ?_; assumption)) (by first | exact SX.at0 | exact SX.at1 | exact SX.at2 | exact SX.at3 | exact SX.at4 | exact SX.at5 | exact Z.at6 | exact Z.at7 | exact Z.at8 | exact Z.at9 | exact Z.at10 | exact Z.at11 | exact Z.at12) (by rfl) ?_ | refine Z.ZO.storeP rfl rfl hs rfl rfl (by kernel_rfl) (by first | (simp [Value.oneCell']; done) | (refine Z.all_one ?_; assumption)) (by first | exact SX.at0 | exact SX.at1 | exact SX.at2 | exact SX.at3 | exact SX.at4 | exact SX.at5 | exact Z.at6 | exact Z.at7 | exact Z.at8 | exact Z.at9 | exact Z.at10 | exact Z.at11 | exact Z.at12) (by first | decide | (simp; done) | (simp; omega)) ?_ | refine Z.ZO.storePR rfl rfl hs rfl rfl (by kernel_rfl) (by first | (simp [Value.oneCell']; done) | (refine Z.all_one ?_; assumption)) (by first | exact SX.at0 | exact SX.at1 | exact SX.at2 | exact SX.at3 | exact SX.at4 | exact SX.at5 | exact Z.at6 | exact Z.at7 | exact Z.at8 | exact Z.at9 | exact Z.at10 | exact Z.at11 | exact Z.at12) (by first | decide | (simp; done) | (simp; omega)) ?_
        clear hs; intro ws hs
        simp only [Nat.zero_add, Nat.add_zero, Nat.reduceAdd, Int.reduceToNat, Nat.reduceMul, List.set_cons_zero, List.set_cons_succ, List.setIfInBounds_toArray] at hs
        try simp only [Z.putL, Nat.zero_add] at hs
        refine Z.lb 1 rfl ?_
        refine Z.lnil ?_
        refine Z.only [2, 3] rfl ?_
        refine Z.nthen ?_
        refine Z.ret ?_
        repeat (first | refine Z.rthen ?_ | refine Z.rblock ?_ | refine Z.rscope ?_)
        -- ret#0
        refine Z.out2 (by exact ⟨⟨_, rfl, Z.rvcA hs Try.isAgg40 (by first | ((repeat (first | exact List.mem_cons_self | refine List.mem_cons_of_mem _ ?_ | refine List.mem_append_right _ ?_)); done) | fail) (by exact Try.sizeOf40)⟩, rfl, trivial⟩) ?_
        exact ⟨_, rfl, _, rfl, B, _, co, rfl, hs.sel [0] (by decide)⟩
        )
  · first
      | (exfalso; simp at hc1 <;> omega)
      | (
        (try simp at hc1)
        have e1 : msgC m = 28 := if_pos (by assumption)
        have e2 : msgL m = be 6 m.id := if_pos (by assumption)
        rw [e1, e2]
        refine Z.skip ?_
        refine Z.nthen ?_
        refine Z.seq ?_
        refine Z.region ?_
        refine Z.lb 1 rfl ?_
        refine Z.l rfl rfl (by rfl) (Z.keepS hs) (Z.Yd.nilc rfl rfl) ?_
        refine Z.l rfl rfl (by rfl) (Z.keepS hs) (Z.Yd.fieldA (m := 0) rfl (by kernel_rfl)) ?_
        refine Z.l rfl rfl (by rfl) (Z.keepS hs) (Z.Yd.fieldA (m := 0) rfl (by kernel_rfl)) ?_
        refine Z.l rfl rfl (by rfl) (Z.keepS hs) (Z.Yd.load rfl Try.isAgg22 (fun _ => Z.cellO hc.1 (by simp) (hc.2 0 _ rfl))) ?_
        rw [hid]
        refine Z.le rfl trivial ?_
        refine Z.ZO.call rfl rfl (by rfl) rfl rfl Try.call50 rfl (encid_ok 28 idn _ (by omega) (.inr rfl) (by show idn / 281474976710656 = 0; omega)) ?_
        rintro v3_5 w3_5 ⟨u, rfl, B, co, rfl, hy⟩
        replace hs := hs.call hy
        clear hy
        try simp only [List.cons_append, List.nil_append, List.append_nil] at hs
        refine Z.lb 2 rfl ?_
        refine Z.le rfl trivial ?_
        first | refine Z.ZO.storeA rfl rfl hs rfl rfl (by kernel_rfl) (by first | (simp [Value.oneCell']; done) | (refine Z.all_one ?_; assumption)) (by first | exact SX.at0 | exact SX.at1 | exact SX.at2 | exact SX.at3 | exact SX.at4 | exact SX.at5 | exact Z.at6 | exact Z.at7 | exact Z.at8 | exact Z.at9 | exact Z.at10 | exact Z.at11 | exact Z.at12) (by rfl) ?_ | refine Z.ZO.storeP rfl rfl hs rfl rfl (by kernel_rfl) (by first | (simp [Value.oneCell']; done) | (refine Z.all_one ?_; assumption)) (by first | exact SX.at0 | exact SX.at1 | exact SX.at2 | exact SX.at3 | exact SX.at4 | exact SX.at5 | exact Z.at6 | exact Z.at7 | exact Z.at8 | exact Z.at9 | exact Z.at10 | exact Z.at11 | exact Z.at12) (by first | decide | (simp; done) | (simp; omega)) ?_ | refine Z.ZO.storePR rfl rfl hs rfl rfl (by kernel_rfl) (by first | (simp [Value.oneCell']; done) | (refine Z.all_one ?_; assumption)) (by first | exact SX.at0 | exact SX.at1 | exact SX.at2 | exact SX.at3 | exact SX.at4 | exact SX.at5 | exact Z.at6 | exact Z.at7 | exact Z.at8 | exact Z.at9 | exact Z.at10 | exact Z.at11 | exact Z.at12) (by first | decide | (simp; done) | (simp; omega)) ?_
        clear hs; intro ws hs
        simp only [Nat.zero_add, Nat.add_zero, Nat.reduceAdd, Int.reduceToNat, Nat.reduceMul, List.set_cons_zero, List.set_cons_succ, List.setIfInBounds_toArray] at hs
        try simp only [Z.putL, Nat.zero_add] at hs
        refine Z.lb 1 rfl ?_
        refine Z.lnil ?_
        refine Z.only [2, 3] rfl ?_
        refine Z.nthen ?_
        refine Z.ret ?_
        -- ret#1
        refine Z.out2 (by exact ⟨⟨_, rfl, Z.rvcA hs Try.isAgg40 (by first | ((repeat (first | exact List.mem_cons_self | refine List.mem_cons_of_mem _ ?_ | refine List.mem_append_right _ ?_)); done) | fail) (by exact Try.sizeOf40)⟩, rfl, trivial⟩) ?_
        exact ⟨_, rfl, _, rfl, B, _, co, rfl, hs.sel [0] (by decide)⟩
        )
theorem ac_Message (g : Nat) (m : AcV) (w : World) (hc : Cel w g m.cells) (hf : m.cfg) :
    Calls Try.prog 15 #[.pointer (some ⟨g, 0, none⟩)] w (SX.Ret fun v w' => if m.st = 3 then ∃ u, v = .tuple #[u, .int .i64 0] ∧ OwnPt (msgC m) (msgL m) u w w' else v = .tuple #[.agg #[.int .i64 0, .slice none 0 0], .int .i64 8] ∧ SX.St w [] w' []) := by
  have hs := SX.St.start w
  have hmax : m.max ≠ 0 := by have := hf.2.2.2.2; omega
  by_cases h3 : m.st = 3
  · simp only [if_pos h3]
    refine Z.enter Try.func15 rfl Try.ntmps15 rfl rfl ?_
    refine Z.seq ?_
    refine Z.region ?_
    refine Z.le rfl trivial ?_
    refine Z.ZO.alloc rfl rfl (by rfl) Try.zeroValue40 rfl hs ?_
    clear hs; intro g2 w2 hs
    refine Z.lb 1 rfl ?_
    refine Z.lnil ?_
    refine Z.only [0, 2] rfl ?_
    refine Z.nthen ?_
    refine Z.seq ?_
    refine Z.block ?_
    refine Z.seq ?_
    refine Z.region ?_
    refine Z.lb 1 rfl ?_
    refine Z.le rfl trivial ?_
    refine Z.ZO.call rfl rfl (by rfl) rfl rfl Try.call36 rfl (ac_none g m _ (hc.st (hs.sub (List.nil_sublist _))) hmax) ?_
    rintro v1_1 w1_1 ⟨rfl, hy⟩
    replace hs := hs.call hy
    clear hy
    try simp only [List.cons_append, List.nil_append, List.append_nil] at hs
    refine Z.lb 1 rfl ?_
    refine Z.lnil ?_
    refine Z.only [0, 2, 4] rfl ?_
    refine Z.nthen ?_
    refine Z.cond rfl (fun h => absurd h (by simp)) (fun hc1 => ?_)
    refine Z.seq ?_
    refine Z.region ?_
    refine Z.lb 1 rfl ?_
    refine Z.l rfl rfl (by rfl) (Z.keepS hs) (Z.Yd.nilc rfl rfl) ?_
    refine Z.l rfl rfl (by rfl) (Z.keepS hs) (Z.Yd.fieldA (m := 5) rfl (by kernel_rfl)) ?_
    refine Z.l rfl rfl (by rfl) (Z.keepS hs) (Z.Yd.load rfl Try.isAgg44 (fun _ => Z.cellO hc.1 (by simp) (hc.2 5 _ rfl))) ?_
    refine Z.lb 2 rfl ?_
    refine Z.lnil ?_
    refine Z.only [0, 2, 8] rfl ?_
    refine Z.nthen ?_
    refine Z.cond rfl (fun h => absurd h (by simp [h3])) (fun hc3 => ?_)
    refine Z.skip ?_
    refine Z.nblock ?_
    refine Z.nthen ?_
    refine Z.seq ?_
    refine Z.region ?_
    refine Z.lb 1 rfl ?_
    refine Z.le rfl trivial ?_
    refine Z.ZO.call rfl rfl (by rfl) rfl rfl Try.call37 rfl (ac_message g m _ (hc.st (hs.sub (List.nil_sublist _))) hf) ?_
    rintro v5_1 w5_1 ⟨u, rfl, B, cc, co, rfl, hy⟩
    replace hs := hs.call hy
    clear hy
    try simp only [List.cons_append, List.nil_append, List.append_nil] at hs
    refine Z.lb 2 rfl ?_
    refine Z.le rfl trivial ?_
    first | refine Z.ZO.storeA rfl rfl hs rfl rfl (by kernel_rfl) (by first | (simp [Value.oneCell']; done) | (refine Z.all_one ?_; assumption)) (by first | exact SX.at0 | exact SX.at1 | exact SX.at2 | exact SX.at3 | exact SX.at4 | exact SX.at5 | exact Z.at6 | exact Z.at7 | exact Z.at8 | exact Z.at9 | exact Z.at10 | exact Z.at11 | exact Z.at12) (by rfl) ?_ | refine Z.ZO.storeP rfl rfl hs rfl rfl (by kernel_rfl) (by first | (simp [Value.oneCell']; done) | (refine Z.all_one ?_; assumption)) (by first | exact SX.at0 | exact SX.at1 | exact SX.at2 | exact SX.at3 | exact SX.at4 | exact SX.at5 | exact Z.at6 | exact Z.at7 | exact Z.at8 | exact Z.at9 | exact Z.at10 | exact Z.at11 | exact Z.at12) (by first | decide | (simp; done) | (simp; omega)) ?_ | refine Z.ZO.storePR rfl rfl hs rfl rfl (by kernel_rfl) (by first | (simp [Value.oneCell']; done) | (refine Z.all_one ?_; assumption)) (by first | exact SX.at0 | exact SX.at1 | exact SX.at2 | exact SX.at3 | exact SX.at4 | exact SX.at5 | exact Z.at6 | exact Z.at7 | exact Z.at8 | exact Z.at9 | exact Z.at10 | exact Z.at11 | exact Z.at12) (by first | decide | (simp; done) | (simp; omega)) ?_
    clear hs; intro ws hs
    simp only [Nat.zero_add, Nat.add_zero, Nat.reduceAdd, Int.reduceToNat, Nat.reduceMul, List.set_cons_zero, List.set_cons_succ, List.setIfInBounds_toArray] at hs
    try simp only [Z.putL, Nat.zero_add] at hs
    refine Z.lb 1 rfl ?_
    refine Z.lnil ?_
    refine Z.only [2, 3] rfl ?_
    refine Z.nthen ?_
    refine Z.ret ?_
    -- ret#0
    refine Z.out2 (by exact ⟨⟨_, rfl, Z.rvcA hs Try.isAgg40 (by first | ((repeat (first | exact List.mem_cons_self | refine List.mem_cons_of_mem _ ?_ | refine List.mem_append_right _ ?_)); done) | fail) (by exact Try.sizeOf40)⟩, rfl, trivial⟩) ?_
    exact ⟨_, rfl, _, rfl, B, cc, co, rfl, hs.sel [0] (by decide)⟩
  · simp only [if_neg h3]
    refine Z.enter Try.func15 rfl Try.ntmps15 rfl rfl ?_
    refine Z.seq ?_
    refine Z.region ?_
    refine Z.le rfl trivial ?_
    refine Z.ZO.alloc rfl rfl (by rfl) Try.zeroValue40 rfl hs ?_
    clear hs; intro g2 w2 hs
    refine Z.lb 1 rfl ?_
    refine Z.lnil ?_
    refine Z.only [0, 2] rfl ?_
    refine Z.nthen ?_
    refine Z.seq ?_
    refine Z.block ?_
    refine Z.seq ?_
    refine Z.region ?_
    refine Z.lb 1 rfl ?_
    refine Z.le rfl trivial ?_
    refine Z.ZO.call rfl rfl (by rfl) rfl rfl Try.call36 rfl (ac_none g m _ (hc.st (hs.sub (List.nil_sublist _))) hmax) ?_
    rintro v1_1 w1_1 ⟨rfl, hy⟩
    replace hs := hs.call hy
    clear hy
    try simp only [List.cons_append, List.nil_append, List.append_nil] at hs
    refine Z.lb 1 rfl ?_
    refine Z.lnil ?_
    refine Z.only [0, 2, 4] rfl ?_
    refine Z.nthen ?_
    refine Z.cond rfl (fun h => absurd h (by simp)) (fun hc1 => ?_)
    refine Z.seq ?_
    refine Z.region ?_
    refine Z.lb 1 rfl ?_
    refine Z.l rfl rfl (by rfl) (Z.keepS hs) (Z.Yd.nilc rfl rfl) ?_
    refine Z.l rfl rfl (by rfl) (Z.keepS hs) (Z.Yd.fieldA (m := 5) rfl (by kernel_rfl)) ?_
    refine Z.l rfl rfl (by rfl) (Z.keepS hs) (Z.Yd.load rfl Try.isAgg44 (fun _ => Z.cellO hc.1 (by simp) (hc.2 5 _ rfl))) ?_
    refine Z.lb 2 rfl ?_
    refine Z.lnil ?_
    refine Z.only [0, 2, 8] rfl ?_
    refine Z.nthen ?_
    refine Z.cond rfl (fun hc3 => ?_) (fun h => absurd h (by simpa using h3))
    refine Z.seq ?_
    refine Z.region ?_
    refine Z.l rfl rfl (by rfl) (Z.keepS hs) (Z.Yd.buildL [(0, 1), (1, 1)] [.int .i64 0, .slice none 0 0] rfl rfl (by intro w; kernel_rfl)) ?_
    refine Z.le rfl trivial ?_
    first | refine Z.ZO.storeA rfl rfl hs rfl rfl (by kernel_rfl) (by first | (simp [Value.oneCell']; done) | (refine Z.all_one ?_; assumption)) (by first | exact SX.at0 | exact SX.at1 | exact SX.at2 | exact SX.at3 | exact SX.at4 | exact SX.at5 | exact Z.at6 | exact Z.at7 | exact Z.at8 | exact Z.at9 | exact Z.at10 | exact Z.at11 | exact Z.at12) (by rfl) ?_ | refine Z.ZO.storeP rfl rfl hs rfl rfl (by kernel_rfl) (by first | (simp [Value.oneCell']; done) | (refine Z.all_one ?_; assumption)) (by first | exact SX.at0 | exact SX.at1 | exact SX.at2 | exact SX.at3 | exact SX.at4 | exact SX.at5 | exact Z.at6 | exact Z.at7 | exact Z.at8 | exact Z.at9 | exact Z.at10 | exact Z.at11 | exact Z.at12) (by first | decide | (simp; done) | (simp; omega)) ?_ | refine Z.ZO.storePR rfl rfl hs rfl rfl (by kernel_rfl) (by first | (simp [Value.oneCell']; done) | (refine Z.all_one ?_; assumption)) (by first | exact SX.at0 | exact SX.at1 | exact SX.at2 | exact SX.at3 | exact SX.at4 | exact SX.at5 | exact Z.at6 | exact Z.at7 | exact Z.at8 | exact Z.at9 | exact Z.at10 | exact Z.at11 | exact Z.at12) (by first | decide | (simp; done) | (simp; omega)) ?_
    clear hs; intro ws hs
    simp only [Nat.zero_add, Nat.add_zero, Nat.reduceAdd, Int.reduceToNat, Nat.reduceMul, List.set_cons_zero, List.set_cons_succ, List.setIfInBounds_toArray] at hs
    try simp only [Z.putL, Nat.zero_add] at hs
    refine Z.lb 1 rfl ?_
    refine Z.lnil ?_
    refine Z.only [2, 3] rfl ?_
    refine Z.nthen ?_
    refine Z.ret ?_
    repeat (first | refine Z.rthen ?_ | refine Z.rblock ?_ | refine Z.rscope ?_)
    -- ret#0
    refine Z.out2 (by exact ⟨⟨_, rfl, Z.rvcA hs Try.isAgg40 (by first | ((repeat (first | exact List.mem_cons_self | refine List.mem_cons_of_mem _ ?_ | refine List.mem_append_right _ ?_)); done) | fail) (by exact Try.sizeOf40)⟩, rfl, trivial⟩) ?_
    exact ⟨_, rfl, rfl, hs.sub (List.nil_sublist _)⟩
theorem ac_eqb (A B : Option Addr) (n c m d : Nat) (l k : List Int) (w : World) (hx : Sl w A (ints .u8 l)) (hy : Sl w B (ints .u8 k)) (hl : l.length = n) (hk : k.length = m) (hn : n ≤ 9223372036854775807) :
    Calls Try.prog 40 #[.slice A n c, .slice B m d] w (SX.Ret fun v w' => v = .bool (decide (l = k)) ∧ SX.St w [] w' []) := by
  have hs := SX.St.start w
  refine Z.enter Try.func40 rfl Try.ntmps40 rfl rfl ?_
  refine Z.seq ?_
  refine Z.region ?_
  refine Z.lb 1 rfl ?_
  refine Z.lnil ?_
  refine Z.only [0, 1] rfl ?_
  refine Z.nthen ?_
  refine Z.seq ?_
  refine Z.seq ?_
  refine Z.region ?_
  refine Z.lb 1 rfl ?_
  refine Z.l rfl rfl (by rfl) (Z.keepS hs) (Z.Yd.lenS rfl Try.underlying38) ?_
  refine Z.lb 1 rfl ?_
  refine Z.l rfl rfl (by rfl) (Z.keepS hs) (Z.Yd.lenS rfl Try.underlying38) ?_
  refine Z.lb 1 rfl ?_
  refine Z.lnil ?_
  refine Z.only [0, 1, 10] rfl ?_
  refine Z.nthen ?_
  refine Z.cond rfl (fun hc1 => ?_) (fun hc1 => ?_)
  · first
      | (exfalso; simp at hc1 <;> omega)
      | (
        (try simp at hc1)
        refine Z.seq ?_
        refine Z.region ?_
        refine Z.lb 1 rfl ?_
        refine Z.lnil ?_
        refine Z.only [4] rfl ?_
        refine Z.nthen ?_
        refine Z.ret ?_
        repeat (first | refine Z.rthen ?_ | refine Z.rblock ?_ | refine Z.rscope ?_)
        -- ret#0
        refine Z.out1 (by exact ⟨rfl, trivial⟩) ?_
        refine ⟨_, rfl, ?_, hs.sub (List.nil_sublist _)⟩
        first
        | exact congrArg Value.bool (decide_eq_false (fun h => by rw [h, e2] at e1; simp_all)).symm
        | exact congrArg Value.bool (decide_eq_true ht).symm
        | exact congrArg Value.bool (decide_eq_false (fun h => by have hlk := congrArg List.length h; simp_all)).symm
        )
  · first
      | (exfalso; simp at hc1 <;> omega)
      | (
        (try simp at hc1)
        refine Z.skip ?_
        refine Z.nthen ?_
        refine Z.seq ?_
        refine Z.seq ?_
        refine Z.region ?_
        refine Z.lb 1 rfl ?_
        refine Z.l rfl rfl (by rfl) (Z.keepS hs) (Z.Yd.lenS rfl Try.underlying38) ?_
        refine Z.lb 1 rfl ?_
        refine Z.lnil ?_
        refine Z.only [0, 1, 12, 13] rfl ?_
        refine Z.nthen ?_
        refine Z.block ?_
        refine Z.loopk (ι := Nat) [0, 1, 12] rfl (fun i => [(13, [], .int .i64 (i : Int))]) (fun i wr => (i ≤ n ∧ n = m ∧ l.take i = k.take i) ∧ SX.St w [] wr []) (fun i => n - i) 0 (by refine ⟨?_, trivial⟩ <;> (first | rfl | (refine Z.lookv rfl ?_; simp; done) | (refine Z.lookv rfl ?_; simp; omega))) ⟨⟨by omega, by first | omega | simp_all, rfl⟩, hs⟩ ?_
        clear hs
        rintro i w4 ⟨⟨hi, hnm, ht⟩, hs⟩
        refine Z.only [0, 1, 12, 13] rfl ?_
        refine Z.seq ?_
        refine Z.region ?_
        refine Z.lb 1 rfl ?_
        refine Z.lnil ?_
        refine Z.only [0, 1, 12, 13, 14] rfl ?_
        refine Z.nthen ?_
        refine Z.seq ?_
        refine Z.cond rfl (fun hc4 => ?_) (fun hc4 => ?_)
        · first
            | (exfalso; simp at hc4 <;> omega)
            | (
              (try simp at hc4)
              obtain ⟨b, off, rfl, hb1, hx2⟩ := Z.Sl.some hx (by simp [ints]; omega)
              obtain ⟨b', off', rfl, hb2, hy2⟩ := Z.Sl.some hy (by simp [ints]; omega)
              have e1 : l[i]? = some (elt l (i : Int)) := by simp [elt, show i < l.length from by omega]
              have e2 : k[i]? = some (elt k (i : Int)) := by simp [elt, show i < k.length from by omega]
              refine Z.skip ?_
              refine Z.nthen ?_
              refine Z.seq ?_
              refine Z.block ?_
              refine Z.seq ?_
              refine Z.region ?_
              refine Z.lb 2 rfl ?_
              refine Z.lnil ?_
              refine Z.only [0, 1, 5, 12, 13] rfl ?_
              refine Z.nthen ?_
              refine Z.seq ?_
              refine Z.drawK (fun _ => true) mixed hs ?_
              clear hs; intro wd6 hs
              refine Z.tb [0, 1] (by kernel_rfl) rfl ⟨_, hs, by first | (simp; done) | exact fun e he => List.mem_append_right _ he⟩ rfl ?_
              refine Z.t 2 rfl rfl rfl (by rfl) (by kernel_rfl) ⟨_, hs, by first | (simp; done) | exact fun e he => List.mem_append_right _ he⟩ (Z.Yd.elem rfl rfl Try.underlying38 Try.sizeOf5 (fun hG => ⟨(by first | omega | (have hG' := Z.gh rfl hG; simp at hG'; omega)), (by first | omega | (have hG' := Z.gh rfl hG; simp at hG'; omega))⟩)) ?_
              refine Z.t 3 rfl rfl rfl (by rfl) (by kernel_rfl) ⟨_, hs, by first | (simp; done) | exact fun e he => List.mem_append_right _ he⟩ (Z.Yd.load rfl Try.isAgg5 (fun hG => Z.cellS hx2 rfl (by first | omega | (have hG' := Z.gh rfl hG; simp at hG'; omega)) (by first | omega | (have hG' := Z.gh rfl hG; simp at hG'; omega)))) ?_
              refine Z.tb [4, 5] (by kernel_rfl) rfl ⟨_, hs, by first | (simp; done) | exact fun e he => List.mem_append_right _ he⟩ rfl ?_
              refine Z.t 6 rfl rfl rfl (by rfl) (by kernel_rfl) ⟨_, hs, by first | (simp; done) | exact fun e he => List.mem_append_right _ he⟩ (Z.Yd.elem rfl rfl Try.underlying38 Try.sizeOf5 (fun hG => ⟨(by first | omega | (have hG' := Z.gh rfl hG; simp at hG'; omega)), (by first | omega | (have hG' := Z.gh rfl hG; simp at hG'; omega))⟩)) ?_
              refine Z.t 7 rfl rfl rfl (by rfl) (by kernel_rfl) ⟨_, hs, by first | (simp; done) | exact fun e he => List.mem_append_right _ he⟩ (Z.Yd.load rfl Try.isAgg5 (fun hG => Z.cellS hy2 rfl (by first | omega | (have hG' := Z.gh rfl hG; simp at hG'; omega)) (by first | omega | (have hG' := Z.gh rfl hG; simp at hG'; omega)))) ?_
              refine Z.tb [8] (by kernel_rfl) rfl ⟨_, hs, by first | (simp; done) | exact fun e he => List.mem_append_right _ he⟩ rfl ?_
              refine Z.td (by rfl) (by kernel_rfl) ?_
              refine Z.only [0, 1, 12, 13, 24] rfl ?_
              refine Z.nthen ?_
              refine Z.cond rfl (fun hc6 => ?_) (fun hc6 => ?_)
              · first
                  | (exfalso; simp at hc6 <;> omega)
                  | (
                    (try simp at hc6)
                    refine Z.seq ?_
                    refine Z.region ?_
                    refine Z.lb 1 rfl ?_
                    refine Z.lnil ?_
                    refine Z.only [4] rfl ?_
                    refine Z.nthen ?_
                    refine Z.ret ?_
                    repeat (first | refine Z.rthen ?_ | refine Z.rblock ?_ | refine Z.rscope ?_)
                    -- ret#1
                    refine Z.out1 (by exact ⟨rfl, trivial⟩) ?_
                    refine ⟨_, rfl, ?_, hs.sub (List.nil_sublist _)⟩
                    first
                    | exact congrArg Value.bool (decide_eq_false (fun h => by rw [h, e2] at e1; simp_all)).symm
                    | exact congrArg Value.bool (decide_eq_true ht).symm
                    | exact congrArg Value.bool (decide_eq_false (fun h => by have hlk := congrArg List.length h; simp_all)).symm
                    )
              · first
                  | (exfalso; simp at hc6 <;> omega)
                  | (
                    (try simp at hc6)
                    refine Z.skip ?_
                    refine Z.nblock ?_
                    refine Z.nthen ?_
                    refine Z.region ?_
                    refine Z.l rfl rfl (by rfl) (Z.keepS hs) (Z.Yd.add rfl rfl (fun hG => Z.wi64 (by first | omega | (have hG' := Z.gh rfl hG; simp at hG'; omega)))) ?_
                    refine Z.lb 1 rfl ?_
                    refine Z.lnil ?_
                    refine Z.only [0, 1, 12, 13] rfl ?_
                    refine Z.nthen ?_
                    refine Z.again (i + 1) (by refine ⟨?_, ?_, ?_, ?_, trivial⟩ <;> (first | rfl | (refine Z.lookv rfl ?_; simp; done) | (refine Z.lookv rfl ?_; simp; omega))) ⟨⟨by omega, hnm, ?_⟩, hs⟩ (by omega)
                    rw [← take_snoc e1, ← take_snoc e2, ht]
                    simp_all
                    )
              )
        · first
            | (exfalso; simp at hc4 <;> omega)
            | (
              (try simp at hc4)
              refine Z.exit ?_
              refine Z.xthen ?_
              refine Z.xthen ?_
              refine Z.xblock ?_
              refine Z.nthen ?_
              refine Z.seq ?_
              refine Z.region ?_
              obtain rfl : i = n := by omega
              rw [List.take_of_length_le (by omega), List.take_of_length_le (by omega)] at ht
              refine Z.l rfl rfl (by rfl) (Z.keepS hs) (Z.Yd.pure rfl) ?_
              refine Z.lnil ?_
              refine Z.only [4] rfl ?_
              refine Z.nthen ?_
              refine Z.ret ?_
              -- ret#2
              refine Z.out1 (by exact ⟨rfl, trivial⟩) ?_
              refine ⟨_, rfl, ?_, hs.sub (List.nil_sublist _)⟩
              first
              | exact congrArg Value.bool (decide_eq_false (fun h => by rw [h, e2] at e1; simp_all)).symm
              | exact congrArg Value.bool (decide_eq_true ht).symm
              | exact congrArg Value.bool (decide_eq_false (fun h => by have hlk := congrArg List.length h; simp_all)).symm
              )
        )
def resolveS (m : AcV) (lc : Int) (l : List Int) : Bool × Int × AcV := if lc = msgC m ∧ l = msgL m then (true, 0, { m with st := 4, due := -1 }) else (false, 0, failV m)
set_option maxHeartbeats 1000000 in
theorem ac_resolve1 (g T g2 T2 g3 T3 : Nat) (m : AcV) (lc : Int) (A : Option Addr) (n c : Nat) (l : List Int) (w : World) (hs : SX.St w (SX.idsOf [SX.Ent.blk g T m.cells.toArray, SX.Ent.blk g2 T2 #[.pointer (some ⟨g, 0, none⟩)], SX.Ent.blk g3 T3 #[.int .i64 lc, .slice A n c]]) w [SX.Ent.blk g T m.cells.toArray, SX.Ent.blk g2 T2 #[.pointer (some ⟨g, 0, none⟩)], SX.Ent.blk g3 T3 #[.int .i64 lc, .slice A n c]]) (hm : m.ok)
    (hx : Sx w (SX.idsOf [SX.Ent.blk g T m.cells.toArray, SX.Ent.blk g2 T2 #[.pointer (some ⟨g, 0, none⟩)], SX.Ent.blk g3 T3 #[.int .i64 lc, .slice A n c]]) A (ints .u8 l)) (hl : l.length = n) (hn : n ≤ 9223372036854775807) :
    Calls Try.prog 39 #[.pointer (some ⟨g2, 0, none⟩), .pointer (some ⟨g3, 0, none⟩)] w (SX.Ret fun v w' => v = .tuple #[.bool (resolveS m lc l).1, .int .i64 (resolveS m lc l).2.1] ∧ SX.St w (SX.idsOf [SX.Ent.blk g T m.cells.toArray, SX.Ent.blk g2 T2 #[.pointer (some ⟨g, 0, none⟩)], SX.Ent.blk g3 T3 #[.int .i64 lc, .slice A n c]]) w' [SX.Ent.blk g T (resolveS m lc l).2.2.cells.toArray, SX.Ent.blk g2 T2 #[.pointer (some ⟨g, 0, none⟩)], SX.Ent.blk g3 T3 #[.int .i64 lc, .slice A n c]]) := by
  generalize hM : SX.idsOf [SX.Ent.blk g T m.cells.toArray, SX.Ent.blk g2 T2 #[.pointer (some ⟨g, 0, none⟩)], SX.Ent.blk g3 T3 #[.int .i64 lc, .slice A n c]] = M at *
  have hml := msgL_len m
  refine Z.enter Try.func39 rfl Try.ntmps39 rfl rfl ?_
  refine Z.seq ?_
  refine Z.region ?_
  refine Z.lb 2 rfl ?_
  refine Z.lnil ?_
  refine Z.only [0, 1] rfl ?_
  refine Z.nthen ?_
  refine Z.seq ?_
  refine Z.region ?_
  refine Z.l rfl rfl (by rfl) (Z.keepS hs) (by first | exact Z.Yd.load rfl Try.isAgg25 (fun _ => Z.cellB (by first | ((repeat (first | exact List.mem_cons_self | refine List.mem_cons_of_mem _ ?_ | refine List.mem_append_right _ ?_)); done) | fail) rfl) | exact Z.Yd.load rfl Try.isAgg25 (fun _ => Z.cellO (by assumption) (by simp) (by assumption)) | fail "load 1.0") ?_
  refine Z.le rfl trivial ?_
  refine Z.ZO.call rfl rfl (by rfl) rfl rfl Try.call37 rfl (ac_message g m _ (hs.celOf (by first | ((repeat (first | exact List.mem_cons_self | refine List.mem_cons_of_mem _ ?_ | refine List.mem_append_right _ ?_)); done) | fail)) hm.cfg) ?_
  rintro v1_1 w1_1 ⟨u, rfl, B, cc, co, rfl, hy⟩
  replace hs := hs.call hy
  clear hy
  try simp only [List.cons_append, List.nil_append, List.append_nil] at hs
  refine Z.lb 3 rfl ?_
  refine Z.le rfl trivial ?_
  refine Z.ZO.alloc rfl rfl (by rfl) Try.zeroValue40 rfl hs ?_
  clear hs; intro g4 w4 hs
  refine Z.le rfl trivial ?_
  first | refine Z.ZO.storeA rfl rfl hs rfl rfl (by kernel_rfl) (by first | (simp [Value.oneCell']; done) | (refine Z.all_one ?_; assumption)) (by first | exact SX.at0 | exact SX.at1 | exact SX.at2 | exact SX.at3 | exact SX.at4 | exact SX.at5 | exact Z.at6 | exact Z.at7 | exact Z.at8 | exact Z.at9 | exact Z.at10 | exact Z.at11 | exact Z.at12) (by rfl) ?_ | refine Z.ZO.storeP rfl rfl hs rfl rfl (by kernel_rfl) (by first | (simp [Value.oneCell']; done) | (refine Z.all_one ?_; assumption)) (by first | exact SX.at0 | exact SX.at1 | exact SX.at2 | exact SX.at3 | exact SX.at4 | exact SX.at5 | exact Z.at6 | exact Z.at7 | exact Z.at8 | exact Z.at9 | exact Z.at10 | exact Z.at11 | exact Z.at12) (by first | decide | (simp; done) | (simp; omega)) ?_ | refine Z.ZO.storePR rfl rfl hs rfl rfl (by kernel_rfl) (by first | (simp [Value.oneCell']; done) | (refine Z.all_one ?_; assumption)) (by first | exact SX.at0 | exact SX.at1 | exact SX.at2 | exact SX.at3 | exact SX.at4 | exact SX.at5 | exact Z.at6 | exact Z.at7 | exact Z.at8 | exact Z.at9 | exact Z.at10 | exact Z.at11 | exact Z.at12) (by first | decide | (simp; done) | (simp; omega)) ?_
  clear hs; intro ws hs
  simp only [Nat.zero_add, Nat.add_zero, Nat.reduceAdd, Int.reduceToNat, Nat.reduceMul, List.set_cons_zero, List.set_cons_succ, List.setIfInBounds_toArray] at hs
  try simp only [Z.putL, Nat.zero_add] at hs
  refine Z.lb 1 rfl ?_
  refine Z.lnil ?_
  refine Z.only [0, 1, 4] rfl ?_
  refine Z.nthen ?_
  refine Z.seq ?_
  refine Z.seq ?_
  refine Z.region ?_
  refine Z.l rfl rfl (by rfl) (Z.keepS hs) (Z.Yd.fieldA (m := 0) rfl (by kernel_rfl)) ?_
  refine Z.l rfl rfl (by rfl) (Z.keepS hs) (by first | exact Z.Yd.load rfl Try.isAgg3 (fun _ => Z.cellB (by first | ((repeat (first | exact List.mem_cons_self | refine List.mem_cons_of_mem _ ?_ | refine List.mem_append_right _ ?_)); done) | fail) rfl) | exact Z.Yd.load rfl Try.isAgg3 (fun _ => Z.cellO (by assumption) (by simp) (by assumption)) | fail "load 2.1") ?_
  refine Z.l rfl rfl (by rfl) (Z.keepS hs) (Z.Yd.fieldA (m := 0) rfl (by kernel_rfl)) ?_
  refine Z.l rfl rfl (by rfl) (Z.keepS hs) (by first | exact Z.Yd.load rfl Try.isAgg3 (fun _ => Z.cellB (by first | ((repeat (first | exact List.mem_cons_self | refine List.mem_cons_of_mem _ ?_ | refine List.mem_append_right _ ?_)); done) | fail) rfl) | exact Z.Yd.load rfl Try.isAgg3 (fun _ => Z.cellO (by assumption) (by simp) (by assumption)) | fail "load 2.3") ?_
  refine Z.lb 2 rfl ?_
  refine Z.split (s := 16) rfl (fun hsp16 => ?_) (fun hsp16 => ?_)
  · first
      | (exfalso; simp at hsp16 <;> omega)
      | (
        refine Z.yes (s := 16) (b := true) rfl hsp16 rfl ?_
        (try simp at hsp16)
        refine Z.ls rfl rfl rfl (by rfl) ?_
        refine Z.ls rfl rfl rfl (by rfl) ?_
        refine Z.ls rfl rfl rfl (by rfl) ?_
        refine Z.ls rfl rfl rfl (by rfl) ?_
        refine Z.ls rfl rfl rfl (by rfl) ?_
        refine Z.ls rfl rfl rfl (by rfl) ?_
        refine Z.l rfl rfl (by rfl) (Z.keepS hs) (Z.Yd.pickT rfl rfl) ?_
        refine Z.lnil ?_
        refine Z.only [0, 23] rfl ?_
        refine Z.nthen ?_
        refine Z.cond rfl (fun hc2 => ?_) (fun hc2 => ?_)
        · first
            | (exfalso; simp at hc2 <;> omega)
            | (
              (try simp at hc2)
              have e : resolveS m lc l = (false, 0, failV m) := if_neg (by first | exact fun h => absurd h.1.symm (by assumption) | exact fun h => absurd h.2.symm (by assumption))
              rw [e]
              refine Z.seq ?_
              refine Z.region ?_
              replace hs := hs.sel [2, 3, 4] (by decide)
              refine Z.l rfl rfl (by rfl) (Z.keepS hs) (by first | exact Z.Yd.load rfl Try.isAgg25 (fun _ => Z.cellB (by first | ((repeat (first | exact List.mem_cons_self | refine List.mem_cons_of_mem _ ?_ | refine List.mem_append_right _ ?_)); done) | fail) rfl) | exact Z.Yd.load rfl Try.isAgg25 (fun _ => Z.cellO (by assumption) (by simp) (by assumption)) | fail "load 3.0") ?_
              refine Z.le rfl trivial ?_
              refine Z.ZO.call rfl rfl (by rfl) rfl rfl Try.call35 rfl (ac_fail g T m _ (hs.lend (L1 := [_])) hm) ?_
              rintro v3_1 w3_1 ⟨rfl, hz⟩
              replace hs := hs.regain (L1 := [_]) hz
              refine Z.lnil ?_
              refine Z.only [] rfl ?_
              refine Z.nthen ?_
              refine Z.seq ?_
              refine Z.region ?_
              refine Z.lb 2 rfl ?_
              refine Z.lnil ?_
              refine Z.only [2, 3] rfl ?_
              refine Z.nthen ?_
              refine Z.ret ?_
              repeat (first | refine Z.rthen ?_ | refine Z.rblock ?_ | refine Z.rscope ?_)
              -- ret#0
              refine Z.out2 (by exact ⟨rfl, rfl, trivial⟩) ?_
              exact ⟨_, rfl, rfl, hs⟩
              )
        · first
            | (exfalso; simp at hc2 <;> omega)
            | (
              (try simp at hc2)
              have e : resolveS m lc l = (true, 0, { m with st := 4, due := -1 }) := if_pos (by simp_all)
              rw [e]
              refine Z.skip ?_
              refine Z.nthen ?_
              refine Z.seq ?_
              refine Z.region ?_
              replace hs := hs.sel [2, 3, 4] (by decide)
              refine Z.l rfl rfl (by rfl) (Z.keepS hs) (by first | exact Z.Yd.load rfl Try.isAgg25 (fun _ => Z.cellB (by first | ((repeat (first | exact List.mem_cons_self | refine List.mem_cons_of_mem _ ?_ | refine List.mem_append_right _ ?_)); done) | fail) rfl) | exact Z.Yd.load rfl Try.isAgg25 (fun _ => Z.cellO (by assumption) (by simp) (by assumption)) | fail "load 5.0") ?_
              refine Z.le rfl trivial ?_
              refine Z.ZO.call rfl rfl (by rfl) rfl rfl Try.call31 rfl (ac_enter g T m 4 (-1) _ (hs.lend (L1 := [_]))) ?_
              rintro v5_1 w5_1 ⟨rfl, hz⟩
              replace hs := hs.regain (L1 := [_]) hz
              refine Z.lnil ?_
              refine Z.only [] rfl ?_
              refine Z.nthen ?_
              refine Z.seq ?_
              refine Z.region ?_
              refine Z.lb 2 rfl ?_
              refine Z.lnil ?_
              refine Z.only [2, 3] rfl ?_
              refine Z.nthen ?_
              refine Z.ret ?_
              -- ret#1
              refine Z.out2 (by exact ⟨rfl, rfl, trivial⟩) ?_
              exact ⟨_, rfl, rfl, hs⟩
              )
        )
  · first
      | (exfalso; simp at hsp16 <;> omega)
      | (
        refine Z.yes (s := 16) (b := false) rfl hsp16 rfl ?_
        (try simp at hsp16)
        refine Z.l rfl rfl (by rfl) (Z.keepS hs) (Z.Yd.fieldA (m := 1) rfl (by kernel_rfl)) ?_
        refine Z.l rfl rfl (by rfl) (Z.keepS hs) (by first | exact Z.Yd.load rfl Try.isAgg38 (fun _ => Z.cellB (by first | ((repeat (first | exact List.mem_cons_self | refine List.mem_cons_of_mem _ ?_ | refine List.mem_append_right _ ?_)); done) | fail) rfl) | exact Z.Yd.load rfl Try.isAgg38 (fun _ => Z.cellO (by assumption) (by simp) (by assumption)) | fail "load 2.7") ?_
        refine Z.l rfl rfl (by rfl) (Z.keepS hs) (Z.Yd.fieldA (m := 1) rfl (by kernel_rfl)) ?_
        refine Z.l rfl rfl (by rfl) (Z.keepS hs) (by first | exact Z.Yd.load rfl Try.isAgg38 (fun _ => Z.cellB (by first | ((repeat (first | exact List.mem_cons_self | refine List.mem_cons_of_mem _ ?_ | refine List.mem_append_right _ ?_)); done) | fail) rfl) | exact Z.Yd.load rfl Try.isAgg38 (fun _ => Z.cellO (by assumption) (by simp) (by assumption)) | fail "load 2.9") ?_
        refine Z.yes (s := 16) (b := false) rfl rfl rfl ?_
        refine Z.le rfl (by exact ⟨rfl, trivial⟩) ?_
        refine Z.ZO.call rfl rfl (by rfl) rfl rfl Try.call40 rfl (ac_eqb B A _ cc n c (msgL m) l _ (hs.slm (by first | ((repeat (first | exact List.mem_cons_self | refine List.mem_cons_of_mem _ ?_ | refine List.mem_append_right _ ?_)); done) | fail)) (hx.st hs) rfl hl (by omega)) ?_
        rintro v2_10 w2_10 ⟨rfl, hy⟩
        replace hs := hs.call hy
        clear hy
        try simp only [List.cons_append, List.nil_append, List.append_nil] at hs
        refine Z.lb 1 rfl ?_
        refine Z.yes (s := 16) (b := false) rfl rfl rfl ?_
        refine Z.l rfl rfl (by rfl) (Z.keepS hs) (Z.Yd.pickF rfl rfl) ?_
        refine Z.lnil ?_
        refine Z.only [0, 23] rfl ?_
        refine Z.nthen ?_
        refine Z.cond rfl (fun hc2 => ?_) (fun hc2 => ?_)
        · first
            | (exfalso; simp at hc2 <;> omega)
            | (
              (try simp at hc2)
              have e : resolveS m lc l = (false, 0, failV m) := if_neg (by first | exact fun h => absurd h.1.symm (by assumption) | exact fun h => absurd h.2.symm (by assumption))
              rw [e]
              refine Z.seq ?_
              refine Z.region ?_
              replace hs := hs.sel [2, 3, 4] (by decide)
              refine Z.l rfl rfl (by rfl) (Z.keepS hs) (by first | exact Z.Yd.load rfl Try.isAgg25 (fun _ => Z.cellB (by first | ((repeat (first | exact List.mem_cons_self | refine List.mem_cons_of_mem _ ?_ | refine List.mem_append_right _ ?_)); done) | fail) rfl) | exact Z.Yd.load rfl Try.isAgg25 (fun _ => Z.cellO (by assumption) (by simp) (by assumption)) | fail "load 3.0") ?_
              refine Z.le rfl trivial ?_
              refine Z.ZO.call rfl rfl (by rfl) rfl rfl Try.call35 rfl (ac_fail g T m _ (hs.lend (L1 := [_])) hm) ?_
              rintro v3_1 w3_1 ⟨rfl, hz⟩
              replace hs := hs.regain (L1 := [_]) hz
              refine Z.lnil ?_
              refine Z.only [] rfl ?_
              refine Z.nthen ?_
              refine Z.seq ?_
              refine Z.region ?_
              refine Z.lb 2 rfl ?_
              refine Z.lnil ?_
              refine Z.only [2, 3] rfl ?_
              refine Z.nthen ?_
              refine Z.ret ?_
              repeat (first | refine Z.rthen ?_ | refine Z.rblock ?_ | refine Z.rscope ?_)
              -- ret#2
              refine Z.out2 (by exact ⟨rfl, rfl, trivial⟩) ?_
              exact ⟨_, rfl, rfl, hs⟩
              )
        · first
            | (exfalso; simp at hc2 <;> omega)
            | (
              (try simp at hc2)
              have e : resolveS m lc l = (true, 0, { m with st := 4, due := -1 }) := if_pos (by simp_all)
              rw [e]
              refine Z.skip ?_
              refine Z.nthen ?_
              refine Z.seq ?_
              refine Z.region ?_
              replace hs := hs.sel [2, 3, 4] (by decide)
              refine Z.l rfl rfl (by rfl) (Z.keepS hs) (by first | exact Z.Yd.load rfl Try.isAgg25 (fun _ => Z.cellB (by first | ((repeat (first | exact List.mem_cons_self | refine List.mem_cons_of_mem _ ?_ | refine List.mem_append_right _ ?_)); done) | fail) rfl) | exact Z.Yd.load rfl Try.isAgg25 (fun _ => Z.cellO (by assumption) (by simp) (by assumption)) | fail "load 5.0") ?_
              refine Z.le rfl trivial ?_
              refine Z.ZO.call rfl rfl (by rfl) rfl rfl Try.call31 rfl (ac_enter g T m 4 (-1) _ (hs.lend (L1 := [_]))) ?_
              rintro v5_1 w5_1 ⟨rfl, hz⟩
              replace hs := hs.regain (L1 := [_]) hz
              refine Z.lnil ?_
              refine Z.only [] rfl ?_
              refine Z.nthen ?_
              refine Z.seq ?_
              refine Z.region ?_
              refine Z.lb 2 rfl ?_
              refine Z.lnil ?_
              refine Z.only [2, 3] rfl ?_
              refine Z.nthen ?_
              refine Z.ret ?_
              -- ret#3
              refine Z.out2 (by exact ⟨rfl, rfl, trivial⟩) ?_
              exact ⟨_, rfl, rfl, hs⟩
              )
        )
end Go.Proofs.Ytjgfooakcljddaa
