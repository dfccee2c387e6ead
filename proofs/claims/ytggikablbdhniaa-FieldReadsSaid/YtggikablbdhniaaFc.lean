/- Copies of bytes; comparisons; the document's bits. -/
import Derived.Test.YtggikablbdhniaaFb
import Derived.Test.YtggikablbdhniaaZu
namespace Go.Proofs.Ytggikablbdhniaa
open Go.RowKit
set_option linter.unusedSimpArgs false
set_option linter.unusedVariables false

theorem clone8 (M : List Nat) (A : Option Addr) (n c : Nat) (l : List Int) (w : World) (hx : Sx w M A (ints .u8 l)) (hl : l.length = n) (hn : n ≤ 100000000) (hz : A = none → n = 0) :
    Calls Try.prog 37 #[.slice A n c] w (SX.Ret fun v w' => SX.St w [] w' [SX.Ent.row v 5 1 n (ints .u8 l)]) := by
  have hs := SX.St.start w
  cases A with
  | none =>
    obtain rfl := hz rfl
    have hl0 : l = [] := List.eq_nil_of_length_eq_zero hl
    subst hl0
    refine Z.enter Try.func37 rfl Try.ntmps37 rfl rfl ?_
    refine Z.seq ?_
    refine Z.region ?_
    refine Z.lb 1 rfl ?_
    refine Z.lnil ?_
    refine Z.only [0] rfl ?_
    refine Z.nthen ?_
    refine Z.seq ?_
    refine Z.seq ?_
    refine Z.region ?_
    refine Z.lb 1 rfl ?_
    refine Z.l rfl rfl (by rfl) (Z.keepS hs) (Z.Yd.sliceNil rfl rfl Try.underlying25) ?_
    refine Z.lnil ?_
    refine Z.only [0, 4] rfl ?_
    refine Z.nthen ?_
    refine Z.cond rfl (fun hc1 => ?_) (fun h => absurd h (by simp))
    refine Z.seq ?_
    refine Z.region ?_
    refine Z.lb 1 rfl ?_
    refine Z.lnil ?_
    refine Z.only [2] rfl ?_
    refine Z.nthen ?_
    refine Z.ret ?_
    repeat (first | refine Z.rthen ?_ | refine Z.rblock ?_ | refine Z.rscope ?_)
    -- ret#0
    refine Z.out1 (by exact ⟨rfl, trivial⟩) ?_
    exact ⟨_, rfl, hs.nil _ _⟩
  | some ad =>
    refine Z.enter Try.func37 rfl Try.ntmps37 rfl rfl ?_
    refine Z.seq ?_
    refine Z.region ?_
    refine Z.lb 1 rfl ?_
    refine Z.lnil ?_
    refine Z.only [0] rfl ?_
    refine Z.nthen ?_
    refine Z.seq ?_
    refine Z.seq ?_
    refine Z.region ?_
    refine Z.lb 1 rfl ?_
    refine Z.l rfl rfl (by rfl) (Z.keepS hs) (Z.Yd.sliceNil rfl rfl Try.underlying25) ?_
    refine Z.lnil ?_
    refine Z.only [0, 4] rfl ?_
    refine Z.nthen ?_
    refine Z.cond rfl (fun h => absurd h (by simp)) (fun hc1 => ?_)
    refine Z.skip ?_
    refine Z.nthen ?_
    refine Z.seq ?_
    refine Z.region ?_
    refine Z.le rfl trivial ?_
    refine Z.ZO.empty rfl rfl (by rfl) Try.underlying25 Try.sizeOf5 hs ?_
    clear hs; intro g5 w5 hs
    refine Z.lb 1 rfl ?_
    refine Z.le rfl trivial ?_
    refine Z.ZO.appendG (i0 := Try.t5) (size := 1) (bytes := 1) rfl rfl (by rfl) hs Try.underlying25 (by kernel_rfl) rfl rfl rfl rfl (by decide) rfl rfl (by first | exact SX.at0 | exact SX.at1 | exact SX.at2 | exact SX.at3 | exact SX.at4 | exact SX.at5 | exact Z.at6 | exact Z.at7 | exact Z.at8 | exact Z.at9 | exact Z.at10 | exact Z.at11 | exact Z.at12) (hx.sl.st hs) (by first | rfl | (simp [ints_length]; done) | (simp [ints_length]; omega)) (by first | exact Z.ints_one | simp [Value.oneCell']) (by unfold maxLen; omega) (by omega) ?_
    clear hs; intro v7 w7 hs
    simp only [List.set_cons_zero, List.set_cons_succ] at hs
    refine Z.lb 1 rfl ?_
    refine Z.lnil ?_
    refine Z.only [2] rfl ?_
    refine Z.nthen ?_
    refine Z.ret ?_
    -- ret#0
    refine Z.out1 (by exact ⟨rfl, trivial⟩) ?_
    exact ⟨_, rfl, by simpa using hs⟩

theorem num_any (e : Int) (w : World) : Calls Try.prog 18 #[.int .i64 e] w (SX.Ret fun v w' => v = .int .i64 e ∧ SX.St w [] w' []) := by
  have hs := SX.St.start w
  refine Z.enter Try.func18 rfl Try.ntmps18 rfl rfl ?_
  refine Z.seq ?_
  refine Z.region ?_
  refine Z.lb 1 rfl ?_
  refine Z.lnil ?_
  refine Z.only [0] rfl ?_
  refine Z.nthen ?_
  refine Z.seq ?_
  refine Z.region ?_
  refine Z.lb 2 rfl ?_
  refine Z.lnil ?_
  refine Z.only [2] rfl ?_
  refine Z.nthen ?_
  refine Z.ret ?_
  -- ret#0
  refine Z.out1 (by exact ⟨rfl, trivial⟩) ?_
  exact ⟨_, rfl, rfl, hs⟩

theorem same_any (A B : Option Addr) (n m c d : Nat) (l k : List Int) (w : World) (hx : Sl w A (ints .u8 l)) (hy : Sl w B (ints .u8 k)) (hl : l.length = n) (hk : k.length = m) (hb : ∀ x ∈ l, 0 ≤ x ∧ x < 256) (hc : ∀ x ∈ k, 0 ≤ x ∧ x < 256) :
    Calls Try.prog 13 #[.slice A n c, .slice B m d] w (SX.Ret fun v w' => v = .bool (decide (l = k)) ∧ SX.St w [] w' []) := by
  have hs := SX.St.start w
  refine Z.enter Try.func13 rfl Try.ntmps13 rfl rfl ?_
  refine Z.seq ?_
  refine Z.region ?_
  refine Z.lb 1 rfl ?_
  refine Z.lnil ?_
  refine Z.only [0, 1] rfl ?_
  refine Z.nthen ?_
  refine Z.seq ?_
  refine Z.region ?_
  refine Z.lb 1 rfl ?_
  refine Z.l rfl rfl (by rfl) (Z.keepS hs) (Z.Yd.b2s rfl Try.underlying25 Try.underlying5 Try.underlying9 hl (fun W hW => by obtain ⟨R, hR, _⟩ := hW; exact hx.st hR)) ?_
  refine Z.lb 1 rfl ?_
  refine Z.l rfl rfl (by rfl) (Z.keepS hs) (Z.Yd.b2s rfl Try.underlying25 Try.underlying5 Try.underlying9 hk (fun W hW => by obtain ⟨R, hR, _⟩ := hW; exact hy.st hR)) ?_
  refine Z.l rfl rfl (by rfl) (Z.keepS hs) (Z.Yd.strEq rfl rfl) ?_
  refine Z.lb 1 rfl ?_
  refine Z.lnil ?_
  refine Z.only [4] rfl ?_
  refine Z.nthen ?_
  refine Z.ret ?_
  -- ret#0
  refine Z.out1 (by exact ⟨rfl, trivial⟩) ?_
  exact ⟨_, rfl, by rw [Z.str_eq hb hc], hs⟩

theorem bits_bd {bs : List Bool} {x : Int} (h : x ∈ bits bs) : 0 ≤ x ∧ x ≤ 1 := by
  simp only [bits, List.mem_map] at h
  obtain ⟨b, _, rfl⟩ := h
  exact bi_bd b
theorem elt_bits {bs : List Bool} {i : Nat} (h : i < bs.length) : elt (bits bs) (i : Int) = bi (bt bs i) := by
  simp [elt, bits, bt, h]

/-- the document's check of a list of bits -/
theorem valid01 (A : Option Addr) (n c : Nat) (bs : List Bool) (w : World) (hx : Sl w A (ints .u8 (bits bs))) (hl : bs.length = n) (hn : n ≤ 100000000) :
    Calls Try.prog 52 #[.slice A n c] w (SX.Ret fun v w' => v = .bool true ∧ SX.St w [] w' []) := by
  have hs := SX.St.start w
  have hlb := bits_length bs
  refine Z.enter Try.func52 rfl Try.ntmps52 rfl rfl ?_
  refine Z.seq ?_
  refine Z.region ?_
  refine Z.lb 1 rfl ?_
  refine Z.lnil ?_
  refine Z.only [0] rfl ?_
  refine Z.nthen ?_
  refine Z.seq ?_
  refine Z.seq ?_
  refine Z.region ?_
  refine Z.lb 1 rfl ?_
  refine Z.lnil ?_
  refine Z.only [0, 3] rfl ?_
  refine Z.nthen ?_
  refine Z.block ?_
  refine Z.loopk (ι := Nat) [0] rfl (fun k => [(3, [], .int .i64 (k : Int))]) (fun k wr => k ≤ n ∧ SX.St w [] wr []) (fun k => n - k) 0 (by refine ⟨?_, trivial⟩ <;> (first | rfl | (refine Z.lookv rfl ?_; simp; done) | (refine Z.lookv rfl ?_; simp; omega))) ⟨by omega, hs⟩ ?_
  clear hs
  rintro k w1 ⟨hkn, hs⟩
  refine Z.only [0, 3] rfl ?_
  refine Z.seq ?_
  refine Z.seq ?_
  refine Z.region ?_
  refine Z.lb 2 rfl ?_
  refine Z.l rfl rfl (by rfl) (Z.keepS hs) (Z.Yd.lenS rfl Try.underlying25) ?_
  refine Z.lb 1 rfl ?_
  refine Z.lnil ?_
  refine Z.only [0, 3, 7] rfl ?_
  refine Z.nthen ?_
  refine Z.cond rfl (fun hc2 => ?_) (fun hc2 => ?_)
  · first
      | (exfalso; simp at hc2 <;> omega)
      | (
        (try simp at hc2)
        obtain ⟨b, off, rfl, hb, hx⟩ := Z.Sl.some hx (by simp [ints]; omega)
        have he := elt_bits (bs := bs) (i := k) (by omega)
        have hbb := bi_bd (bt bs k)
        refine Z.skip ?_
        refine Z.nthen ?_
        refine Z.seq ?_
        refine Z.block ?_
        refine Z.seq ?_
        refine Z.region ?_
        refine Z.lb 2 rfl ?_
        refine Z.l rfl rfl (by rfl) (Z.keepS hs) (Z.Yd.elem rfl rfl Try.underlying25 Try.sizeOf5 (fun hG => ⟨(by first | omega | (have hG' := Z.gh rfl hG; simp at hG'; omega)), (by first | omega | (have hG' := Z.gh rfl hG; simp at hG'; omega))⟩)) ?_
        refine Z.l rfl rfl (by rfl) (Z.keepS hs) (by first | exact Z.Yd.load rfl Try.isAgg5 (fun hG => Z.cellR (by first | ((repeat (first | exact List.mem_cons_self | refine List.mem_cons_of_mem _ ?_ | refine List.mem_append_right _ ?_)); done) | fail) (Z.ints_at (by first | omega | (have hG' := Z.gh rfl hG; simp at hG'; omega)) (by first | omega | (have hG' := Z.gh rfl hG; simp at hG'; omega)))) | exact Z.Yd.load rfl Try.isAgg5 (fun hG => Z.cellXi (by assumption) (by first | omega | (have hG' := Z.gh rfl hG; simp at hG'; omega)) (by first | omega | (have hG' := Z.gh rfl hG; simp at hG'; omega))) | exact Z.Yd.load rfl Try.isAgg5 (fun hG => Z.cellS (by assumption) rfl (by first | omega | (have hG' := Z.gh rfl hG; simp at hG'; omega)) (by first | omega | (have hG' := Z.gh rfl hG; simp at hG'; omega))) | fail "load 4.3") ?_
        refine Z.lb 1 rfl ?_
        refine Z.lnil ?_
        refine Z.only [0, 3, 14] rfl ?_
        refine Z.nthen ?_
        refine Z.cond rfl (fun hc4 => ?_) (fun hc4 => ?_)
        · first
            | (exfalso; simp at hc4 <;> omega)
            | (
              (try simp at hc4)
              refine Z.seq ?_
              refine Z.region ?_
              refine Z.lb 1 rfl ?_
              refine Z.lnil ?_
              refine Z.only [2] rfl ?_
              refine Z.nthen ?_
              refine Z.ret ?_
              repeat (first | refine Z.rthen ?_ | refine Z.rblock ?_ | refine Z.rscope ?_)
              -- ret#0
              refine Z.out1 (by exact ⟨rfl, trivial⟩) ?_
              exact ⟨_, rfl, rfl, hs⟩
              )
        · first
            | (exfalso; simp at hc4 <;> omega)
            | (
              (try simp at hc4)
              refine Z.skip ?_
              refine Z.nblock ?_
              refine Z.nthen ?_
              refine Z.region ?_
              refine Z.lb 1 rfl ?_
              refine Z.l rfl rfl (by rfl) (Z.keepS hs) (Z.Yd.add rfl rfl (fun hG => Z.wi64 (by first | omega | (have hG' := Z.gh rfl hG; simp at hG'; omega)))) ?_
              refine Z.lb 1 rfl ?_
              refine Z.lnil ?_
              refine Z.only [0, 3] rfl ?_
              refine Z.nthen ?_
              exact Z.again (k + 1) (by refine ⟨?_, ?_, trivial⟩ <;> (first | rfl | (refine Z.lookv rfl ?_; simp; done) | (refine Z.lookv rfl ?_; simp; omega))) ⟨by omega, hs⟩ (by omega)
              )
        )
  · first
      | (exfalso; simp at hc2 <;> omega)
      | (
        (try simp at hc2)
        refine Z.exit ?_
        refine Z.xthen ?_
        refine Z.xthen ?_
        refine Z.xblock ?_
        refine Z.nthen ?_
        refine Z.seq ?_
        refine Z.region ?_
        refine Z.lb 1 rfl ?_
        refine Z.lnil ?_
        refine Z.only [2] rfl ?_
        refine Z.nthen ?_
        refine Z.ret ?_
        -- ret#1
        refine Z.out1 (by exact ⟨rfl, trivial⟩) ?_
        exact ⟨_, rfl, rfl, hs⟩
        )
end Go.Proofs.Ytggikablbdhniaa
