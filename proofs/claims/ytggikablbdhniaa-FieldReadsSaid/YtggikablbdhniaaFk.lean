/- FieldWrites. -/
import Derived.Test.YtggikablbdhniaaFj
namespace Go.Proofs.Ytggikablbdhniaa
open Go.RowKit
set_option linter.unusedSimpArgs false
set_option linter.unusedVariables false

/-- the bits after calls -/
def actsB (l : List ActV) : List Bool := l.foldl actB []
theorem actsB_snoc {l : List ActV} {k : Nat} {x : ActV} (h : l[k]? = some x) : actsB (l.take (k + 1)) = actB (actsB (l.take k)) x := by
  rw [← take_snoc h]
  simp [actsB]
theorem few_at {l : List ActV} (h : fewA l = true) : l.length ≤ 40 ∧ ∀ x ∈ l, x.bl.length ≤ 40 ∧ x.fl.length ≤ 20 := by
  unfold fewA at h
  simpa using h
theorem actsB_length {l : List ActV} (h : fewA l = true) : ∀ k, k ≤ l.length → (actsB (l.take k)).length ≤ k * 1280
  | 0, _ => by simp [actsB]
  | k + 1, hk => by
    have hx : l[k]? = some (l[k]'hk) := List.getElem?_eq_getElem (by omega)
    have h1 := (few_at h).2 _ (List.mem_of_getElem? hx)
    have h2 := actB_length (bs := actsB (l.take k)) h1.1 h1.2
    have h3 := actsB_length h k (by omega)
    rw [actsB_snoc hx]
    omega
theorem pk_bd (bs : List Bool) : ∀ x ∈ pk bs, 0 ≤ x ∧ x < 256 := by
  intro x hx
  simp only [pk, pkn, List.mem_map] at hx
  obtain ⟨j, _, rfl⟩ := hx
  have := byt_lt bs j
  omega

set_option maxRecDepth 100000 in
theorem fieldWrites_walk (A : Option Addr) (n c : Nat) (l : List ActV) (w : World) (hx : Sl w A (l.flatMap encA)) (hl : l.length = n) (hn : n ≤ maxLen) (hg : ∀ x ∈ l, GoodA w x) :
    Calls Try.prog 3 #[.slice A n c] w (SX.Ret fun r w' => r = .bool true ∧ SX.St w [] w' []) := by
  have hs := SX.St.start w
  replace hx := hx.sx
  have hmx : maxLen = 9223372036854775807 := rfl
  have hfl : (l.flatMap encA).length = n * 5 := by rw [Z.flat_length (s := 5) encA_length, hl]
  refine Z.enter Try.func3 rfl Try.ntmps3 rfl rfl ?_
  refine Z.seq ?_
  refine Z.region ?_
  refine Z.lb 1 rfl ?_
  refine Z.lnil ?_
  refine Z.only [0] rfl ?_
  refine Z.nthen ?_
  refine Z.seq ?_
  refine Z.seq ?_
  refine Z.region ?_
  refine Z.lb 1 rfl ?_
  refine Z.le rfl trivial ?_
  refine Z.ZO.call rfl rfl (by rfl) rfl rfl Try.call9 rfl (few_any A n c l _ ((hx.st hs).sx) hl hg) ?_
  rintro v1_1 w1_1 ⟨rfl, hy⟩
  replace hs := hs.call hy
  clear hy
  try simp only [List.cons_append, List.nil_append, List.append_nil] at hs
  refine Z.lb 1 rfl ?_
  refine Z.lnil ?_
  refine Z.only [0, 10] rfl ?_
  refine Z.nthen ?_
  refine Z.cond rfl (fun hc1 => ?_) (fun hc1 => ?_)
  · first
      | (exfalso; simp at hc1 <;> omega)
      | (
        (try simp at hc1)
        refine Z.seq ?_
        refine Z.region ?_
        refine Z.le rfl trivial ?_
        refine Z.ZO.call rfl rfl (by rfl) rfl rfl Try.call10 rfl (works_any _) ?_
        rintro v2_0 w2_0 ⟨rfl, hy⟩
        replace hs := hs.call hy
        clear hy
        try simp only [List.cons_append, List.nil_append, List.append_nil] at hs
        refine Z.lb 1 rfl ?_
        refine Z.lnil ?_
        refine Z.only [2] rfl ?_
        refine Z.nthen ?_
        refine Z.ret ?_
        repeat (first | refine Z.rthen ?_ | refine Z.rblock ?_ | refine Z.rscope ?_)
        -- ret#0
        refine Z.out1 (by exact ⟨rfl, trivial⟩) ?_
        exact ⟨_, rfl, rfl, hs.sub (List.nil_sublist _)⟩
        )
  · first
      | (exfalso; simp at hc1 <;> omega)
      | (
        (try simp at hc1)
        refine Z.skip ?_
        refine Z.nthen ?_
        refine Z.seq ?_
        refine Z.region ?_
        refine Z.le rfl trivial ?_
        refine Z.ZO.alloc rfl rfl (by rfl) Try.zeroValue29 rfl hs ?_
        clear hs; intro g3 w3 hs
        refine Z.lnil ?_
        refine Z.only [0, 3] rfl ?_
        replace hs := WrL_start hs
        refine Z.nthen ?_
        refine Z.seq ?_
        refine Z.region ?_
        refine Z.lb 1 rfl ?_
        refine Z.lnil ?_
        refine Z.only [0, 3, 4] rfl ?_
        refine Z.nthen ?_
        refine Z.seq ?_
        refine Z.seq ?_
        refine Z.region ?_
        refine Z.lb 1 rfl ?_
        refine Z.lnil ?_
        refine Z.only [0, 3, 4, 5] rfl ?_
        refine Z.nthen ?_
        refine Z.block ?_
        refine Z.loopk (ι := Nat × Value × Value) [0, 3] rfl (fun k => [(4, [], k.2.2), (5, [], .int .i64 (k.1 : Int))]) (fun k wr => k.1 ≤ n ∧ SX.St w [] wr (WbL g3 29 k.2.1 k.2.2 (actsB (l.take k.1)))) (fun k => n - k.1) (0, .slice none 0 0, .slice none 0 0) (by refine ⟨?_, ?_, trivial⟩ <;> (first | rfl | (refine Z.lookv rfl ?_; simp; done) | (refine Z.lookv rfl ?_; simp; omega))) ⟨by omega, (hs.nil 5 1).sel [1, 2, 0] (by decide)⟩ ?_
        clear hs
        rintro ⟨k, sv, sb⟩ w1 ⟨hkn, hs⟩
        refine Z.only [0, 3, 4, 5] rfl ?_
        dsimp only at hs
        refine Z.seq ?_
        refine Z.seq ?_
        refine Z.region ?_
        refine Z.lb 2 rfl ?_
        refine Z.l rfl rfl (by rfl) (Z.keepS hs) (Z.Yd.lenS rfl Try.underlying22) ?_
        refine Z.lb 1 rfl ?_
        refine Z.lnil ?_
        refine Z.only [0, 3, 4, 5, 15] rfl ?_
        refine Z.nthen ?_
        refine Z.cond rfl (fun hc6 => ?_) (fun hc6 => ?_)
        · first
            | (exfalso; simp at hc6 <;> omega)
            | (
              (try simp at hc6)
              obtain ⟨b, off, rfl, hx⟩ := hx.some (by omega)
              obtain ⟨x, hf⟩ : ∃ x, l[k]? = some x := ⟨_, List.getElem?_eq_getElem (by omega)⟩
              have hgx := hg _ (List.mem_of_getElem? hf)
              have h4 := (few_at hc1).2 _ (List.mem_of_getElem? hf)
              have hlen := actsB_length hc1 k (by omega)
              have h40 := (few_at hc1).1
              refine Z.skip ?_
              refine Z.nthen ?_
              refine Z.seq ?_
              refine Z.block ?_
              refine Z.seq ?_
              refine Z.region ?_
              refine Z.lb 3 rfl ?_
              refine Z.l rfl rfl (by rfl) (Z.keepS hs) (Z.Yd.elem rfl rfl Try.underlying22 Try.sizeOf36 (fun hG => ⟨(by first | omega | (have hG' := Z.gh rfl hG; simp at hG'; omega)), (by first | omega | (have hG' := Z.gh rfl hG; simp at hG'; omega))⟩)) ?_
              refine Z.l rfl rfl (by rfl) (Z.keepS hs) (Z.Yd.loadA _ rfl Try.isAgg36 (fun _ => Z.cellsX (encA x) hx encA_length hf rfl) (by exact Try.sizeOf36)) ?_
              refine Z.le rfl trivial ?_
              refine Z.ZO.call rfl rfl (by rfl) rfl rfl Try.call11 rfl (act_any g3 _ sv sb (actsB (l.take k)) x _ hs.all (by omega) hgx (hgx.bs.sx.all hs) (hgx.fs.sx.all hs) h4.1 h4.2) ?_
              rintro v8_5 w8_5 ⟨sv2, sb2, rfl, hz⟩
              replace hs := hs.regainAll hz
              rw [← actsB_snoc hf] at hs
              have hlen2 := actsB_length hc1 (k + 1) (by omega)
              obtain ⟨Ab, cb, rfl, -, -, -⟩ := SX.row_slv hs (j := 2) rfl
              refine Z.lb 5 rfl ?_
              refine Z.lnil ?_
              refine Z.only [0, 3, 5, 6, 7] rfl ?_
              refine Z.nthen ?_
              refine Z.seq ?_
              refine Z.region ?_
              refine Z.lb 2 rfl ?_
              refine Z.lnil ?_
              refine Z.only [0, 3, 4, 5, 7] rfl ?_
              refine Z.nthen ?_
              refine Z.seq ?_
              refine Z.region ?_
              refine Z.lb 3 rfl ?_
              refine Z.yes (s := 30) (b := false) rfl (rfl) rfl ?_
              refine Z.le rfl (by exact ⟨rfl, trivial⟩) ?_
              refine Z.ZO.call rfl rfl (by rfl) rfl rfl Try.call12 rfl (wlen_any g3 _ sv2 _ _ (hs.lend (L1 := WrL _ _ _ _)) (by omega)) ?_
              rintro v10_3 w10_3 ⟨rfl, hz⟩
              replace hs := hs.regain (L1 := WrL _ _ _ _) hz
              refine Z.lb 1 rfl ?_
              refine Z.l rfl rfl (by rfl) (Z.keepS hs) (Z.Yd.lenS rfl Try.underlying25) ?_
              refine Z.lb 1 rfl ?_
              refine Z.yes (s := 30) (b := false) rfl rfl rfl ?_
              refine Z.l rfl rfl (by rfl) (Z.keepS hs) (Z.Yd.pickF rfl rfl) ?_
              refine Z.lb 1 rfl ?_
              refine Z.yes (s := 36) (b := false) rfl ((by simp)) rfl ?_
              refine Z.le rfl (by exact ⟨rfl, trivial⟩) ?_
              refine Z.ZO.call rfl rfl (by rfl) rfl rfl Try.call14 rfl (wbytes_any g3 _ sv2 _ _ (hs.lend (L1 := WrL _ _ _ _)) (by omega)) ?_
              rintro v10_9 w10_9 hz
              replace hs := hs.regain (L1 := WrL _ _ _ _) hz
              obtain ⟨Aw, cw, rfl, -, -, -⟩ := SX.row_slv hs (j := 0) rfl
              refine Z.lb 1 rfl ?_
              refine Z.yes (s := 36) (b := false) rfl rfl rfl ?_
              refine Z.le rfl (by exact ⟨rfl, trivial⟩) ?_
              refine Z.ZO.call rfl rfl (by rfl) rfl rfl Try.call15 rfl (refbytes Ab _ cb (actsB (l.take (k + 1))) _ (SX.row_slB hs (j := 3) rfl) rfl (by omega)) ?_
              rintro v10_11 w10_11 hy
              replace hs := hs.call hy
              clear hy
              try simp only [List.cons_append, List.nil_append, List.append_nil] at hs
              obtain ⟨Ar, cr, rfl, -, -, -⟩ := SX.row_slv hs (j := 0) rfl
              refine Z.le rfl (by exact ⟨rfl, trivial⟩) ?_
              refine Z.ZO.call rfl rfl (by rfl) rfl rfl Try.call13 rfl (same_any Aw Ar _ _ cw cr _ _ _ (SX.row_slB hs (j := 1) rfl) (SX.row_slB hs (j := 0) rfl) rfl rfl (pk_bd _) (pk_bd _)) ?_
              rintro v10_12 w10_12 ⟨rfl, hy⟩
              replace hs := hs.call hy
              clear hy
              try simp only [List.cons_append, List.nil_append, List.append_nil] at hs
              refine Z.lb 1 rfl ?_
              refine Z.yes (s := 36) (b := false) rfl rfl rfl ?_
              refine Z.l rfl rfl (by rfl) (Z.keepS hs) (Z.Yd.pickF rfl rfl) ?_
              refine Z.lnil ?_
              refine Z.only [0, 3, 4, 5, 42] rfl ?_
              refine Z.nthen ?_
              refine Z.cond rfl (fun hc10 => ?_) (fun hc10 => ?_)
              · first
                  | (exfalso; simp at hc10 <;> omega)
                  | (
                    (try simp at hc10)
                    refine Z.seq ?_
                    refine Z.region ?_
                    refine Z.lb 1 rfl ?_
                    refine Z.lnil ?_
                    refine Z.only [2] rfl ?_
                    refine Z.nthen ?_
                    refine Z.ret ?_
                    repeat (first | refine Z.rthen ?_ | refine Z.rblock ?_ | refine Z.rscope ?_)
                    -- ret#1
                    refine Z.out1 (by exact ⟨rfl, trivial⟩) ?_
                    exact ⟨_, rfl, rfl, hs.sub (List.nil_sublist _)⟩
                    )
              · first
                  | (exfalso; simp at hc10 <;> omega)
                  | (
                    (try simp at hc10)
                    refine Z.skip ?_
                    refine Z.nblock ?_
                    refine Z.nthen ?_
                    refine Z.region ?_
                    refine Z.lb 1 rfl ?_
                    refine Z.l rfl rfl (by rfl) (Z.keepS hs) (Z.Yd.add rfl rfl (fun hG => Z.wi64 (by first | omega | (have hG' := Z.gh rfl hG; simp at hG'; omega)))) ?_
                    refine Z.lb 1 rfl ?_
                    refine Z.lnil ?_
                    refine Z.only [0, 3, 4, 5] rfl ?_
                    refine Z.nthen ?_
                    exact Z.again (k + 1, sv2, _) (by refine ⟨?_, ?_, ?_, ?_, trivial⟩ <;> (first | rfl | (refine Z.lookv rfl ?_; simp; done) | (refine Z.lookv rfl ?_; simp; omega))) ⟨by simp only; omega, hs.sel [2, 3, 4] (by decide)⟩ (by simp only; omega)
                    )
              )
        · first
            | (exfalso; simp at hc6 <;> omega)
            | (
              (try simp at hc6)
              refine Z.exit ?_
              refine Z.xthen ?_
              refine Z.xthen ?_
              refine Z.xblock ?_
              refine Z.nthen ?_
              refine Z.seq ?_
              refine Z.region ?_
              refine Z.le rfl trivial ?_
              refine Z.ZO.call rfl rfl (by rfl) rfl rfl Try.call10 rfl (works_any _) ?_
              rintro v12_0 w12_0 ⟨rfl, hy⟩
              replace hs := hs.call hy
              clear hy
              try simp only [List.cons_append, List.nil_append, List.append_nil] at hs
              refine Z.lb 1 rfl ?_
              refine Z.lnil ?_
              refine Z.only [2] rfl ?_
              refine Z.nthen ?_
              refine Z.ret ?_
              -- ret#2
              refine Z.out1 (by exact ⟨rfl, trivial⟩) ?_
              exact ⟨_, rfl, rfl, hs.sub (List.nil_sublist _)⟩
              )
        )
end Go.Proofs.Ytggikablbdhniaa
