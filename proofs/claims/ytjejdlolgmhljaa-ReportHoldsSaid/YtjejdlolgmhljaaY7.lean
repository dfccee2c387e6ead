/- Part 7 of the proofs that lead to the statement. -/
import Derived.Test.YtjejdlolgmhljaaY6
import Derived.Test.YtjejdlolgmhljaaRows
import Derived.WalkKit
import Derived.ProofKit
import Derived.OpenShut
import Derived.ShutString
import Derived.ChangeOld
import Derived.Below
namespace Go.Proofs.Ytjejdlolgmhljaa
open Go.RowKit
set_option linter.unusedSimpArgs false
set_option linter.unusedVariables false

end Go.Proofs.Ytjejdlolgmhljaa

/- Reports: Copy, Same; the iterator over the groups; the buffer report. -/
namespace Go.Proofs.Ytjejdlolgmhljaa
open Go.RowKit
set_option linter.unusedSimpArgs false
set_option linter.unusedVariables false
--newlaws

/-- the groups that have bytes -/
def gps (a b c d : Int) : List Nat := (List.range 4).filter fun k => decide (0 < elt [a, b, c, d] (k : Int))
def GpA (a b c d : Int) (k : Nat) (args : Array Value) (Lx : List SX.Ent) : Prop := args = #[.int .i64 (k : Int), .int .i64 (elt [a, b, c, d] (k : Int))] ∧ Lx = []
theorem flt_prefix {p : Nat → Bool} {j n : Nat} (hj : j < n) (hp : p j = true) : ((List.range j).filter p ++ [j]) <+: (List.range n).filter p := by
  have h1 : (List.range (j + 1)).filter p = (List.range j).filter p ++ [j] := by
    rw [List.range_succ, List.filter_append]
    simp [hp]
  rw [← h1]
  obtain ⟨k, rfl⟩ : ∃ k, n = (j + 1) + k := ⟨n - (j + 1), by omega⟩
  exact ((List.range_add (n := j + 1) (m := k)) ▸ List.prefix_append _ _ : List.range (j + 1) <+: List.range (j + 1 + k)).filter p
theorem flt_skip {p : Nat → Bool} {j : Nat} (hp : p j = false) : (List.range (j + 1)).filter p = (List.range j).filter p := by
  rw [List.range_succ, List.filter_append]
  simp [hp]
theorem flt_take {p : Nat → Bool} {j : Nat} (hp : p j = true) : (List.range (j + 1)).filter p = (List.range j).filter p ++ [j] := by
  rw [List.range_succ, List.filter_append]
  simp [hp]
/-- what is known of a round -/
theorem gps_pre {a b c d : Int} {pre : List Nat} {x : Nat} (h : (pre ++ [x]) <+: gps a b c d) : (∀ y ∈ pre, y < x) ∧ x < 4 ∧ 0 < elt [a, b, c, d] (x : Int) ∧ (gps a b c d)[pre.length]? = some x ∧ pre.length < (gps a b c d).length := by
  have hp : (gps a b c d).Pairwise (· < ·) := List.Pairwise.sublist List.filter_sublist List.pairwise_lt_range
  have h1 : (pre ++ [x]).Pairwise (· < ·) := List.Pairwise.sublist h.sublist hp
  have hm : x ∈ gps a b c d := h.subset (by simp)
  have h2 := List.mem_filter.1 hm
  obtain ⟨t, ht⟩ := h
  refine ⟨fun y hy => (List.pairwise_append.1 h1).2.2 y hy x (by simp), by simpa using h2.1, by simpa using h2.2, ?_, ?_⟩
  · rw [← ht]; simp
  · rw [← ht]; simp
set_option maxRecDepth 100000 in
theorem groups_seq (g T : Nat) (a b c d : Int) : SX.SeqC Try.prog 30 #[.pointer (some ⟨g, 0, none⟩)] (GpA a b c d) [SX.Ent.blk g T #[.int .i64 a, .int .i64 b, .int .i64 c, .int .i64 d]] (fun _ _ => True) (gps a b c d) := by
  intro l w0 M I Ix W L0 _ hY hI hs
  refine Z.enter Try.func30 rfl Try.ntmps30 rfl rfl ?_
  refine Z.scope ?_
  refine Z.seq ?_
  refine Z.label ?_
  refine Z.nthen ?_
  refine Z.seq ?_
  refine Z.region ?_
  refine Z.l rfl rfl (by rfl) (Z.keepS hs) (by first | exact Z.Yd.loadA _ rfl Try.isAgg22 (fun _ => Z.cellsB (by first | ((repeat (first | exact List.mem_cons_self | refine List.mem_cons_of_mem _ ?_ | refine List.mem_append_right _ ?_)); done) | fail)) (by exact Try.sizeOf22) | fail "load 0.0") ?_
  refine Z.lb 1 rfl ?_
  refine Z.lnil ?_
  refine Z.only [0, 5, 6] rfl ?_
  refine Z.nthen ?_
  refine Z.block ?_
  refine Z.loopk (ι := Nat × List SX.Ent) [0, 5] rfl (fun j => [(6, [], .int .i64 (j.1 : Int))]) (fun j wr => (j.1 ≤ 4 ∧ I ((List.range j.1).filter fun k => decide (0 < elt [a, b, c, d] (k : Int))) j.2) ∧ SX.St w0 M wr (j.2 ++ [SX.Ent.blk g T #[.int .i64 a, .int .i64 b, .int .i64 c, .int .i64 d]])) (fun j => 4 - j.1) (0, L0) (by refine ⟨?_, trivial⟩ <;> (first | rfl | (refine Z.lookv rfl ?_; simp; done) | (refine Z.lookv rfl ?_; simp; omega))) ⟨⟨by simp only; omega, hI⟩, hs⟩ ?_
  clear hs
  rintro ⟨j, L1⟩ w1 ⟨⟨hj, hi⟩, hs⟩
  refine Z.only [0, 5, 6] rfl ?_
  (try dsimp only at hs)
  refine Z.seq ?_
  refine Z.region ?_
  refine Z.lb 1 rfl ?_
  refine Z.lnil ?_
  refine Z.only [0, 5, 6, 7] rfl ?_
  refine Z.nthen ?_
  refine Z.seq ?_
  refine Z.cond rfl (fun hc1 => ?_) (fun hc1 => ?_)
  · first
      | (exfalso; simp at hc1 <;> omega)
      | (
        (try simp at hc1)
        have hlt : j < 4 := by omega
        have hgl : #[Value.int .i64 a, .int .i64 b, .int .i64 c, .int .i64 d][j]? = some (.int .i64 (elt [a, b, c, d] (j : Int))) := by
          have h4 : j = 0 ∨ j = 1 ∨ j = 2 ∨ j = 3 := by omega
          rcases h4 with rfl | rfl | rfl | rfl <;> rfl
        refine Z.skip ?_
        refine Z.nthen ?_
        refine Z.seq ?_
        refine Z.block ?_
        refine Z.seq ?_
        refine Z.region ?_
        refine Z.lb 1 rfl ?_
        refine Z.l rfl rfl (by rfl) (Z.keepS hs) (Z.Yd.idx1 rfl rfl Try.underlying22 Try.sizeOf3 Try.isAgg3 (fun _ => ⟨by omega, by omega, hgl⟩)) ?_
        refine Z.lb 2 rfl ?_
        refine Z.lnil ?_
        refine Z.only [0, 3, 4, 5, 6] rfl ?_
        refine Z.nthen ?_
        refine Z.seq ?_
        refine Z.region ?_
        refine Z.lb 3 rfl ?_
        refine Z.split (s := 12) rfl (fun hsp12 => ?_) (fun hsp12 => ?_)
        · first
            | (exfalso; simp at hsp12 <;> omega)
            | (
              refine Z.yes (s := 12) (b := true) rfl hsp12 rfl ?_
              (try simp at hsp12)
              refine Z.lb 3 rfl ?_
              refine Z.yes (s := 12) (b := true) rfl rfl rfl ?_
              refine Z.le rfl (by exact ⟨rfl, trivial⟩) ?_
              refine Z.ZO.yield rfl rfl (by rfl) rfl rfl rfl (hY _ ((List.range j).filter fun k => decide (0 < elt [a, b, c, d] (k : Int))) j _ _ L1 [] hi (flt_prefix hlt (by simpa using hsp12)) ⟨rfl, rfl⟩ hs) ?_
              clear hs
              rintro e wy3_6 (⟨rfl, Ly3_6, hiy3_6, hs⟩ | ⟨rfl, Ly3_6, hiy3_6, hs⟩)
              · refine ⟨_, rfl, ?_⟩
                refine Z.lb 1 rfl ?_
                refine Z.yes (s := 12) (b := true) rfl rfl rfl ?_
                refine Z.l rfl rfl (by rfl) (Z.keepS hs) (Z.Yd.pickT rfl rfl) ?_
                refine Z.lnil ?_
                refine Z.only [0, 5, 6, 18] rfl ?_
                refine Z.nthen ?_
                refine Z.cond rfl (fun hc3 => ?_) (fun hc3 => ?_)
                · first
                    | (exfalso; simp at hc3 <;> omega)
                    | (
                      (try simp at hc3)
                      refine Z.exit ?_
                      refine Z.xblockn rfl ?_
                      refine Z.xthen ?_
                      refine Z.xthen ?_
                      refine Z.xblock ?_
                      refine Z.nscope ?_
                      -- ret#0
                      refine Z.out0n trivial ?_
                      first
                      | exact ⟨⟨_, rfl⟩, Ly3_6, .inr hiy3_6, hs⟩
                      | exact ⟨⟨_, rfl⟩, L1, .inl (by obtain rfl : j = 4 := by omega
                                                      exact hi), hs⟩
                      )
                · first
                    | (exfalso; simp at hc3 <;> omega)
                    | (
                      (try simp at hc3)
                      refine Z.skip ?_
                      refine Z.nblock ?_
                      refine Z.nthen ?_
                      refine Z.region ?_
                      refine Z.l rfl rfl (by rfl) (Z.keepS hs) (Z.Yd.add rfl rfl (fun hG => Z.wi64 (by first | omega | (have hG' := Z.gh rfl hG; simp at hG'; omega)))) ?_
                      refine Z.lb 1 rfl ?_
                      refine Z.lnil ?_
                      refine Z.only [0, 5, 6] rfl ?_
                      refine Z.nthen ?_
                      first
                      | exact Z.again (j + 1, Ly3_6) (by refine ⟨?_, ?_, ?_, trivial⟩ <;> (first | rfl | (refine Z.lookv rfl ?_; simp; done) | (refine Z.lookv rfl ?_; simp; omega))) ⟨⟨by simp only; omega, by simp only; rw [flt_take (by simpa using hsp12)]; exact hiy3_6⟩, hs⟩ (by simp only; omega)
                      | exact Z.again (j + 1, L1) (by refine ⟨?_, ?_, ?_, trivial⟩ <;> (first | rfl | (refine Z.lookv rfl ?_; simp; done) | (refine Z.lookv rfl ?_; simp; omega))) ⟨⟨by simp only; omega, by simp only; rw [flt_skip (by simpa using hsp12)]; exact hi⟩, hs⟩ (by simp only; omega)
                      )
              · refine ⟨_, rfl, ?_⟩
                refine Z.lb 1 rfl ?_
                refine Z.yes (s := 12) (b := true) rfl rfl rfl ?_
                refine Z.l rfl rfl (by rfl) (Z.keepS hs) (Z.Yd.pickT rfl rfl) ?_
                refine Z.lnil ?_
                refine Z.only [0, 5, 6, 18] rfl ?_
                refine Z.nthen ?_
                refine Z.cond rfl (fun hc3 => ?_) (fun hc3 => ?_)
                · first
                    | (exfalso; simp at hc3 <;> omega)
                    | (
                      (try simp at hc3)
                      refine Z.exit ?_
                      refine Z.xblockn rfl ?_
                      refine Z.xthen ?_
                      refine Z.xthen ?_
                      refine Z.xblock ?_
                      refine Z.nscope ?_
                      -- ret#1
                      refine Z.out0n trivial ?_
                      first
                      | exact ⟨⟨_, rfl⟩, Ly3_6, .inr hiy3_6, hs⟩
                      | exact ⟨⟨_, rfl⟩, L1, .inl (by obtain rfl : j = 4 := by omega
                                                      exact hi), hs⟩
                      )
                · first
                    | (exfalso; simp at hc3 <;> omega)
                    | (
                      (try simp at hc3)
                      refine Z.skip ?_
                      refine Z.nblock ?_
                      refine Z.nthen ?_
                      refine Z.region ?_
                      refine Z.l rfl rfl (by rfl) (Z.keepS hs) (Z.Yd.add rfl rfl (fun hG => Z.wi64 (by first | omega | (have hG' := Z.gh rfl hG; simp at hG'; omega)))) ?_
                      refine Z.lb 1 rfl ?_
                      refine Z.lnil ?_
                      refine Z.only [0, 5, 6] rfl ?_
                      refine Z.nthen ?_
                      first
                      | exact Z.again (j + 1, Ly3_6) (by refine ⟨?_, ?_, ?_, trivial⟩ <;> (first | rfl | (refine Z.lookv rfl ?_; simp; done) | (refine Z.lookv rfl ?_; simp; omega))) ⟨⟨by simp only; omega, by simp only; rw [flt_take (by simpa using hsp12)]; exact hiy3_6⟩, hs⟩ (by simp only; omega)
                      | exact Z.again (j + 1, L1) (by refine ⟨?_, ?_, ?_, trivial⟩ <;> (first | rfl | (refine Z.lookv rfl ?_; simp; done) | (refine Z.lookv rfl ?_; simp; omega))) ⟨⟨by simp only; omega, by simp only; rw [flt_skip (by simpa using hsp12)]; exact hi⟩, hs⟩ (by simp only; omega)
                      )
              )
        · first
            | (exfalso; simp at hsp12 <;> omega)
            | (
              refine Z.yes (s := 12) (b := false) rfl hsp12 rfl ?_
              (try simp at hsp12)
              refine Z.ls rfl rfl rfl (by rfl) ?_
              refine Z.ls rfl rfl rfl (by rfl) ?_
              refine Z.ls rfl rfl rfl (by rfl) ?_
              refine Z.ls rfl rfl rfl (by rfl) ?_
              refine Z.ls rfl rfl rfl (by rfl) ?_
              refine Z.l rfl rfl (by rfl) (Z.keepS hs) (Z.Yd.pickF rfl rfl) ?_
              refine Z.lnil ?_
              refine Z.only [0, 5, 6, 18] rfl ?_
              refine Z.nthen ?_
              refine Z.cond rfl (fun hc3 => ?_) (fun hc3 => ?_)
              · first
                  | (exfalso; simp at hc3 <;> omega)
                  | (
                    (try simp at hc3)
                    refine Z.exit ?_
                    refine Z.xblockn rfl ?_
                    refine Z.xthen ?_
                    refine Z.xthen ?_
                    refine Z.xblock ?_
                    refine Z.nscope ?_
                    -- ret#2
                    refine Z.out0n trivial ?_
                    first
                    | exact ⟨⟨_, rfl⟩, Ly3_6, .inr hiy3_6, hs⟩
                    | exact ⟨⟨_, rfl⟩, L1, .inl (by obtain rfl : j = 4 := by omega
                                                    exact hi), hs⟩
                    )
              · first
                  | (exfalso; simp at hc3 <;> omega)
                  | (
                    (try simp at hc3)
                    refine Z.skip ?_
                    refine Z.nblock ?_
                    refine Z.nthen ?_
                    refine Z.region ?_
                    refine Z.l rfl rfl (by rfl) (Z.keepS hs) (Z.Yd.add rfl rfl (fun hG => Z.wi64 (by first | omega | (have hG' := Z.gh rfl hG; simp at hG'; omega)))) ?_
                    refine Z.lb 1 rfl ?_
                    refine Z.lnil ?_
                    refine Z.only [0, 5, 6] rfl ?_
                    refine Z.nthen ?_
                    first
                    | exact Z.again (j + 1, Ly3_6) (by refine ⟨?_, ?_, ?_, trivial⟩ <;> (first | rfl | (refine Z.lookv rfl ?_; simp; done) | (refine Z.lookv rfl ?_; simp; omega))) ⟨⟨by simp only; omega, by simp only; rw [flt_take (by simpa using hsp12)]; exact hiy3_6⟩, hs⟩ (by simp only; omega)
                    | exact Z.again (j + 1, L1) (by refine ⟨?_, ?_, ?_, trivial⟩ <;> (first | rfl | (refine Z.lookv rfl ?_; simp; done) | (refine Z.lookv rfl ?_; simp; omega))) ⟨⟨by simp only; omega, by simp only; rw [flt_skip (by simpa using hsp12)]; exact hi⟩, hs⟩ (by simp only; omega)
                    )
              )
        )
  · first
      | (exfalso; simp at hc1 <;> omega)
      | (
        (try simp at hc1)
        refine Z.exit ?_
        refine Z.xthen ?_
        refine Z.xthen ?_
        refine Z.xblock ?_
        refine Z.nscope ?_
        -- ret#3
        refine Z.out0n trivial ?_
        first
        | exact ⟨⟨_, rfl⟩, Ly3_6, .inr hiy3_6, hs⟩
        | exact ⟨⟨_, rfl⟩, L1, .inl (by obtain rfl : j = 4 := by omega
                                        exact hi), hs⟩
        )
theorem rp_Groups (g : Nat) (m : RpV) (w : World) (hc : Cel w g m.cells) : Calls Try.prog 12 #[.pointer (some ⟨g, 0, none⟩)] w (SX.Ret fun v w' => ∃ g2, v = .func (.func 30) #[] #[.pointer (some ⟨g2, 0, none⟩)] ∧ SX.St w [] w' [SX.Ent.blk g2 22 #[.int .i64 m.b0, .int .i64 m.b1, .int .i64 m.b2, .int .i64 m.b3]]) := by
  have hs := SX.St.start w
  refine Z.enter Try.func12 rfl Try.ntmps12 rfl rfl ?_
  refine Z.seq ?_
  refine Z.region ?_
  refine Z.lb 1 rfl ?_
  refine Z.lnil ?_
  refine Z.only [0] rfl ?_
  refine Z.nthen ?_
  refine Z.seq ?_
  refine Z.region ?_
  refine Z.le rfl trivial ?_
  refine Z.ZO.alloc rfl rfl (by rfl) Try.zeroValue22 rfl hs ?_
  clear hs; intro g3 w3 hs
  refine Z.lnil ?_
  refine Z.only [0, 3] rfl ?_
  refine Z.nthen ?_
  refine Z.seq ?_
  refine Z.seq ?_
  refine Z.region ?_
  refine Z.lb 1 rfl ?_
  refine Z.le rfl trivial ?_
  refine Z.ZO.call rfl rfl (by rfl) rfl rfl Try.call24 rfl (rp_none g m _ (hc.st (hs.sub (List.nil_sublist _)))) ?_
  rintro v2_1 w2_1 ⟨rfl, hy⟩
  replace hs := hs.call hy
  clear hy
  try simp only [List.cons_append, List.nil_append, List.append_nil] at hs
  refine Z.lb 1 rfl ?_
  refine Z.lnil ?_
  refine Z.only [0, 3, 6] rfl ?_
  refine Z.nthen ?_
  refine Z.cond rfl (fun hc2 => ?_) (fun h => absurd h (by simp))
  refine Z.region ?_
  refine Z.lb 1 rfl ?_
  refine Z.l rfl rfl (by rfl) (Z.keepS hs) (Z.Yd.nilc rfl rfl) ?_
  refine Z.l rfl rfl (by rfl) (Z.keepS hs) (Z.Yd.fieldA (m := 10) rfl (by kernel_rfl)) ?_
  refine Z.l rfl rfl (by rfl) (Z.keepS hs) (Z.Yd.loadA _ rfl Try.isAgg22 (fun _ => hc.part (by simp) [.int .i64 (m).b0, .int .i64 (m).b1, .int .i64 (m).b2, .int .i64 (m).b3] rfl) (by exact Try.sizeOf22)) ?_
  refine Z.le rfl trivial ?_
  first | refine Z.ZO.storeA rfl rfl hs rfl rfl (by kernel_rfl) (by first | (simp [Value.oneCell']; done) | (refine Z.all_one ?_; assumption)) (by first | exact SX.at0 | exact SX.at1 | exact SX.at2 | exact SX.at3 | exact SX.at4 | exact SX.at5 | exact Z.at6 | exact Z.at7 | exact Z.at8 | exact Z.at9 | exact Z.at10 | exact Z.at11 | exact Z.at12) (by rfl) ?_ | refine Z.ZO.storeP rfl rfl hs rfl rfl (by kernel_rfl) (by first | (simp [Value.oneCell']; done) | (refine Z.all_one ?_; assumption)) (by first | exact SX.at0 | exact SX.at1 | exact SX.at2 | exact SX.at3 | exact SX.at4 | exact SX.at5 | exact Z.at6 | exact Z.at7 | exact Z.at8 | exact Z.at9 | exact Z.at10 | exact Z.at11 | exact Z.at12) (by first | decide | (simp; done) | (simp; omega)) ?_ | refine Z.ZO.storePR rfl rfl hs rfl rfl (by kernel_rfl) (by first | (simp [Value.oneCell']; done) | (refine Z.all_one ?_; assumption)) (by first | exact SX.at0 | exact SX.at1 | exact SX.at2 | exact SX.at3 | exact SX.at4 | exact SX.at5 | exact Z.at6 | exact Z.at7 | exact Z.at8 | exact Z.at9 | exact Z.at10 | exact Z.at11 | exact Z.at12) (by first | decide | (simp; done) | (simp; omega)) ?_
  clear hs; intro ws hs
  simp only [Nat.zero_add, Nat.add_zero, Nat.reduceAdd, Int.reduceToNat, Nat.reduceMul, List.set_cons_zero, List.set_cons_succ, List.setIfInBounds_toArray] at hs
  try simp only [Z.putL, Nat.zero_add] at hs
  refine Z.lnil ?_
  refine Z.only [3] rfl ?_
  refine Z.nthen ?_
  refine Z.seq ?_
  refine Z.region ?_
  refine Z.lb 2 rfl ?_
  refine Z.lnil ?_
  refine Z.only [2] rfl ?_
  refine Z.nthen ?_
  refine Z.ret ?_
  -- ret#0
  refine Z.out1 (by exact ⟨rfl, trivial⟩) ?_
  exact ⟨_, rfl, _, rfl, hs⟩
end Go.Proofs.Ytjejdlolgmhljaa

/- Reports: the buffer report. -/
namespace Go.Proofs.Ytjejdlolgmhljaa
open Go.RowKit
set_option linter.unusedSimpArgs false
set_option linter.unusedVariables false
--newlaws

abbrev RpV.bs (m : RpV) : List Int := [m.b0, m.b1, m.b2, m.b3]
/-- the levels, of the groups that were seen -/
def lvX (l : List Int) (pre : List Nat) (k : Nat) : Int := if k ∈ pre then levV (elt l (k : Int)) else 0
def xcs (b : Bool) (l : List Int) (pre : List Nat) : List Value := [.bool b, .int .i64 0, .int .i64 (lvX l pre 0), .int .i64 (lvX l pre 1), .int .i64 (lvX l pre 2), .int .i64 (lvX l pre 3)]
theorem xcs_set (l : List Int) (pre : List Nat) (x : Nat) (hx : x < 4) : (xcs false l pre).set (2 + (x : Int).toNat * 1) (.int .i64 (levV (elt l (x : Int)))) = xcs false l (pre ++ [x]) := by
  have e : ∀ k, lvX l (pre ++ [x]) k = if k = x then levV (elt l (x : Int)) else lvX l pre k := fun k => by
    unfold lvX
    by_cases h : k = x
    · subst h; simp
    · simp [h]
  simp only [xcs, e]
  have h4 : x = 0 ∨ x = 1 ∨ x = 2 ∨ x = 3 := by omega
  rcases h4 with rfl | rfl | rfl | rfl <;> rfl
@[simp] theorem xcs_len (b : Bool) (l : List Int) (pre : List Nat) : (xcs b l pre).length = 6 := rfl
theorem gps_len (a b c d : Int) : (gps a b c d).length ≤ 4 := by
  have := List.length_filter_le (fun k : Nat => decide (0 < elt [a, b, c, d] (k : Int))) (List.range 4)
  simpa [gps] using this
theorem xcs_get (b : Bool) (l : List Int) (pre : List Nat) (k : Nat) (hk : k < 4) : (xcs b l pre)[2 + k]? = some (.int .i64 (lvX l pre k)) := by
  have h4 : k = 0 ∨ k = 1 ∨ k = 2 ∨ k = 3 := by omega
  rcases h4 with rfl | rfl | rfl | rfl <;> rfl
theorem lvl_zero : lvl 0 = 0 := lvl_eq (by omega) (fun j hj => by omega) (fun j _ hj => by
  have h : ∀ k : Nat, 0 ≤ lim k := fun k => by
    induction k with
    | zero => simp [lim]
    | succ k ih =>
      cases k with
      | zero => simp [lim]
      | succ k => rw [lim_succ _ (by omega)]; omega
  exact h j)
theorem lvX_all {a b c d : Int} (ha : 0 ≤ a) (hb : 0 ≤ b) (hc : 0 ≤ c) (hd : 0 ≤ d) (k : Nat) (hk : k < 4) : lvX [a, b, c, d] (gps a b c d) k = (lvl (elt [a, b, c, d] (k : Int)) : Int) := by
  have h0 : 0 ≤ elt [a, b, c, d] (k : Int) := by
    have h4 : k = 0 ∨ k = 1 ∨ k = 2 ∨ k = 3 := by omega
    rcases h4 with rfl | rfl | rfl | rfl <;> assumption
  unfold lvX levV gps
  by_cases h : 0 < elt [a, b, c, d] (k : Int)
  · rw [if_pos (by simp [hk, h]), if_neg (by omega)]
  · rw [if_neg (by simp [h]), show elt [a, b, c, d] (k : Int) = 0 by omega, lvl_zero]
    rfl
theorem sh_set (k : Nat) (v : Int) (hk : k < 4) : [Value.bool false, .int .i64 (k : Int), .int .i64 0, .int .i64 0, .int .i64 0, .int .i64 0].set (2 + (k : Int).toNat * 1) (.int .i64 v) = (RepV.short (k : Int) v).cells := by
  have h4 : k = 0 ∨ k = 1 ∨ k = 2 ∨ k = 3 := by omega
  rcases h4 with rfl | rfl | rfl | rfl <;> rfl
def statV (m : RpV) (room : Int) : RepV := if 1 < (gps m.b0 m.b1 m.b2 m.b3).length ∧ 4 ≤ room then ⟨true, 0, lvl m.b0, lvl m.b1, lvl m.b2, lvl m.b3⟩ else RepV.short (fstG m.b0 m.b1 m.b2 m.b3) (lvl (elt m.bs (fstG m.b0 m.b1 m.b2 m.b3)))
theorem statV_ok (m : RpV) (room : Int) (h : fstG m.b0 m.b1 m.b2 m.b3 ≠ 4) : (statV m room).ok := by
  have hb := fstG_bd m.b0 m.b1 m.b2 m.b3
  have hl : ∀ x, 0 ≤ (lvl x : Int) ∧ (lvl x : Int) ≤ 63 := fun x => by have := (lvl_spec x).1; omega
  unfold statV
  split
  · exact ⟨⟨by simp, by simp⟩, by rw [if_pos rfl]; exact ⟨rfl, hl _, hl _, hl _, hl _⟩⟩
  · obtain ⟨k, hk⟩ := Int.eq_ofNat_of_zero_le hb.1
    rw [hk]
    have h4 : k = 0 ∨ k = 1 ∨ k = 2 ∨ k = 3 := by omega
    refine ⟨⟨by simp only [RepV.short]; omega, by simp only [RepV.short]; omega⟩, ?_⟩
    rw [if_neg (by simp [RepV.short])]
    generalize elt m.bs (k : Int) = x
    rcases h4 with rfl | rfl | rfl | rfl
    all_goals
      refine ⟨fun j hj => ?_, hl x⟩
      have hj4 : j = 0 ∨ j = 1 ∨ j = 2 ∨ j = 3 := by omega
      rcases hj4 with rfl | rfl | rfl | rfl <;> first | exact .inl rfl | exact .inr rfl
set_option maxHeartbeats 1000000 in
set_option maxRecDepth 100000 in
theorem rp_status (g : Nat) (m : RpV) (room : Int) (w : World) (hc : Cel w g m.cells) (hm : m.ok) (hf : fstG m.b0 m.b1 m.b2 m.b3 ≠ 4) :
    Calls Try.prog 35 #[.pointer (some ⟨g, 0, none⟩), .int .i64 room] w (SX.Ret fun v w' => v = .agg (statV m room).cells.toArray ∧ SX.St w [] w' []) := by
  have hs := SX.St.start w
  obtain ⟨-, -, h1, h2, h3, h4, -⟩ := hm
  have hall := lvX_all h1.1 h2.1 h3.1 h4.1
  have hb := fstG_bd m.b0 m.b1 m.b2 m.b3
  obtain ⟨k, hk⟩ := Int.eq_ofNat_of_zero_le hb.1
  have hk4 : k < 4 := by omega
  refine Z.enterM Try.func35 rfl Try.ntmps35 rfl rfl ?_
  refine Z.seq ?_
  refine Z.region ?_
  refine Z.le rfl trivial ?_
  refine Z.ZO.alloc rfl rfl (by rfl) Try.zeroValue77 rfl hs ?_
  clear hs; intro g4 w4 hs
  refine Z.lnil ?_
  refine Z.only [0, 1, 4] rfl ?_
  refine Z.nthen ?_
  refine Z.seq ?_
  refine Z.region ?_
  refine Z.le rfl trivial ?_
  refine Z.ZO.alloc rfl rfl (by rfl) Try.zeroValue3 rfl hs ?_
  clear hs; intro g5 w5 hs
  refine Z.le rfl trivial ?_
  first | refine Z.ZO.store rfl rfl hs Try.sizeOf3 rfl rfl rfl (by first | exact SX.at0 | exact SX.at1 | exact SX.at2 | exact SX.at3 | exact SX.at4 | exact SX.at5 | exact Z.at6 | exact Z.at7 | exact Z.at8 | exact Z.at9 | exact Z.at10 | exact Z.at11 | exact Z.at12) (by first | (simp; done) | (simp; omega)) ?_ | refine Z.ZO.storeR rfl rfl hs Try.sizeOf3 rfl rfl rfl (by first | exact SX.at0 | exact SX.at1 | exact SX.at2 | exact SX.at3 | exact SX.at4 | exact SX.at5 | exact Z.at6 | exact Z.at7 | exact Z.at8 | exact Z.at9 | exact Z.at10 | exact Z.at11 | exact Z.at12) (by first | omega | (simp [ints_length]; done) | (simp [ints_length]; omega)) ?_
  clear hs; intro ws hs
  simp only [Nat.zero_add, Nat.add_zero, Nat.reduceAdd, Int.reduceToNat, Nat.reduceMul, List.set_cons_zero, List.set_cons_succ, List.setIfInBounds_toArray] at hs
  refine Z.lnil ?_
  refine Z.only [0, 1, 4, 5] rfl ?_
  refine Z.nthen ?_
  refine Z.seq ?_
  refine Z.seq ?_
  refine Z.region ?_
  refine Z.lb 1 rfl ?_
  refine Z.le rfl trivial ?_
  refine Z.ZO.call rfl rfl (by rfl) rfl rfl Try.call12 rfl (rp_Groups g m _ (hc.st (hs.sub (List.nil_sublist _)))) ?_
  rintro v2_1 w2_1 ⟨g2, rfl, hy⟩
  replace hs := hs.call hy
  clear hy
  try simp only [List.cons_append, List.nil_append, List.append_nil] at hs
  refine Z.lnil ?_
  refine Z.only [0, 1, 4, 5, 11] rfl ?_
  refine Z.nthen ?_
  refine Z.block ?_
  refine Z.rangeFunc (ps := [12, 13]) (L0 := [SX.Ent.blk g5 3 #[.int .i64 0], SX.Ent.blk g4 77 (xcs false m.bs []).toArray]) (groups_seq g2 _ m.b0 m.b1 m.b2 m.b3) rfl Try.call30 ((hs.sel [1, 2, 0] (by decide))) trivial (by rintro x args Lx ⟨rfl, rfl⟩; rfl) rfl (fun pre L => L = [SX.Ent.blk g5 3 #[.int .i64 (pre.length : Int)], SX.Ent.blk g4 77 (xcs false m.bs pre).toArray]) (fun _ _ => False) rfl ?_ ?_ ?_
  · clear hs
    rintro l0 Z0 pre x args W0 L0 Lx rfl hpre ⟨rfl, rfl⟩ hs
    refine ⟨_, rfl, ?_⟩
    refine Z.seq ?_
    refine Z.region ?_
    refine Z.lb 1 rfl ?_
    refine Z.lnil ?_
    refine Z.only [0, 1, 4, 5, 6, 13] rfl ?_
    refine Z.nthen ?_
    refine Z.region ?_
    refine Z.lb 1 rfl ?_
    refine Z.lnil ?_
    refine Z.only [0, 1, 4, 5, 6, 7] rfl ?_
    refine Z.nthen ?_
    refine Z.assigned [SX.Ent.blk g5 3 #[.int .i64 (pre.length : Int)], SX.Ent.blk g4 77 (xcs false m.bs pre).toArray] hs ?_
    clear hs
    intro Wb0 Zb0 hs
    refine Z.block ?_
    refine Z.seq ?_
    refine Z.region ?_
    obtain ⟨hlt, hx4, hx0, -, hlen⟩ := gps_pre hpre
    have hgl := gps_len m.b0 m.b1 m.b2 m.b3
    simp only [List.cons_append, List.nil_append] at hs
    refine Z.l rfl rfl (by rfl) (Z.keepS hs) (Z.Yd.pure rfl) ?_
    refine Z.lb 1 rfl ?_
    refine Z.le rfl trivial ?_
    refine Z.ZO.call rfl rfl (by rfl) rfl rfl Try.call49 rfl (clevel_any _ _) ?_
    rintro v5_2 w5_2 ⟨rfl, hy⟩
    replace hs := hs.call hy
    clear hy
    try simp only [List.cons_append, List.nil_append, List.append_nil] at hs
    refine Z.lb 3 rfl ?_
    refine Z.l rfl rfl (by rfl) (Z.keepS hs) (Z.Yd.fieldA (m := 2) rfl (by kernel_rfl)) ?_
    refine Z.l rfl rfl (by rfl) (Z.keepS hs) (Z.Yd.elemA rfl rfl Try.underlying22 Try.sizeOf3 (fun hG => ⟨(by first | omega | (have hG' := Z.gh rfl hG; simp at hG'; omega)), (by first | omega | (have hG' := Z.gh rfl hG; simp at hG'; omega))⟩)) ?_
    refine Z.le rfl trivial ?_
    first | refine Z.ZO.store rfl rfl hs Try.sizeOf3 rfl rfl rfl (by first | exact SX.at0 | exact SX.at1 | exact SX.at2 | exact SX.at3 | exact SX.at4 | exact SX.at5 | exact Z.at6 | exact Z.at7 | exact Z.at8 | exact Z.at9 | exact Z.at10 | exact Z.at11 | exact Z.at12) (by first | (simp; done) | (simp; omega)) ?_ | refine Z.ZO.storeR rfl rfl hs Try.sizeOf3 rfl rfl rfl (by first | exact SX.at0 | exact SX.at1 | exact SX.at2 | exact SX.at3 | exact SX.at4 | exact SX.at5 | exact Z.at6 | exact Z.at7 | exact Z.at8 | exact Z.at9 | exact Z.at10 | exact Z.at11 | exact Z.at12) (by first | omega | (simp [ints_length]; done) | (simp [ints_length]; omega)) ?_
    clear hs; intro ws hs
    simp only [Nat.zero_add, Nat.add_zero, Nat.reduceAdd, Int.reduceToNat, Nat.reduceMul, List.set_cons_zero, List.set_cons_succ, List.setIfInBounds_toArray] at hs
    refine Z.lnil ?_
    refine Z.only [0, 1, 4, 5] rfl ?_
    refine Z.nthen ?_
    refine Z.region ?_
    rw [xcs_set m.bs pre x hx4] at hs
    refine Z.l rfl rfl (by rfl) (Z.keepS hs) (by first | exact Z.Yd.load rfl Try.isAgg3 (fun _ => Z.cellB (by first | ((repeat (first | exact List.mem_cons_self | refine List.mem_cons_of_mem _ ?_ | refine List.mem_append_right _ ?_)); done) | fail) rfl) | exact Z.Yd.load rfl Try.isAgg3 (fun _ => Z.cellO (by assumption) (by simp) (by assumption)) | fail "load 6.0") ?_
    refine Z.l rfl rfl (by rfl) (Z.keepS hs) (Z.Yd.add rfl rfl (fun hG => Z.wi64 (by first | omega | (have hG' := Z.gh rfl hG; simp at hG'; omega)))) ?_
    refine Z.le rfl trivial ?_
    first | refine Z.ZO.store rfl rfl hs Try.sizeOf3 rfl rfl rfl (by first | exact SX.at0 | exact SX.at1 | exact SX.at2 | exact SX.at3 | exact SX.at4 | exact SX.at5 | exact Z.at6 | exact Z.at7 | exact Z.at8 | exact Z.at9 | exact Z.at10 | exact Z.at11 | exact Z.at12) (by first | (simp; done) | (simp; omega)) ?_ | refine Z.ZO.storeR rfl rfl hs Try.sizeOf3 rfl rfl rfl (by first | exact SX.at0 | exact SX.at1 | exact SX.at2 | exact SX.at3 | exact SX.at4 | exact SX.at5 | exact Z.at6 | exact Z.at7 | exact Z.at8 | exact Z.at9 | exact Z.at10 | exact Z.at11 | exact Z.at12) (by first | omega | (simp [ints_length]; done) | (simp [ints_length]; omega)) ?_
    clear hs; intro ws hs
    simp only [Nat.zero_add, Nat.add_zero, Nat.reduceAdd, Int.reduceToNat, Nat.reduceMul, List.set_cons_zero, List.set_cons_succ, List.setIfInBounds_toArray] at hs
    refine Z.lnil ?_
    refine Z.only [0, 1, 4, 5] rfl ?_
    refine Z.nblock ?_
    refine Z.rnorm [_, _] ?_ hs
    simp
  · clear hs
    rintro Dd W0 L0 hi hs
    subst hi
    simp only [List.cons_append, List.nil_append] at hs
    refine Z.nblock ?_
    refine Z.nthen ?_
    refine Z.seq ?_
    refine Z.seq ?_
    refine Z.region ?_
    have hgl := gps_len m.b0 m.b1 m.b2 m.b3
    refine Z.l rfl rfl (by rfl) (Z.keepS hs) (by first | exact Z.Yd.load rfl Try.isAgg3 (fun _ => Z.cellB (by first | ((repeat (first | exact List.mem_cons_self | refine List.mem_cons_of_mem _ ?_ | refine List.mem_append_right _ ?_)); done) | fail) rfl) | exact Z.Yd.load rfl Try.isAgg3 (fun _ => Z.cellO (by assumption) (by simp) (by assumption)) | fail "load 7.0") ?_
    refine Z.lb 5 rfl ?_
    refine Z.lnil ?_
    refine Z.only [0, 4, 29] rfl ?_
    refine Z.nthen ?_
    refine Z.cond rfl (fun hc7 => ?_) (fun hc7 => ?_)
    · first
        | (exfalso; simp at hc7 <;> omega)
        | (
          (try simp at hc7)
          have e : statV m room = ⟨true, 0, lvl m.b0, lvl m.b1, lvl m.b2, lvl m.b3⟩ := if_pos (by omega)
          refine Z.seq ?_
          refine Z.region ?_
          refine Z.l rfl rfl (by rfl) (Z.keepS hs) (Z.Yd.fieldA (m := 0) rfl (by kernel_rfl)) ?_
          refine Z.le rfl trivial ?_
          first | refine Z.ZO.store rfl rfl hs Try.sizeOf4 rfl rfl rfl (by first | exact SX.at0 | exact SX.at1 | exact SX.at2 | exact SX.at3 | exact SX.at4 | exact SX.at5 | exact Z.at6 | exact Z.at7 | exact Z.at8 | exact Z.at9 | exact Z.at10 | exact Z.at11 | exact Z.at12) (by first | (simp; done) | (simp; omega)) ?_ | refine Z.ZO.storeR rfl rfl hs Try.sizeOf4 rfl rfl rfl (by first | exact SX.at0 | exact SX.at1 | exact SX.at2 | exact SX.at3 | exact SX.at4 | exact SX.at5 | exact Z.at6 | exact Z.at7 | exact Z.at8 | exact Z.at9 | exact Z.at10 | exact Z.at11 | exact Z.at12) (by first | omega | (simp [ints_length]; done) | (simp [ints_length]; omega)) ?_
          clear hs; intro ws hs
          simp only [Nat.zero_add, Nat.add_zero, Nat.reduceAdd, Int.reduceToNat, Nat.reduceMul, List.set_cons_zero, List.set_cons_succ, List.setIfInBounds_toArray] at hs
          refine Z.lnil ?_
          refine Z.only [4] rfl ?_
          refine Z.nthen ?_
          refine Z.seq ?_
          refine Z.region ?_
          have e2 : (xcs false m.bs (gps m.b0 m.b1 m.b2 m.b3)).set 0 (Value.bool true) = (RepV.mk true 0 (lvl m.b0) (lvl m.b1) (lvl m.b2) (lvl m.b3)).cells := by
            simp only [xcs, hall 0 (by omega), hall 1 (by omega), hall 2 (by omega), hall 3 (by omega)]
            rfl
          rw [e2] at hs
          have hone : ∀ u ∈ (RepV.mk true 0 (lvl m.b0) (lvl m.b1) (lvl m.b2) (lvl m.b3)).cells, u.oneCell' = true := by simp [RepV.cells, Value.oneCell']
          refine Z.l rfl rfl (by rfl) (Z.keepS hs) (by first | exact Z.Yd.loadA _ rfl Try.isAgg77 (fun _ => Z.cellsB (by first | ((repeat (first | exact List.mem_cons_self | refine List.mem_cons_of_mem _ ?_ | refine List.mem_append_right _ ?_)); done) | fail)) (by exact Try.sizeOf77) | fail "load 9.0") ?_
          refine Z.le rfl trivial ?_
          first | refine Z.ZO.storeA rfl rfl hs rfl rfl (by kernel_rfl) (by first | (simp [Value.oneCell']; done) | (refine Z.all_one ?_; assumption)) (by first | exact SX.at0 | exact SX.at1 | exact SX.at2 | exact SX.at3 | exact SX.at4 | exact SX.at5 | exact Z.at6 | exact Z.at7 | exact Z.at8 | exact Z.at9 | exact Z.at10 | exact Z.at11 | exact Z.at12) (by rfl) ?_ | refine Z.ZO.storeP rfl rfl hs rfl rfl (by kernel_rfl) (by first | (simp [Value.oneCell']; done) | (refine Z.all_one ?_; assumption)) (by first | exact SX.at0 | exact SX.at1 | exact SX.at2 | exact SX.at3 | exact SX.at4 | exact SX.at5 | exact Z.at6 | exact Z.at7 | exact Z.at8 | exact Z.at9 | exact Z.at10 | exact Z.at11 | exact Z.at12) (by first | decide | (simp; done) | (simp; omega)) ?_ | refine Z.ZO.storePR rfl rfl hs rfl rfl (by kernel_rfl) (by first | (simp [Value.oneCell']; done) | (refine Z.all_one ?_; assumption)) (by first | exact SX.at0 | exact SX.at1 | exact SX.at2 | exact SX.at3 | exact SX.at4 | exact SX.at5 | exact Z.at6 | exact Z.at7 | exact Z.at8 | exact Z.at9 | exact Z.at10 | exact Z.at11 | exact Z.at12) (by first | decide | (simp; done) | (simp; omega)) ?_
          clear hs; intro ws hs
          simp only [Nat.zero_add, Nat.add_zero, Nat.reduceAdd, Int.reduceToNat, Nat.reduceMul, List.set_cons_zero, List.set_cons_succ, List.setIfInBounds_toArray] at hs
          try simp only [Z.putL, Nat.zero_add] at hs
          refine Z.lnil ?_
          refine Z.only [4] rfl ?_
          refine Z.nthen ?_
          refine Z.ret ?_
          repeat (first | refine Z.rthen ?_ | refine Z.rblock ?_ | refine Z.rscope ?_)
          -- ret#0
          refine Z.outM1 (vs := [_]) (show SX.St w [] _ ([_, _] ++ SX.Ent.obj Dd (.deferred (some [])) :: [_]) from hs) (fun wr hs => (by exact ⟨⟨_, rfl, Z.rvcA hs Try.isAgg77 (by first | ((repeat (first | exact List.mem_cons_self | refine List.mem_cons_of_mem _ ?_ | refine List.mem_append_right _ ?_)); done) | fail) (by exact Try.sizeOf77)⟩, trivial⟩)) (by exact ⟨⟨_, rfl, Z.rvcA hs Try.isAgg77 (by first | ((repeat (first | exact List.mem_cons_self | refine List.mem_cons_of_mem _ ?_ | refine List.mem_append_right _ ?_)); done) | fail) (by exact Try.sizeOf77)⟩, trivial⟩) ?_
          clear hs
          intro wr hs
          refine ⟨_, rfl, ?_, hs.sub (List.nil_sublist _)⟩
          rw [e]
          first
          | rfl
          | (rw [hk]; rfl)
          )
    · first
        | (exfalso; simp at hc7 <;> omega)
        | (
          (try simp at hc7)
          have e : statV m room = RepV.short (fstG m.b0 m.b1 m.b2 m.b3) (lvl (elt m.bs (fstG m.b0 m.b1 m.b2 m.b3))) := if_neg (by omega)
          refine Z.skip ?_
          refine Z.nthen ?_
          refine Z.seq ?_
          refine Z.region ?_
          refine Z.lb 1 rfl ?_
          refine Z.l rfl rfl (by rfl) (Z.keepS hs) (Z.Yd.nilc rfl rfl) ?_
          refine Z.l rfl rfl (by rfl) (Z.keepS hs) (Z.Yd.fieldA (m := 10) rfl (by kernel_rfl)) ?_
          refine Z.l rfl rfl (by rfl) (Z.keepS hs) (Z.Yd.loadA _ rfl Try.isAgg22 (fun _ => hc.part (by simp) [.int .i64 (m).b0, .int .i64 (m).b1, .int .i64 (m).b2, .int .i64 (m).b3] rfl) (by exact Try.sizeOf22)) ?_
          refine Z.le rfl trivial ?_
          refine Z.ZO.call rfl rfl (by rfl) rfl rfl Try.call26 rfl (rp_group m.b0 m.b1 m.b2 m.b3 _) ?_
          rintro v10_4 w10_4 ⟨rfl, hy⟩
          replace hs := hs.call hy
          clear hy
          try simp only [List.cons_append, List.nil_append, List.append_nil] at hs
          rw [hk]
          refine Z.lb 1 rfl ?_
          refine Z.lnil ?_
          refine Z.only [4, 8] rfl ?_
          refine Z.nthen ?_
          refine Z.seq ?_
          refine Z.region ?_
          refine Z.lb 1 rfl ?_
          refine Z.l rfl rfl (by rfl) (Z.keepS hs) (Z.Yd.buildL [(0, 1), (1, 1), (2, 4)] [.bool false, .int .i64 0, .int .i64 0, .int .i64 0, .int .i64 0, .int .i64 0] rfl rfl (by intro w; kernel_rfl)) ?_
          refine Z.le rfl trivial ?_
          refine Z.ZO.alloc rfl rfl (by rfl) Try.zeroValue77 rfl hs ?_
          clear hs; intro g9 w9 hs
          refine Z.le rfl trivial ?_
          first | refine Z.ZO.storeA rfl rfl hs rfl rfl (by kernel_rfl) (by first | (simp [Value.oneCell']; done) | (refine Z.all_one ?_; assumption)) (by first | exact SX.at0 | exact SX.at1 | exact SX.at2 | exact SX.at3 | exact SX.at4 | exact SX.at5 | exact Z.at6 | exact Z.at7 | exact Z.at8 | exact Z.at9 | exact Z.at10 | exact Z.at11 | exact Z.at12) (by rfl) ?_ | refine Z.ZO.storeP rfl rfl hs rfl rfl (by kernel_rfl) (by first | (simp [Value.oneCell']; done) | (refine Z.all_one ?_; assumption)) (by first | exact SX.at0 | exact SX.at1 | exact SX.at2 | exact SX.at3 | exact SX.at4 | exact SX.at5 | exact Z.at6 | exact Z.at7 | exact Z.at8 | exact Z.at9 | exact Z.at10 | exact Z.at11 | exact Z.at12) (by first | decide | (simp; done) | (simp; omega)) ?_ | refine Z.ZO.storePR rfl rfl hs rfl rfl (by kernel_rfl) (by first | (simp [Value.oneCell']; done) | (refine Z.all_one ?_; assumption)) (by first | exact SX.at0 | exact SX.at1 | exact SX.at2 | exact SX.at3 | exact SX.at4 | exact SX.at5 | exact Z.at6 | exact Z.at7 | exact Z.at8 | exact Z.at9 | exact Z.at10 | exact Z.at11 | exact Z.at12) (by first | decide | (simp; done) | (simp; omega)) ?_
          clear hs; intro ws hs
          simp only [Nat.zero_add, Nat.add_zero, Nat.reduceAdd, Int.reduceToNat, Nat.reduceMul, List.set_cons_zero, List.set_cons_succ, List.setIfInBounds_toArray] at hs
          try simp only [Z.putL, Nat.zero_add] at hs
          refine Z.lnil ?_
          refine Z.only [4, 8, 9] rfl ?_
          refine Z.nthen ?_
          refine Z.seq ?_
          refine Z.region ?_
          refine Z.lb 2 rfl ?_
          refine Z.l rfl rfl (by rfl) (Z.keepS hs) (Z.Yd.fieldA (m := 2) rfl (by kernel_rfl)) ?_
          refine Z.l rfl rfl (by rfl) (Z.keepS hs) (Z.Yd.elemA rfl rfl Try.underlying22 Try.sizeOf3 (fun hG => ⟨(by first | omega | (have hG' := Z.gh rfl hG; simp at hG'; omega)), (by first | omega | (have hG' := Z.gh rfl hG; simp at hG'; omega))⟩)) ?_
          refine Z.l rfl rfl (by rfl) (Z.keepS hs) (Z.Yd.load rfl Try.isAgg3 (fun hG => Z.cellB (by first | ((repeat (first | exact List.mem_cons_self | refine List.mem_cons_of_mem _ ?_ | refine List.mem_append_right _ ?_)); done) | fail) (by rw [Z.nth_eq]; show _[0 + 2 + (k : Int).toNat * 1]? = _; rw [show 0 + 2 + (k : Int).toNat * 1 = 2 + k from by omega]; exact xcs_get _ _ _ k hk4))) ?_
          refine Z.l rfl rfl (by rfl) (Z.keepS hs) (Z.Yd.fieldA (m := 2) rfl (by kernel_rfl)) ?_
          refine Z.l rfl rfl (by rfl) (Z.keepS hs) (Z.Yd.elemA rfl rfl Try.underlying22 Try.sizeOf3 (fun hG => ⟨(by first | omega | (have hG' := Z.gh rfl hG; simp at hG'; omega)), (by first | omega | (have hG' := Z.gh rfl hG; simp at hG'; omega))⟩)) ?_
          refine Z.le rfl trivial ?_
          first | refine Z.ZO.store rfl rfl hs Try.sizeOf3 rfl rfl rfl (by first | exact SX.at0 | exact SX.at1 | exact SX.at2 | exact SX.at3 | exact SX.at4 | exact SX.at5 | exact Z.at6 | exact Z.at7 | exact Z.at8 | exact Z.at9 | exact Z.at10 | exact Z.at11 | exact Z.at12) (by first | (simp; done) | (simp; omega)) ?_ | refine Z.ZO.storeR rfl rfl hs Try.sizeOf3 rfl rfl rfl (by first | exact SX.at0 | exact SX.at1 | exact SX.at2 | exact SX.at3 | exact SX.at4 | exact SX.at5 | exact Z.at6 | exact Z.at7 | exact Z.at8 | exact Z.at9 | exact Z.at10 | exact Z.at11 | exact Z.at12) (by first | omega | (simp [ints_length]; done) | (simp [ints_length]; omega)) ?_
          clear hs; intro ws hs
          simp only [Nat.zero_add, Nat.add_zero, Nat.reduceAdd, Int.reduceToNat, Nat.reduceMul, List.set_cons_zero, List.set_cons_succ, List.setIfInBounds_toArray] at hs
          refine Z.lnil ?_
          refine Z.only [4, 9] rfl ?_
          refine Z.nthen ?_
          refine Z.seq ?_
          refine Z.region ?_
          rw [sh_set k _ hk4, hall k hk4] at hs
          have hone : ∀ u ∈ (RepV.short (k : Int) (lvl (elt m.bs (k : Int)))).cells, u.oneCell' = true := by simp [RepV.cells, Value.oneCell']
          refine Z.l rfl rfl (by rfl) (Z.keepS hs) (by first | exact Z.Yd.loadA _ rfl Try.isAgg77 (fun _ => Z.cellsB (by first | ((repeat (first | exact List.mem_cons_self | refine List.mem_cons_of_mem _ ?_ | refine List.mem_append_right _ ?_)); done) | fail)) (by exact Try.sizeOf77) | fail "load 13.0") ?_
          refine Z.le rfl trivial ?_
          first | refine Z.ZO.storeA rfl rfl hs rfl rfl (by kernel_rfl) (by first | (simp [Value.oneCell']; done) | (refine Z.all_one ?_; assumption)) (by first | exact SX.at0 | exact SX.at1 | exact SX.at2 | exact SX.at3 | exact SX.at4 | exact SX.at5 | exact Z.at6 | exact Z.at7 | exact Z.at8 | exact Z.at9 | exact Z.at10 | exact Z.at11 | exact Z.at12) (by rfl) ?_ | refine Z.ZO.storeP rfl rfl hs rfl rfl (by kernel_rfl) (by first | (simp [Value.oneCell']; done) | (refine Z.all_one ?_; assumption)) (by first | exact SX.at0 | exact SX.at1 | exact SX.at2 | exact SX.at3 | exact SX.at4 | exact SX.at5 | exact Z.at6 | exact Z.at7 | exact Z.at8 | exact Z.at9 | exact Z.at10 | exact Z.at11 | exact Z.at12) (by first | decide | (simp; done) | (simp; omega)) ?_ | refine Z.ZO.storePR rfl rfl hs rfl rfl (by kernel_rfl) (by first | (simp [Value.oneCell']; done) | (refine Z.all_one ?_; assumption)) (by first | exact SX.at0 | exact SX.at1 | exact SX.at2 | exact SX.at3 | exact SX.at4 | exact SX.at5 | exact Z.at6 | exact Z.at7 | exact Z.at8 | exact Z.at9 | exact Z.at10 | exact Z.at11 | exact Z.at12) (by first | decide | (simp; done) | (simp; omega)) ?_
          clear hs; intro ws hs
          simp only [Nat.zero_add, Nat.add_zero, Nat.reduceAdd, Int.reduceToNat, Nat.reduceMul, List.set_cons_zero, List.set_cons_succ, List.setIfInBounds_toArray] at hs
          try simp only [Z.putL, Nat.zero_add] at hs
          refine Z.lnil ?_
          refine Z.only [4] rfl ?_
          refine Z.nthen ?_
          refine Z.ret ?_
          -- ret#1
          refine Z.outM1 (vs := [_]) (show SX.St w [] _ ([_, _, _] ++ SX.Ent.obj Dd (.deferred (some [])) :: [_]) from hs) (fun wr hs => (by exact ⟨⟨_, rfl, Z.rvcA hs Try.isAgg77 (by first | ((repeat (first | exact List.mem_cons_self | refine List.mem_cons_of_mem _ ?_ | refine List.mem_append_right _ ?_)); done) | fail) (by exact Try.sizeOf77)⟩, trivial⟩)) (by exact ⟨⟨_, rfl, Z.rvcA hs Try.isAgg77 (by first | ((repeat (first | exact List.mem_cons_self | refine List.mem_cons_of_mem _ ?_ | refine List.mem_append_right _ ?_)); done) | fail) (by exact Try.sizeOf77)⟩, trivial⟩) ?_
          clear hs
          intro wr hs
          refine ⟨_, rfl, ?_, hs.sub (List.nil_sublist _)⟩
          rw [e]
          first
          | rfl
          | (rw [hk]; rfl)
          )
  · clear hs
    rintro Dd c W0 L0 hi hs
    exact hi.elim
end Go.Proofs.Ytjejdlolgmhljaa

/- Reports: Elements. -/
namespace Go.Proofs.Ytjejdlolgmhljaa
open Go.RowKit
set_option linter.unusedSimpArgs false
set_option linter.unusedVariables false
--newlaws

/-- a part of ours, with its bytes -/
structure PtV where
  lc : Int
  B : Option Addr
  c : Nat
  co : Nat
  l : List Int
def PtV.cells (q : PtV) : List Value := [.int .i64 q.lc, .slice q.B q.l.length q.c]
def PtV.row (q : PtV) : SX.Ent := SX.Ent.row (.slice q.B q.l.length q.co) 5 1 q.l.length (ints .u8 q.l)
def PtV.plain (q : PtV) : Int × List Int := (q.lc, q.l)
def ptsL (sv : Value) (qs : List PtV) : List SX.Ent := SX.Ent.row sv 51 2 qs.length (qs.flatMap PtV.cells) :: qs.map PtV.row
theorem rp_add (go To gr Tr n ln c : Nat) (room lc : Int) (sv e : Value) (B : Option Addr) (cs : List Value) (w : World) (hs : SX.St w (SX.idsOf [SX.Ent.blk go To #[sv], SX.Ent.blk gr Tr #[.int .i64 room], SX.Ent.row sv 51 2 n cs]) w [SX.Ent.blk go To #[sv], SX.Ent.blk gr Tr #[.int .i64 room], SX.Ent.row sv 51 2 n cs])
    (hn : n ≤ 10) (hr : 0 ≤ room ∧ room ≤ 9223372036854775807) (hl : ln ≤ 10) :
    Calls Try.prog 33 #[.agg #[.int .i64 lc, .slice B ln c], e, .pointer (some ⟨go, 0, none⟩), .pointer (some ⟨gr, 0, none⟩)] w (SX.Ret fun v w' => v = .tuple #[] ∧ ∃ sv', SX.St w (SX.idsOf [SX.Ent.blk go To #[sv], SX.Ent.blk gr Tr #[.int .i64 room], SX.Ent.row sv 51 2 n cs]) w' [SX.Ent.blk go To #[sv'], SX.Ent.blk gr Tr #[.int .i64 (room - (1 + (ln : Int)))], SX.Ent.row sv' 51 2 (n + 1) (cs ++ [.int .i64 lc, .slice B ln c])]) := by
  generalize hM : SX.idsOf [SX.Ent.blk go To #[sv], SX.Ent.blk gr Tr #[.int .i64 room], SX.Ent.row sv 51 2 n cs] = M at *
  refine Z.enter Try.func33 rfl Try.ntmps33 rfl rfl ?_
  refine Z.seq ?_
  refine Z.region ?_
  refine Z.le rfl trivial ?_
  refine Z.ZO.box rfl rfl (by rfl) rfl rfl hs ?_
  clear hs; intro g4 w4 hs
  refine Z.lnil ?_
  refine Z.only [2, 3, 4] rfl ?_
  refine Z.nthen ?_
  refine Z.seq ?_
  refine Z.region ?_
  refine Z.l rfl rfl (by rfl) (Z.keepS hs) (by first | exact Z.Yd.load rfl Try.isAgg46 (fun _ => Z.cellB (by first | ((repeat (first | exact List.mem_cons_self | refine List.mem_cons_of_mem _ ?_ | refine List.mem_append_right _ ?_)); done) | fail) rfl) | exact Z.Yd.load rfl Try.isAgg46 (fun _ => Z.cellO (by assumption) (by simp) (by assumption)) | fail "load 1.0") ?_
  refine Z.l rfl rfl (by rfl) (Z.keepS hs) (by first | exact Z.Yd.loadA _ rfl Try.isAgg51 (fun _ => Z.cellsB (by first | ((repeat (first | exact List.mem_cons_self | refine List.mem_cons_of_mem _ ?_ | refine List.mem_append_right _ ?_)); done) | fail)) (by exact Try.sizeOf51) | fail "load 1.1") ?_
  refine Z.le rfl trivial ?_
  refine Z.ZO.litL (T' := 51) [(0, 2)] [.int .i64 0, .slice none 0 0] rfl rfl (by rfl) rfl rfl (by intro W; kernel_rfl) hs ?_
  clear hs; intro g8 w8 hs
  refine Z.le rfl trivial ?_
  refine Z.ZO.append (i0 := Try.t51) (size := 2) (bytes := 32) rfl rfl (by rfl) hs Try.underlying46 (by kernel_rfl) rfl rfl rfl rfl (by decide) rfl rfl (by first | exact SX.at0 | exact SX.at1 | exact SX.at2 | exact SX.at3 | exact SX.at4 | exact SX.at5 | exact Z.at6 | exact Z.at7 | exact Z.at8 | exact Z.at9 | exact Z.at10 | exact Z.at11 | exact Z.at12) (by first | exact SX.at0 | exact SX.at1 | exact SX.at2 | exact SX.at3 | exact SX.at4 | exact SX.at5 | exact Z.at6 | exact Z.at7 | exact Z.at8 | exact Z.at9 | exact Z.at10 | exact Z.at11 | exact Z.at12) (by first | rfl | simp) (by simp [Value.oneCell']) (by decide) (by unfold maxLen; omega) (by omega) ?_
  clear hs; intro g9 cap9 w9 hs
  simp only [List.set_cons_zero, List.set_cons_succ, List.eraseIdx_cons_zero, List.eraseIdx_cons_succ] at hs
  refine Z.le rfl trivial ?_
  first | refine Z.ZO.store rfl rfl hs Try.sizeOf46 rfl rfl rfl (by first | exact SX.at0 | exact SX.at1 | exact SX.at2 | exact SX.at3 | exact SX.at4 | exact SX.at5 | exact Z.at6 | exact Z.at7 | exact Z.at8 | exact Z.at9 | exact Z.at10 | exact Z.at11 | exact Z.at12) (by first | (simp; done) | (simp; omega)) ?_ | refine Z.ZO.storeR rfl rfl hs Try.sizeOf46 rfl rfl rfl (by first | exact SX.at0 | exact SX.at1 | exact SX.at2 | exact SX.at3 | exact SX.at4 | exact SX.at5 | exact Z.at6 | exact Z.at7 | exact Z.at8 | exact Z.at9 | exact Z.at10 | exact Z.at11 | exact Z.at12) (by first | omega | (simp [ints_length]; done) | (simp [ints_length]; omega)) ?_
  clear hs; intro ws hs
  simp only [Nat.zero_add, Nat.add_zero, Nat.reduceAdd, Int.reduceToNat, Nat.reduceMul, List.set_cons_zero, List.set_cons_succ, List.setIfInBounds_toArray] at hs
  refine Z.lnil ?_
  refine Z.only [3, 4] rfl ?_
  refine Z.nthen ?_
  refine Z.region ?_
  refine Z.l rfl rfl (by rfl) (Z.keepS hs) (by first | exact Z.Yd.load rfl Try.isAgg3 (fun _ => Z.cellB (by first | ((repeat (first | exact List.mem_cons_self | refine List.mem_cons_of_mem _ ?_ | refine List.mem_append_right _ ?_)); done) | fail) rfl) | exact Z.Yd.load rfl Try.isAgg3 (fun _ => Z.cellO (by assumption) (by simp) (by assumption)) | fail "load 2.0") ?_
  refine Z.l rfl rfl (by rfl) (Z.keepS hs) (Z.Yd.fieldA (m := 1) rfl (by kernel_rfl)) ?_
  refine Z.l rfl rfl (by rfl) (Z.keepS hs) (by first | exact Z.Yd.load rfl Try.isAgg49 (fun _ => Z.cellB (by first | ((repeat (first | exact List.mem_cons_self | refine List.mem_cons_of_mem _ ?_ | refine List.mem_append_right _ ?_)); done) | fail) rfl) | exact Z.Yd.load rfl Try.isAgg49 (fun _ => Z.cellO (by assumption) (by simp) (by assumption)) | fail "load 2.2") ?_
  refine Z.l rfl rfl (by rfl) (Z.keepS hs) (Z.Yd.lenS rfl Try.underlying49) ?_
  refine Z.l rfl rfl (by rfl) (Z.keepS hs) (Z.Yd.add rfl rfl (fun hG => Z.wi64 (by first | omega | (have hG' := Z.gh rfl hG; simp at hG'; omega)))) ?_
  refine Z.l rfl rfl (by rfl) (Z.keepS hs) (Z.Yd.sub rfl rfl (fun hG => Z.wi64 (by first | omega | (have hG' := Z.gh rfl hG; simp at hG'; omega)))) ?_
  refine Z.le rfl trivial ?_
  first | refine Z.ZO.store rfl rfl hs Try.sizeOf3 rfl rfl rfl (by first | exact SX.at0 | exact SX.at1 | exact SX.at2 | exact SX.at3 | exact SX.at4 | exact SX.at5 | exact Z.at6 | exact Z.at7 | exact Z.at8 | exact Z.at9 | exact Z.at10 | exact Z.at11 | exact Z.at12) (by first | (simp; done) | (simp; omega)) ?_ | refine Z.ZO.storeR rfl rfl hs Try.sizeOf3 rfl rfl rfl (by first | exact SX.at0 | exact SX.at1 | exact SX.at2 | exact SX.at3 | exact SX.at4 | exact SX.at5 | exact Z.at6 | exact Z.at7 | exact Z.at8 | exact Z.at9 | exact Z.at10 | exact Z.at11 | exact Z.at12) (by first | omega | (simp [ints_length]; done) | (simp [ints_length]; omega)) ?_
  clear hs; intro ws hs
  simp only [Nat.zero_add, Nat.add_zero, Nat.reduceAdd, Int.reduceToNat, Nat.reduceMul, List.set_cons_zero, List.set_cons_succ, List.setIfInBounds_toArray] at hs
  refine Z.lnil ?_
  refine Z.only [] rfl ?_
  -- ret#0
  refine Z.out0n trivial ?_
  exact ⟨_, rfl, rfl, _, hs.sel [1, 2, 3] (by decide)⟩
theorem RpV.ok.time {m : RpV} (hm : m.ok) {t : Int} (h : m.now ≤ t ∧ t < 1073741824) : ({ m with now := t } : RpV).ok := by
  obtain ⟨h1, h2, h3, h4, h5, h6, h7, h8, h9, h10, h11⟩ := hm
  exact ⟨h1, by simp only; omega, h3, h4, h5, h6, h7, h8, h9, h10, h11⟩
theorem encL_size (r : RepV) : (encL r).length = if r.long = true then 3 else 1 := by
  unfold encL
  split <;> simp
def okE (m : RpV) (t room : Int) : Prop := (m.now ≤ t ∧ t < 1073741824) ∧ 0 ≤ room
instance (m : RpV) (t room : Int) : Decidable (okE m t room) := by unfold okE; infer_instance
def bufB (m : RpV) (room : Int) : Prop := (m.reg = true ∨ m.per = true) ∧ 2 ≤ room
instance (m : RpV) (room : Int) : Decidable (bufB m room) := by unfold bufB; infer_instance
def elP1 (m : RpV) (room : Int) : List (Int × List Int) := if bufB m room then [(encLc (statV m room), encL (statV m room))] else []
def elR1 (m : RpV) (room : Int) : Int := if bufB m room then room - (1 + ((encL (statV m room)).length : Int)) else room
def elM1 (m : RpV) (t room : Int) : RpV := if bufB m room then { m with now := t, reg := false, per := false, last := t } else { m with now := t }
def powB (m : RpV) (room : Int) : Prop := m.pow = true ∧ 2 ≤ elR1 m room
instance (m : RpV) (room : Int) : Decidable (powB m room) := by unfold powB; infer_instance
def elM (m : RpV) (t room : Int) : RpV := if powB m room then { elM1 m t room with pow := false, fst := false, lastP := t, told := m.head } else elM1 m t room
theorem elR1_le (m : RpV) (room : Int) : elR1 m room ≤ room := by unfold elR1; split <;> omega
def elP (m : RpV) (room : Int) : List (Int × List Int) := elP1 m room ++ if powB m room then [(26, [m.head])] else []
def elsV (m : RpV) (t room : Int) : RpV × List (Int × List Int) × Int := if okE m t room then (elM m t room, elP m room, 0) else (m, [], 2)
theorem RpV.ok.elM1 {m : RpV} (hm : m.ok) {t room : Int} (h : m.now ≤ t ∧ t < 1073741824) : (elM1 m t room).ok := by
  obtain ⟨h1, h2, h3, h4, h5, h6, h7, h8, h9, h10, h11⟩ := hm.time h
  unfold Go.Proofs.Ytjejdlolgmhljaa.elM1
  split
  · exact ⟨h1, h2, h3, h4, h5, h6, h7, h2, h9, h10, fun h => by simp at h⟩
  · exact ⟨h1, h2, h3, h4, h5, h6, h7, h8, h9, h10, h11⟩
theorem elM1_now {m : RpV} {t room : Int} : (elM1 m t room).now = t ∧ (elM1 m t room).head = m.head ∧ (elM1 m t room).pow = m.pow := by unfold elM1; split <;> exact ⟨rfl, rfl, rfl⟩
theorem RpV.ok.elM {m : RpV} (hm : m.ok) {t room : Int} (h : m.now ≤ t ∧ t < 1073741824) : (elM m t room).ok := by
  obtain ⟨h1, h2, h3, h4, h5, h6, h7, h8, h9, h10, h11⟩ := hm.elM1 (room := room) h
  unfold Go.Proofs.Ytjejdlolgmhljaa.elM
  split
  · exact ⟨h1, h2, h3, h4, h5, h6, h7, h8, (by have e := (elM1_now (m := m) (t := t) (room := room)).1; rw [e] at h2; exact h2), hm.head, h11⟩
  · exact ⟨h1, h2, h3, h4, h5, h6, h7, h8, h9, h10, h11⟩
theorem RpV.ok.elsV {m : RpV} (hm : m.ok) (t room : Int) : (elsV m t room).1.ok := by
  unfold Go.Proofs.Ytjejdlolgmhljaa.elsV
  split
  · rename_i h; exact hm.elM h.1
  · exact hm
set_option maxHeartbeats 1000000 in
set_option maxRecDepth 100000 in
theorem rp_elements (g T : Nat) (m : RpV) (t room : Int) (w : World) (hs : SX.St w (SX.idsOf [SX.Ent.blk g T m.cells.toArray]) w [SX.Ent.blk g T m.cells.toArray]) (hm : m.ok) (hroom : room ≤ 9223372036854775807) :
    Calls Try.prog 16 #[.pointer (some ⟨g, 0, none⟩), .int .i64 t, .int .i64 room] w (SX.Ret fun v w' => ∃ sv qs, v = .tuple #[sv, .int .i64 (elsV m t room).2.2] ∧ qs.map PtV.plain = (elsV m t room).2.1 ∧ SX.St w (SX.idsOf [SX.Ent.blk g T m.cells.toArray]) w' (SX.Ent.blk g T (elsV m t room).1.cells.toArray :: ptsL sv qs)) := by
  generalize hM : SX.idsOf [SX.Ent.blk g T m.cells.toArray] = M at *
  replace hs : SX.St w M w [SX.Ent.blk g T #[.bool (m).reg, .bool (m).per, .bool (m).pow, .bool (m).fst, .bool true, .int .i64 (m).c0, .int .i64 (m).c1, .int .i64 (m).c2, .int .i64 (m).c3, .int .i64 (m).now, .int .i64 (m).b0, .int .i64 (m).b1, .int .i64 (m).b2, .int .i64 (m).b3, .int .i64 (m).head, .int .i64 (m).last, .int .i64 (m).lastP, .int .i64 (m).told]] := hs
  refine Z.enter Try.func16 rfl Try.ntmps16 rfl rfl ?_
  refine Z.seq ?_
  refine Z.region ?_
  refine Z.le rfl trivial ?_
  refine Z.ZO.box rfl rfl (by rfl) rfl rfl hs ?_
  clear hs; intro g5 w5 hs
  refine Z.le rfl trivial ?_
  refine Z.ZO.alloc rfl rfl (by rfl) Try.zeroValue46 rfl hs ?_
  clear hs; intro g6 w6 hs
  refine Z.lb 1 rfl ?_
  refine Z.lnil ?_
  refine Z.only [0, 1, 5, 6] rfl ?_
  refine Z.nthen ?_
  refine Z.seq ?_
  refine Z.block ?_
  refine Z.seq ?_
  refine Z.region ?_
  refine Z.lb 1 rfl ?_
  refine Z.le rfl trivial ?_
  refine Z.ZO.call rfl rfl (by rfl) rfl rfl Try.call24 rfl (rp_none g m _ (hs.celOf (by first | ((repeat (first | exact List.mem_cons_self | refine List.mem_cons_of_mem _ ?_ | refine List.mem_append_right _ ?_)); done) | fail))) ?_
  rintro v1_1 w1_1 ⟨rfl, hy⟩
  replace hs := hs.call hy
  clear hy
  try simp only [List.cons_append, List.nil_append, List.append_nil] at hs
  refine Z.lb 1 rfl ?_
  refine Z.lnil ?_
  refine Z.only [0, 1, 5, 6, 9] rfl ?_
  refine Z.nthen ?_
  refine Z.cond rfl (fun h => absurd h (by simp)) (fun hc1 => ?_)
  refine Z.seq ?_
  refine Z.region ?_
  refine Z.lb 2 rfl ?_
  refine Z.le rfl trivial ?_
  refine Z.ZO.call rfl rfl (by rfl) rfl rfl Try.call25 rfl (rp_valid g m t _ (hs.celOf (by first | ((repeat (first | exact List.mem_cons_self | refine List.mem_cons_of_mem _ ?_ | refine List.mem_append_right _ ?_)); done) | fail))) ?_
  rintro v3_2 w3_2 ⟨rfl, hy⟩
  replace hs := hs.call hy
  clear hy
  try simp only [List.cons_append, List.nil_append, List.append_nil] at hs
  refine Z.lb 2 rfl ?_
  refine Z.l rfl rfl (by rfl) (Z.keepS hs) (by first | exact Z.Yd.load rfl Try.isAgg3 (fun _ => Z.cellB (by first | ((repeat (first | exact List.mem_cons_self | refine List.mem_cons_of_mem _ ?_ | refine List.mem_append_right _ ?_)); done) | fail) rfl) | exact Z.Yd.load rfl Try.isAgg3 (fun _ => Z.cellO (by assumption) (by simp) (by assumption)) | fail "load 3.5") ?_
  refine Z.lb 3 rfl ?_
  refine Z.lnil ?_
  refine Z.only [0, 1, 5, 6, 12] rfl ?_
  refine Z.nthen ?_
  refine Z.cond rfl (fun hc3 => ?_) (fun hc3 => ?_)
  · first
      | (exfalso; simp at hc3 <;> omega)
      | (
        (try simp at hc3)
        have e : elsV m t room = (m, [], 2) := if_neg (by unfold okE; simp_all <;> omega)
        rw [e]
        refine Z.seq ?_
        refine Z.region ?_
        refine Z.le rfl trivial ?_
        first | refine Z.ZO.store rfl rfl hs Try.sizeOf46 rfl rfl rfl (by first | exact SX.at0 | exact SX.at1 | exact SX.at2 | exact SX.at3 | exact SX.at4 | exact SX.at5 | exact Z.at6 | exact Z.at7 | exact Z.at8 | exact Z.at9 | exact Z.at10 | exact Z.at11 | exact Z.at12) (by first | (simp; done) | (simp; omega)) ?_ | refine Z.ZO.storeR rfl rfl hs Try.sizeOf46 rfl rfl rfl (by first | exact SX.at0 | exact SX.at1 | exact SX.at2 | exact SX.at3 | exact SX.at4 | exact SX.at5 | exact Z.at6 | exact Z.at7 | exact Z.at8 | exact Z.at9 | exact Z.at10 | exact Z.at11 | exact Z.at12) (by first | omega | (simp [ints_length]; done) | (simp [ints_length]; omega)) ?_
        clear hs; intro ws hs
        simp only [Nat.zero_add, Nat.add_zero, Nat.reduceAdd, Int.reduceToNat, Nat.reduceMul, List.set_cons_zero, List.set_cons_succ, List.setIfInBounds_toArray] at hs
        refine Z.lb 1 rfl ?_
        refine Z.lnil ?_
        refine Z.only [6, 7] rfl ?_
        refine Z.nthen ?_
        refine Z.ret ?_
        repeat (first | refine Z.rthen ?_ | refine Z.rblock ?_ | refine Z.rscope ?_)
        -- ret#0
        refine Z.out2 (by exact ⟨⟨_, rfl, Z.rvc hs Try.isAgg46 (by first | ((repeat (first | exact List.mem_cons_self | refine List.mem_cons_of_mem _ ?_ | refine List.mem_append_right _ ?_)); done) | fail) rfl⟩, rfl, trivial⟩) ?_
        first
        | exact ⟨_, rfl, _, [], rfl, rfl, (hs.nil 51 2).sel [3, 0] (by decide)⟩
        | refine ⟨_, rfl, _, qs, rfl, by rw [hqs]; unfold elP; rw [if_neg hpow, List.append_nil], by rw [show elM m t room = elM1 m t room from if_neg hpow, ← hm1]; exact SX.St.selT (L1 := [_, _, _, _]) hs [3, 2] (by decide)⟩
        | (refine ⟨_, rfl, _, qs ++ [⟨26, B, 1, co, [m1.head]⟩], rfl, ?_, ?_⟩
           · rw [List.map_append, hqs]; unfold elP; rw [if_pos hpow, ← eh]; rfl
           · rw [show elM m t room = { m1 with pow := false, fst := false, lastP := t, told := m1.head } by simp only [elM, if_pos hpow, ← hm1, eh]]
             have h2 := (SX.St.selT (L1 := [_, _, _, _, _]) hs [3, 2, 4] (by decide))
             have h3 : SX.St w M _ ([_, _] ++ (qs.map PtV.row ++ [_])) := SX.St.perm (show SX.St w M _ ([_, _] ++ ([_] ++ qs.map PtV.row)) from h2) (List.Perm.append_left _ List.perm_append_comm)
             simp only [ptsL, List.length_append, List.length_singleton, List.flatMap_append, List.map_append, List.map_cons, List.map_nil, List.flatMap_cons, List.flatMap_nil, List.append_nil]
             exact h3)
        )
  · first
      | (exfalso; simp at hc3 <;> omega)
      | (
        (try simp at hc3)
        have hok : okE m t room := by unfold okE; simp_all <;> omega
        have e : elsV m t room = (elM m t room, elP m room, 0) := if_pos hok
        rw [e]
        refine Z.skip ?_
        refine Z.nblock ?_
        refine Z.nthen ?_
        refine Z.seq ?_
        refine Z.region ?_
        refine Z.lb 2 rfl ?_
        refine Z.l rfl rfl (by rfl) (Z.keepS hs) (Z.Yd.nilc rfl rfl) ?_
        refine Z.l rfl rfl (by rfl) (Z.keepS hs) (Z.Yd.fieldA (m := 9) rfl (by kernel_rfl)) ?_
        refine Z.le rfl trivial ?_
        first | refine Z.ZO.store rfl rfl hs Try.sizeOf3 rfl rfl rfl (by first | exact SX.at0 | exact SX.at1 | exact SX.at2 | exact SX.at3 | exact SX.at4 | exact SX.at5 | exact Z.at6 | exact Z.at7 | exact Z.at8 | exact Z.at9 | exact Z.at10 | exact Z.at11 | exact Z.at12) (by first | (simp; done) | (simp; omega)) ?_ | refine Z.ZO.storeR rfl rfl hs Try.sizeOf3 rfl rfl rfl (by first | exact SX.at0 | exact SX.at1 | exact SX.at2 | exact SX.at3 | exact SX.at4 | exact SX.at5 | exact Z.at6 | exact Z.at7 | exact Z.at8 | exact Z.at9 | exact Z.at10 | exact Z.at11 | exact Z.at12) (by first | omega | (simp [ints_length]; done) | (simp [ints_length]; omega)) ?_
        clear hs; intro ws hs
        simp only [Nat.zero_add, Nat.add_zero, Nat.reduceAdd, Int.reduceToNat, Nat.reduceMul, List.set_cons_zero, List.set_cons_succ, List.setIfInBounds_toArray] at hs
        refine Z.lnil ?_
        refine Z.only [0, 1, 5, 6] rfl ?_
        refine Z.nthen ?_
        refine Z.seq ?_
        refine Z.region ?_
        refine Z.lb 2 rfl ?_
        refine Z.lnil ?_
        refine Z.only [0, 1, 5, 6, 8] rfl ?_
        refine Z.nthen ?_
        refine Z.seq ?_
        refine Z.seq ?_
        refine Z.region ?_
        refine Z.lb 1 rfl ?_
        refine Z.l rfl rfl (by rfl) (Z.keepS hs) (Z.Yd.nilc rfl rfl) ?_
        refine Z.l rfl rfl (by rfl) (Z.keepS hs) (Z.Yd.fieldA (m := 0) rfl (by kernel_rfl)) ?_
        refine Z.l rfl rfl (by rfl) (Z.keepS hs) (Z.Yd.loadA _ rfl Try.isAgg64 (fun _ => Z.cellsBo (cs := ({ m with now := t } : RpV).cells) [.bool m.reg, .bool m.per, .bool m.pow, .bool m.fst] (by first | ((repeat (first | exact List.mem_cons_self | refine List.mem_cons_of_mem _ ?_ | refine List.mem_append_right _ ?_)); done) | fail) ⟨List.replicate 0 (.bool true) ++ ({ m with now := t } : RpV).cells.drop 4, rfl⟩) (by exact Try.sizeOf64)) ?_
        refine Z.le rfl trivial ?_
        refine Z.ZO.call rfl rfl (by rfl) rfl rfl Try.call32 rfl (rp_buffer m.reg m.per m.pow m.fst _) ?_
        rintro v7_4 w7_4 ⟨rfl, hy⟩
        replace hs := hs.call hy
        clear hy
        try simp only [List.cons_append, List.nil_append, List.append_nil] at hs
        refine Z.lb 1 rfl ?_
        refine Z.l rfl rfl (by rfl) (Z.keepS hs) (by first | exact Z.Yd.load rfl Try.isAgg3 (fun _ => Z.cellB (by first | ((repeat (first | exact List.mem_cons_self | refine List.mem_cons_of_mem _ ?_ | refine List.mem_append_right _ ?_)); done) | fail) rfl) | exact Z.Yd.load rfl Try.isAgg3 (fun _ => Z.cellO (by assumption) (by simp) (by assumption)) | fail "load 7.6") ?_
        refine Z.lb 2 rfl ?_
        refine Z.lnil ?_
        refine Z.only [0, 1, 5, 6, 8, 34] rfl ?_
        refine Z.nthen ?_
        refine Z.cutt (ι := Value × List PtV) [0, 1, 5, 6, 8] rfl (fun _ => []) (fun x wr => x.2.map PtV.plain = elP1 m room ∧ SX.St w M wr (SX.Ent.blk g6 46 #[x.1] :: SX.Ent.blk g5 3 #[.int .i64 (elR1 m room)] :: SX.Ent.row x.1 51 2 x.2.length (x.2.flatMap PtV.cells) :: SX.Ent.blk g T (elM1 m t room).cells.toArray :: x.2.map PtV.row)) ?_ ?_
        · skip
          refine Z.cond rfl (fun hc7 => ?_) (fun hc7 => ?_)
          · first
              | (exfalso; simp at hc7 <;> omega)
              | (
                (try simp at hc7)
                have hbuf : bufB m room := by unfold bufB; simp_all
                refine Z.seq ?_
                refine Z.region ?_
                refine Z.lb 2 rfl ?_
                refine Z.l rfl rfl (by rfl) (Z.keepS hs) (by first | exact Z.Yd.load rfl Try.isAgg3 (fun _ => Z.cellB (by first | ((repeat (first | exact List.mem_cons_self | refine List.mem_cons_of_mem _ ?_ | refine List.mem_append_right _ ?_)); done) | fail) rfl) | exact Z.Yd.load rfl Try.isAgg3 (fun _ => Z.cellO (by assumption) (by simp) (by assumption)) | fail "load 8.2") ?_
                refine Z.le rfl trivial ?_
                refine Z.ZO.call rfl rfl (by rfl) rfl rfl Try.call35 rfl (rp_status g { m with now := t } room _ (hs.celOf (by first | ((repeat (first | exact List.mem_cons_self | refine List.mem_cons_of_mem _ ?_ | refine List.mem_append_right _ ?_)); done) | fail)) (hm.time hok.1) (hm.full hbuf.1)) ?_
                rintro v8_3 w8_3 ⟨rfl, hy⟩
                replace hs := hs.call hy
                clear hy
                try simp only [List.cons_append, List.nil_append, List.append_nil] at hs
                refine Z.le rfl trivial ?_
                refine Z.ZO.call rfl rfl (by rfl) rfl rfl Try.call34 rfl (encrep_ok (statV m room) _ (statV_ok m room (hm.full hbuf.1))) ?_
                rintro v8_4 w8_4 ⟨u, rfl, ⟨B, co, rfl, hy⟩⟩
                replace hs := hs.call hy
                clear hy
                try simp only [List.cons_append, List.nil_append, List.append_nil] at hs
                replace hs : SX.St w M _ ([SX.Ent.blk g6 _ _, SX.Ent.blk g5 _ _, SX.Ent.row _ _ _ _ _] ++ [SX.Ent.blk g T #[.bool ({ m with now := t }).reg, .bool ({ m with now := t }).per, .bool ({ m with now := t }).pow, .bool ({ m with now := t }).fst, .bool true, .int .i64 ({ m with now := t }).c0, .int .i64 ({ m with now := t }).c1, .int .i64 ({ m with now := t }).c2, .int .i64 ({ m with now := t }).c3, .int .i64 ({ m with now := t }).now, .int .i64 ({ m with now := t }).b0, .int .i64 ({ m with now := t }).b1, .int .i64 ({ m with now := t }).b2, .int .i64 ({ m with now := t }).b3, .int .i64 ({ m with now := t }).head, .int .i64 ({ m with now := t }).last, .int .i64 ({ m with now := t }).lastP, .int .i64 ({ m with now := t }).told], SX.Ent.row _ _ _ _ _]) := (hs.nil 51 2).sel [2, 3, 0, 4, 1] (by decide)
                refine Z.lb 2 rfl ?_
                refine Z.le rfl trivial ?_
                refine Z.ZO.call rfl rfl (by rfl) rfl rfl Try.call33 rfl (rp_add g6 _ g5 _ _ _ _ _ _ _ _ _ _ _ (hs.lend (L1 := [_, _, _])) (by decide) ⟨by omega, hroom⟩ (by rw [encL_size]; split <;> omega)) ?_
                rintro v8_7 w8_7 ⟨rfl, sv, hz⟩
                replace hs := hs.regain (L1 := [_, _, _]) hz
                refine Z.lnil ?_
                refine Z.only [0, 1, 5, 6, 8] rfl ?_
                refine Z.nthen ?_
                refine Z.region ?_
                refine Z.lb 4 rfl ?_
                refine Z.l rfl rfl (by rfl) (Z.keepS hs) (Z.Yd.nilc rfl rfl) ?_
                refine Z.l rfl rfl (by rfl) (Z.keepS hs) (Z.Yd.fieldA (m := 0) rfl (by kernel_rfl)) ?_
                refine Z.l rfl rfl (by rfl) (Z.keepS hs) (Z.Yd.fieldA (m := 0) rfl (by kernel_rfl)) ?_
                refine Z.le rfl trivial ?_
                first | refine Z.ZO.store rfl rfl hs Try.sizeOf4 rfl rfl rfl (by first | exact SX.at0 | exact SX.at1 | exact SX.at2 | exact SX.at3 | exact SX.at4 | exact SX.at5 | exact Z.at6 | exact Z.at7 | exact Z.at8 | exact Z.at9 | exact Z.at10 | exact Z.at11 | exact Z.at12) (by first | (simp; done) | (simp; omega)) ?_ | refine Z.ZO.storeR rfl rfl hs Try.sizeOf4 rfl rfl rfl (by first | exact SX.at0 | exact SX.at1 | exact SX.at2 | exact SX.at3 | exact SX.at4 | exact SX.at5 | exact Z.at6 | exact Z.at7 | exact Z.at8 | exact Z.at9 | exact Z.at10 | exact Z.at11 | exact Z.at12) (by first | omega | (simp [ints_length]; done) | (simp [ints_length]; omega)) ?_
                clear hs; intro ws hs
                simp only [Nat.zero_add, Nat.add_zero, Nat.reduceAdd, Int.reduceToNat, Nat.reduceMul, List.set_cons_zero, List.set_cons_succ, List.setIfInBounds_toArray] at hs
                refine Z.l rfl rfl (by rfl) (Z.keepS hs) (Z.Yd.nilc rfl rfl) ?_
                refine Z.l rfl rfl (by rfl) (Z.keepS hs) (Z.Yd.fieldA (m := 0) rfl (by kernel_rfl)) ?_
                refine Z.l rfl rfl (by rfl) (Z.keepS hs) (Z.Yd.fieldA (m := 1) rfl (by kernel_rfl)) ?_
                refine Z.le rfl trivial ?_
                first | refine Z.ZO.store rfl rfl hs Try.sizeOf4 rfl rfl rfl (by first | exact SX.at0 | exact SX.at1 | exact SX.at2 | exact SX.at3 | exact SX.at4 | exact SX.at5 | exact Z.at6 | exact Z.at7 | exact Z.at8 | exact Z.at9 | exact Z.at10 | exact Z.at11 | exact Z.at12) (by first | (simp; done) | (simp; omega)) ?_ | refine Z.ZO.storeR rfl rfl hs Try.sizeOf4 rfl rfl rfl (by first | exact SX.at0 | exact SX.at1 | exact SX.at2 | exact SX.at3 | exact SX.at4 | exact SX.at5 | exact Z.at6 | exact Z.at7 | exact Z.at8 | exact Z.at9 | exact Z.at10 | exact Z.at11 | exact Z.at12) (by first | omega | (simp [ints_length]; done) | (simp [ints_length]; omega)) ?_
                clear hs; intro ws hs
                simp only [Nat.zero_add, Nat.add_zero, Nat.reduceAdd, Int.reduceToNat, Nat.reduceMul, List.set_cons_zero, List.set_cons_succ, List.setIfInBounds_toArray] at hs
                refine Z.l rfl rfl (by rfl) (Z.keepS hs) (Z.Yd.nilc rfl rfl) ?_
                refine Z.l rfl rfl (by rfl) (Z.keepS hs) (Z.Yd.fieldA (m := 15) rfl (by kernel_rfl)) ?_
                refine Z.le rfl trivial ?_
                first | refine Z.ZO.store rfl rfl hs Try.sizeOf3 rfl rfl rfl (by first | exact SX.at0 | exact SX.at1 | exact SX.at2 | exact SX.at3 | exact SX.at4 | exact SX.at5 | exact Z.at6 | exact Z.at7 | exact Z.at8 | exact Z.at9 | exact Z.at10 | exact Z.at11 | exact Z.at12) (by first | (simp; done) | (simp; omega)) ?_ | refine Z.ZO.storeR rfl rfl hs Try.sizeOf3 rfl rfl rfl (by first | exact SX.at0 | exact SX.at1 | exact SX.at2 | exact SX.at3 | exact SX.at4 | exact SX.at5 | exact Z.at6 | exact Z.at7 | exact Z.at8 | exact Z.at9 | exact Z.at10 | exact Z.at11 | exact Z.at12) (by first | omega | (simp [ints_length]; done) | (simp [ints_length]; omega)) ?_
                clear hs; intro ws hs
                simp only [Nat.zero_add, Nat.add_zero, Nat.reduceAdd, Int.reduceToNat, Nat.reduceMul, List.set_cons_zero, List.set_cons_succ, List.setIfInBounds_toArray] at hs
                refine Z.lnil ?_
                refine Z.only [0, 1, 5, 6, 8] rfl ?_
                refine Z.nthen ?_
                first | exact Z.meet (.slice none 0 0, []) (by refine ⟨?_, ?_, ?_, ?_, ?_, trivial⟩ <;> (first | rfl | (refine Z.lookv rfl ?_; simp; done) | (refine Z.lookv rfl ?_; simp; omega))) ⟨by rw [show elP1 m room = [] from if_neg hbuf]; rfl, by rw [show elR1 m room = room from if_neg hbuf, show elM1 m t room = { m with now := t } from if_neg hbuf]; exact (hs.nil 51 2).sel [1, 2, 0, 3] (by decide)⟩ | exact Z.meet (sv, [⟨_, B, _, co, _⟩]) (by refine ⟨?_, ?_, ?_, ?_, ?_, trivial⟩ <;> (first | rfl | (refine Z.lookv rfl ?_; simp; done) | (refine Z.lookv rfl ?_; simp; omega))) ⟨by rw [show elP1 m room = _ from if_pos hbuf]; rfl, by rw [show elR1 m room = _ from if_pos hbuf, show elM1 m t room = _ from if_pos hbuf]; exact hs⟩
                )
          · first
              | (exfalso; simp at hc7 <;> omega)
              | (
                (try simp at hc7)
                have hbuf : ¬ bufB m room := by unfold bufB; simp_all <;> omega
                refine Z.skip ?_
                refine Z.nthen ?_
                first | exact Z.meet (.slice none 0 0, []) (by refine ⟨?_, ?_, ?_, ?_, ?_, trivial⟩ <;> (first | rfl | (refine Z.lookv rfl ?_; simp; done) | (refine Z.lookv rfl ?_; simp; omega))) ⟨by rw [show elP1 m room = [] from if_neg hbuf]; rfl, by rw [show elR1 m room = room from if_neg hbuf, show elM1 m t room = { m with now := t } from if_neg hbuf]; exact (hs.nil 51 2).sel [1, 2, 0, 3] (by decide)⟩ | exact Z.meet (sv, [⟨_, B, _, co, _⟩]) (by refine ⟨?_, ?_, ?_, ?_, ?_, trivial⟩ <;> (first | rfl | (refine Z.lookv rfl ?_; simp; done) | (refine Z.lookv rfl ?_; simp; omega))) ⟨by rw [show elP1 m room = _ from if_pos hbuf]; rfl, by rw [show elR1 m room = _ from if_pos hbuf, show elM1 m t room = _ from if_pos hbuf]; exact hs⟩
                )
        · clear hs
          rintro ⟨sv, qs⟩ w7 ⟨hqs, hs⟩
          refine Z.only [0, 1, 5, 6, 8] rfl ?_
          (try dsimp only at hs)
          dsimp only at hqs hs
          have hmo := hm.elM1 (room := room) hok.1
          obtain ⟨en, eh, ep⟩ := elM1_now (m := m) (t := t) (room := room)
          have hle := elR1_le m room
          have hql : qs.length ≤ 1 := by rw [← List.length_map (f := PtV.plain), hqs]; unfold elP1; split <;> simp
          obtain ⟨A, cA, rfl, hcA, -, -⟩ := SX.row_slv hs (j := 2) rfl
          obtain ⟨m1, hm1⟩ : ∃ m1, m1 = elM1 m t room := ⟨_, rfl⟩
          rw [← hm1] at hs hmo en eh ep
          replace hs : SX.St w M w7 ([SX.Ent.blk g6 46 #[.slice A qs.length cA], SX.Ent.blk g5 3 #[.int .i64 (elR1 m room)], SX.Ent.row (.slice A qs.length cA) 51 2 qs.length (qs.flatMap PtV.cells), SX.Ent.blk g T #[.bool (m1).reg, .bool (m1).per, .bool (m1).pow, .bool (m1).fst, .bool true, .int .i64 (m1).c0, .int .i64 (m1).c1, .int .i64 (m1).c2, .int .i64 (m1).c3, .int .i64 (m1).now, .int .i64 (m1).b0, .int .i64 (m1).b1, .int .i64 (m1).b2, .int .i64 (m1).b3, .int .i64 (m1).head, .int .i64 (m1).last, .int .i64 (m1).lastP, .int .i64 (m1).told]] ++ qs.map PtV.row) := hs
          refine Z.seq ?_
          refine Z.seq ?_
          refine Z.region ?_
          refine Z.lb 1 rfl ?_
          refine Z.l rfl rfl (by rfl) (Z.keepS hs) (Z.Yd.nilc rfl rfl) ?_
          refine Z.l rfl rfl (by rfl) (Z.keepS hs) (Z.Yd.fieldA (m := 0) rfl (by kernel_rfl)) ?_
          refine Z.l rfl rfl (by rfl) (Z.keepS hs) (Z.Yd.fieldA (m := 2) rfl (by kernel_rfl)) ?_
          refine Z.l rfl rfl (by rfl) (Z.keepS hs) (by first | exact Z.Yd.load rfl Try.isAgg4 (fun _ => Z.cellB (by first | ((repeat (first | exact List.mem_cons_self | refine List.mem_cons_of_mem _ ?_ | refine List.mem_append_right _ ?_)); done) | fail) rfl) | exact Z.Yd.load rfl Try.isAgg4 (fun _ => Z.cellO (by assumption) (by simp) (by assumption)) | fail "load 10.4") ?_
          refine Z.lb 1 rfl ?_
          refine Z.l rfl rfl (by rfl) (Z.keepS hs) (by first | exact Z.Yd.load rfl Try.isAgg3 (fun _ => Z.cellB (by first | ((repeat (first | exact List.mem_cons_self | refine List.mem_cons_of_mem _ ?_ | refine List.mem_append_right _ ?_)); done) | fail) rfl) | exact Z.Yd.load rfl Try.isAgg3 (fun _ => Z.cellO (by assumption) (by simp) (by assumption)) | fail "load 10.6") ?_
          refine Z.lb 2 rfl ?_
          refine Z.lnil ?_
          refine Z.only [0, 1, 6, 8, 63] rfl ?_
          refine Z.nthen ?_
          refine Z.cond rfl (fun hc10 => ?_) (fun hc10 => ?_)
          · first
              | (exfalso; simp at hc10 <;> omega)
              | (
                (try simp at hc10)
                have hpow : powB m room := by unfold powB; rw [← ep]; simp_all
                refine Z.seq ?_
                refine Z.region ?_
                refine Z.lb 2 rfl ?_
                refine Z.l rfl rfl (by rfl) (Z.keepS hs) (Z.Yd.nilc rfl rfl) ?_
                refine Z.l rfl rfl (by rfl) (Z.keepS hs) (Z.Yd.fieldA (m := 14) rfl (by kernel_rfl)) ?_
                refine Z.l rfl rfl (by rfl) (Z.keepS hs) (by first | exact Z.Yd.load rfl Try.isAgg3 (fun _ => Z.cellB (by first | ((repeat (first | exact List.mem_cons_self | refine List.mem_cons_of_mem _ ?_ | refine List.mem_append_right _ ?_)); done) | fail) rfl) | exact Z.Yd.load rfl Try.isAgg3 (fun _ => Z.cellO (by assumption) (by simp) (by assumption)) | fail "load 11.4") ?_
                refine Z.le rfl trivial ?_
                refine Z.ZO.call rfl rfl (by rfl) rfl rfl Try.call36 rfl (encpow_ok m1.head _ hmo.head) ?_
                rintro v11_5 w11_5 ⟨u, rfl, ⟨B, co, rfl, hy⟩⟩
                replace hs := hs.call hy
                clear hy
                try simp only [List.cons_append, List.nil_append, List.append_nil] at hs
                replace hs : SX.St w M _ ([SX.Ent.blk g6 _ _, SX.Ent.blk g5 _ _, SX.Ent.row _ _ _ _ _] ++ ([SX.Ent.blk g T #[.bool (m1).reg, .bool (m1).per, .bool (m1).pow, .bool (m1).fst, .bool true, .int .i64 (m1).c0, .int .i64 (m1).c1, .int .i64 (m1).c2, .int .i64 (m1).c3, .int .i64 (m1).now, .int .i64 (m1).b0, .int .i64 (m1).b1, .int .i64 (m1).b2, .int .i64 (m1).b3, .int .i64 (m1).head, .int .i64 (m1).last, .int .i64 (m1).lastP, .int .i64 (m1).told], SX.Ent.row _ _ _ _ _] ++ qs.map PtV.row)) := SX.St.selT (L1 := [_, _, _, _, _]) hs [1, 2, 3, 4, 0] (by decide)
                refine Z.lb 2 rfl ?_
                refine Z.le rfl trivial ?_
                refine Z.ZO.call rfl rfl (by rfl) rfl rfl Try.call33 rfl (rp_add g6 _ g5 _ _ _ _ _ _ _ _ _ _ _ hs.lend (by omega) ⟨by simp_all <;> omega, by omega⟩ (by simp)) ?_
                rintro v11_8 w11_8 ⟨rfl, sv, hz⟩
                replace hs := hs.regain hz
                obtain ⟨A2, c2, rfl, -, -, -⟩ := SX.row_slv hs (j := 2) rfl
                replace hs : SX.St w M _ ([SX.Ent.blk g6 _ _, SX.Ent.blk g5 _ _, SX.Ent.row _ _ _ _ _, SX.Ent.blk g T #[.bool (m1).reg, .bool (m1).per, .bool (m1).pow, .bool (m1).fst, .bool true, .int .i64 (m1).c0, .int .i64 (m1).c1, .int .i64 (m1).c2, .int .i64 (m1).c3, .int .i64 (m1).now, .int .i64 (m1).b0, .int .i64 (m1).b1, .int .i64 (m1).b2, .int .i64 (m1).b3, .int .i64 (m1).head, .int .i64 (m1).last, .int .i64 (m1).lastP, .int .i64 (m1).told], SX.Ent.row _ _ _ _ _] ++ qs.map PtV.row) := hs
                refine Z.lnil ?_
                refine Z.only [0, 1, 6] rfl ?_
                refine Z.nthen ?_
                refine Z.region ?_
                refine Z.lb 6 rfl ?_
                refine Z.l rfl rfl (by rfl) (Z.keepS hs) (Z.Yd.nilc rfl rfl) ?_
                refine Z.l rfl rfl (by rfl) (Z.keepS hs) (Z.Yd.fieldA (m := 14) rfl (by kernel_rfl)) ?_
                refine Z.l rfl rfl (by rfl) (Z.keepS hs) (by first | exact Z.Yd.load rfl Try.isAgg3 (fun _ => Z.cellB (by first | ((repeat (first | exact List.mem_cons_self | refine List.mem_cons_of_mem _ ?_ | refine List.mem_append_right _ ?_)); done) | fail) rfl) | exact Z.Yd.load rfl Try.isAgg3 (fun _ => Z.cellO (by assumption) (by simp) (by assumption)) | fail "load 12.8") ?_
                refine Z.l rfl rfl (by rfl) (Z.keepS hs) (Z.Yd.nilc rfl rfl) ?_
                refine Z.l rfl rfl (by rfl) (Z.keepS hs) (Z.Yd.fieldA (m := 0) rfl (by kernel_rfl)) ?_
                refine Z.l rfl rfl (by rfl) (Z.keepS hs) (Z.Yd.fieldA (m := 2) rfl (by kernel_rfl)) ?_
                refine Z.le rfl trivial ?_
                first | refine Z.ZO.store rfl rfl hs Try.sizeOf4 rfl rfl rfl (by first | exact SX.at0 | exact SX.at1 | exact SX.at2 | exact SX.at3 | exact SX.at4 | exact SX.at5 | exact Z.at6 | exact Z.at7 | exact Z.at8 | exact Z.at9 | exact Z.at10 | exact Z.at11 | exact Z.at12) (by first | (simp; done) | (simp; omega)) ?_ | refine Z.ZO.storeR rfl rfl hs Try.sizeOf4 rfl rfl rfl (by first | exact SX.at0 | exact SX.at1 | exact SX.at2 | exact SX.at3 | exact SX.at4 | exact SX.at5 | exact Z.at6 | exact Z.at7 | exact Z.at8 | exact Z.at9 | exact Z.at10 | exact Z.at11 | exact Z.at12) (by first | omega | (simp [ints_length]; done) | (simp [ints_length]; omega)) ?_
                clear hs; intro ws hs
                simp only [Nat.zero_add, Nat.add_zero, Nat.reduceAdd, Int.reduceToNat, Nat.reduceMul, List.set_cons_zero, List.set_cons_succ, List.setIfInBounds_toArray] at hs
                refine Z.l rfl rfl (by rfl) (Z.keepS hs) (Z.Yd.nilc rfl rfl) ?_
                refine Z.l rfl rfl (by rfl) (Z.keepS hs) (Z.Yd.fieldA (m := 0) rfl (by kernel_rfl)) ?_
                refine Z.l rfl rfl (by rfl) (Z.keepS hs) (Z.Yd.fieldA (m := 3) rfl (by kernel_rfl)) ?_
                refine Z.le rfl trivial ?_
                first | refine Z.ZO.store rfl rfl hs Try.sizeOf4 rfl rfl rfl (by first | exact SX.at0 | exact SX.at1 | exact SX.at2 | exact SX.at3 | exact SX.at4 | exact SX.at5 | exact Z.at6 | exact Z.at7 | exact Z.at8 | exact Z.at9 | exact Z.at10 | exact Z.at11 | exact Z.at12) (by first | (simp; done) | (simp; omega)) ?_ | refine Z.ZO.storeR rfl rfl hs Try.sizeOf4 rfl rfl rfl (by first | exact SX.at0 | exact SX.at1 | exact SX.at2 | exact SX.at3 | exact SX.at4 | exact SX.at5 | exact Z.at6 | exact Z.at7 | exact Z.at8 | exact Z.at9 | exact Z.at10 | exact Z.at11 | exact Z.at12) (by first | omega | (simp [ints_length]; done) | (simp [ints_length]; omega)) ?_
                clear hs; intro ws hs
                simp only [Nat.zero_add, Nat.add_zero, Nat.reduceAdd, Int.reduceToNat, Nat.reduceMul, List.set_cons_zero, List.set_cons_succ, List.setIfInBounds_toArray] at hs
                refine Z.l rfl rfl (by rfl) (Z.keepS hs) (Z.Yd.nilc rfl rfl) ?_
                refine Z.l rfl rfl (by rfl) (Z.keepS hs) (Z.Yd.fieldA (m := 16) rfl (by kernel_rfl)) ?_
                refine Z.le rfl trivial ?_
                first | refine Z.ZO.store rfl rfl hs Try.sizeOf3 rfl rfl rfl (by first | exact SX.at0 | exact SX.at1 | exact SX.at2 | exact SX.at3 | exact SX.at4 | exact SX.at5 | exact Z.at6 | exact Z.at7 | exact Z.at8 | exact Z.at9 | exact Z.at10 | exact Z.at11 | exact Z.at12) (by first | (simp; done) | (simp; omega)) ?_ | refine Z.ZO.storeR rfl rfl hs Try.sizeOf3 rfl rfl rfl (by first | exact SX.at0 | exact SX.at1 | exact SX.at2 | exact SX.at3 | exact SX.at4 | exact SX.at5 | exact Z.at6 | exact Z.at7 | exact Z.at8 | exact Z.at9 | exact Z.at10 | exact Z.at11 | exact Z.at12) (by first | omega | (simp [ints_length]; done) | (simp [ints_length]; omega)) ?_
                clear hs; intro ws hs
                simp only [Nat.zero_add, Nat.add_zero, Nat.reduceAdd, Int.reduceToNat, Nat.reduceMul, List.set_cons_zero, List.set_cons_succ, List.setIfInBounds_toArray] at hs
                refine Z.l rfl rfl (by rfl) (Z.keepS hs) (Z.Yd.nilc rfl rfl) ?_
                refine Z.l rfl rfl (by rfl) (Z.keepS hs) (Z.Yd.fieldA (m := 17) rfl (by kernel_rfl)) ?_
                refine Z.le rfl trivial ?_
                first | refine Z.ZO.store rfl rfl hs Try.sizeOf3 rfl rfl rfl (by first | exact SX.at0 | exact SX.at1 | exact SX.at2 | exact SX.at3 | exact SX.at4 | exact SX.at5 | exact Z.at6 | exact Z.at7 | exact Z.at8 | exact Z.at9 | exact Z.at10 | exact Z.at11 | exact Z.at12) (by first | (simp; done) | (simp; omega)) ?_ | refine Z.ZO.storeR rfl rfl hs Try.sizeOf3 rfl rfl rfl (by first | exact SX.at0 | exact SX.at1 | exact SX.at2 | exact SX.at3 | exact SX.at4 | exact SX.at5 | exact Z.at6 | exact Z.at7 | exact Z.at8 | exact Z.at9 | exact Z.at10 | exact Z.at11 | exact Z.at12) (by first | omega | (simp [ints_length]; done) | (simp [ints_length]; omega)) ?_
                clear hs; intro ws hs
                simp only [Nat.zero_add, Nat.add_zero, Nat.reduceAdd, Int.reduceToNat, Nat.reduceMul, List.set_cons_zero, List.set_cons_succ, List.setIfInBounds_toArray] at hs
                refine Z.lnil ?_
                refine Z.only [6] rfl ?_
                refine Z.nthen ?_
                refine Z.seq ?_
                refine Z.region ?_
                refine Z.l rfl rfl (by rfl) (Z.keepS hs) (by first | exact Z.Yd.load rfl Try.isAgg46 (fun _ => Z.cellB (by first | ((repeat (first | exact List.mem_cons_self | refine List.mem_cons_of_mem _ ?_ | refine List.mem_append_right _ ?_)); done) | fail) rfl) | exact Z.Yd.load rfl Try.isAgg46 (fun _ => Z.cellO (by assumption) (by simp) (by assumption)) | fail "load 13.0") ?_
                refine Z.le rfl trivial ?_
                first | refine Z.ZO.store rfl rfl hs Try.sizeOf46 rfl rfl rfl (by first | exact SX.at0 | exact SX.at1 | exact SX.at2 | exact SX.at3 | exact SX.at4 | exact SX.at5 | exact Z.at6 | exact Z.at7 | exact Z.at8 | exact Z.at9 | exact Z.at10 | exact Z.at11 | exact Z.at12) (by first | (simp; done) | (simp; omega)) ?_ | refine Z.ZO.storeR rfl rfl hs Try.sizeOf46 rfl rfl rfl (by first | exact SX.at0 | exact SX.at1 | exact SX.at2 | exact SX.at3 | exact SX.at4 | exact SX.at5 | exact Z.at6 | exact Z.at7 | exact Z.at8 | exact Z.at9 | exact Z.at10 | exact Z.at11 | exact Z.at12) (by first | omega | (simp [ints_length]; done) | (simp [ints_length]; omega)) ?_
                clear hs; intro ws hs
                simp only [Nat.zero_add, Nat.add_zero, Nat.reduceAdd, Int.reduceToNat, Nat.reduceMul, List.set_cons_zero, List.set_cons_succ, List.setIfInBounds_toArray] at hs
                refine Z.lb 1 rfl ?_
                refine Z.lnil ?_
                refine Z.only [6, 7] rfl ?_
                refine Z.nthen ?_
                refine Z.ret ?_
                -- ret#1
                refine Z.out2 (by exact ⟨⟨_, rfl, Z.rvc hs Try.isAgg46 (by first | ((repeat (first | exact List.mem_cons_self | refine List.mem_cons_of_mem _ ?_ | refine List.mem_append_right _ ?_)); done) | fail) rfl⟩, rfl, trivial⟩) ?_
                first
                | exact ⟨_, rfl, _, [], rfl, rfl, (hs.nil 51 2).sel [3, 0] (by decide)⟩
                | refine ⟨_, rfl, _, qs, rfl, by rw [hqs]; unfold elP; rw [if_neg hpow, List.append_nil], by rw [show elM m t room = elM1 m t room from if_neg hpow, ← hm1]; exact SX.St.selT (L1 := [_, _, _, _]) hs [3, 2] (by decide)⟩
                | (refine ⟨_, rfl, _, qs ++ [⟨26, B, 1, co, [m1.head]⟩], rfl, ?_, ?_⟩
                   · rw [List.map_append, hqs]; unfold elP; rw [if_pos hpow, ← eh]; rfl
                   · rw [show elM m t room = { m1 with pow := false, fst := false, lastP := t, told := m1.head } by simp only [elM, if_pos hpow, ← hm1, eh]]
                     have h2 := (SX.St.selT (L1 := [_, _, _, _, _]) hs [3, 2, 4] (by decide))
                     have h3 : SX.St w M _ ([_, _] ++ (qs.map PtV.row ++ [_])) := SX.St.perm (show SX.St w M _ ([_, _] ++ ([_] ++ qs.map PtV.row)) from h2) (List.Perm.append_left _ List.perm_append_comm)
                     simp only [ptsL, List.length_append, List.length_singleton, List.flatMap_append, List.map_append, List.map_cons, List.map_nil, List.flatMap_cons, List.flatMap_nil, List.append_nil]
                     exact h3)
                )
          · first
              | (exfalso; simp at hc10 <;> omega)
              | (
                (try simp at hc10)
                have hpow : ¬ powB m room := by unfold powB; rw [← ep]; simp_all <;> omega
                refine Z.skip ?_
                refine Z.nthen ?_
                refine Z.seq ?_
                refine Z.region ?_
                refine Z.l rfl rfl (by rfl) (Z.keepS hs) (by first | exact Z.Yd.load rfl Try.isAgg46 (fun _ => Z.cellB (by first | ((repeat (first | exact List.mem_cons_self | refine List.mem_cons_of_mem _ ?_ | refine List.mem_append_right _ ?_)); done) | fail) rfl) | exact Z.Yd.load rfl Try.isAgg46 (fun _ => Z.cellO (by assumption) (by simp) (by assumption)) | fail "load 13.0") ?_
                refine Z.le rfl trivial ?_
                first | refine Z.ZO.store rfl rfl hs Try.sizeOf46 rfl rfl rfl (by first | exact SX.at0 | exact SX.at1 | exact SX.at2 | exact SX.at3 | exact SX.at4 | exact SX.at5 | exact Z.at6 | exact Z.at7 | exact Z.at8 | exact Z.at9 | exact Z.at10 | exact Z.at11 | exact Z.at12) (by first | (simp; done) | (simp; omega)) ?_ | refine Z.ZO.storeR rfl rfl hs Try.sizeOf46 rfl rfl rfl (by first | exact SX.at0 | exact SX.at1 | exact SX.at2 | exact SX.at3 | exact SX.at4 | exact SX.at5 | exact Z.at6 | exact Z.at7 | exact Z.at8 | exact Z.at9 | exact Z.at10 | exact Z.at11 | exact Z.at12) (by first | omega | (simp [ints_length]; done) | (simp [ints_length]; omega)) ?_
                clear hs; intro ws hs
                simp only [Nat.zero_add, Nat.add_zero, Nat.reduceAdd, Int.reduceToNat, Nat.reduceMul, List.set_cons_zero, List.set_cons_succ, List.setIfInBounds_toArray] at hs
                refine Z.lb 1 rfl ?_
                refine Z.lnil ?_
                refine Z.only [6, 7] rfl ?_
                refine Z.nthen ?_
                refine Z.ret ?_
                -- ret#2
                refine Z.out2 (by exact ⟨⟨_, rfl, Z.rvc hs Try.isAgg46 (by first | ((repeat (first | exact List.mem_cons_self | refine List.mem_cons_of_mem _ ?_ | refine List.mem_append_right _ ?_)); done) | fail) rfl⟩, rfl, trivial⟩) ?_
                first
                | exact ⟨_, rfl, _, [], rfl, rfl, (hs.nil 51 2).sel [3, 0] (by decide)⟩
                | refine ⟨_, rfl, _, qs, rfl, by rw [hqs]; unfold elP; rw [if_neg hpow, List.append_nil], by rw [show elM m t room = elM1 m t room from if_neg hpow, ← hm1]; exact SX.St.selT (L1 := [_, _, _, _]) hs [3, 2] (by decide)⟩
                | (refine ⟨_, rfl, _, qs ++ [⟨26, B, 1, co, [m1.head]⟩], rfl, ?_, ?_⟩
                   · rw [List.map_append, hqs]; unfold elP; rw [if_pos hpow, ← eh]; rfl
                   · rw [show elM m t room = { m1 with pow := false, fst := false, lastP := t, told := m1.head } by simp only [elM, if_pos hpow, ← hm1, eh]]
                     have h2 := (SX.St.selT (L1 := [_, _, _, _, _]) hs [3, 2, 4] (by decide))
                     have h3 : SX.St w M _ ([_, _] ++ (qs.map PtV.row ++ [_])) := SX.St.perm (show SX.St w M _ ([_, _] ++ ([_] ++ qs.map PtV.row)) from h2) (List.Perm.append_left _ List.perm_append_comm)
                     simp only [ptsL, List.length_append, List.length_singleton, List.flatMap_append, List.map_append, List.map_cons, List.map_nil, List.flatMap_cons, List.flatMap_nil, List.append_nil]
                     exact h3)
                )
        )
end Go.Proofs.Ytjejdlolgmhljaa

/- Reports: the document's New, Update. -/
namespace Go.Proofs.Ytjejdlolgmhljaa
open Go.RowKit
set_option linter.unusedSimpArgs false
set_option linter.unusedVariables false
--newlaws

end Go.Proofs.Ytjejdlolgmhljaa

/- Reports: the document's Elements. -/
namespace Go.Proofs.Ytjejdlolgmhljaa
open Go.RowKit
set_option linter.unusedSimpArgs false
set_option linter.unusedVariables false
--newlaws

def lvc (f : Bool) (m : RpV) : List Value := [.bool f, .int .i64 0, .int .i64 (lvl m.b0), .int .i64 (lvl m.b1), .int .i64 (lvl m.b2), .int .i64 (lvl m.b3)]
@[simp] theorem lvc_len (f : Bool) (m : RpV) : (lvc f m).length = 6 := rfl
end Go.Proofs.Ytjejdlolgmhljaa

/- Reports: the statements' own functions. -/
namespace Go.Proofs.Ytjejdlolgmhljaa
open Go.RowKit
set_option linter.unusedSimpArgs false
set_option linter.unusedVariables false
--newlaws

theorem rp_num (e : Int) (w : World) : Calls Try.prog 11 #[.int .i64 e] w (SX.Ret fun v w' => v = .int .i64 e ∧ SX.St w [] w' []) := by
  have hs := SX.St.start w
  refine Z.enter Try.func11 rfl Try.ntmps11 rfl rfl ?_
  refine Z.seq ?_
  refine Z.region ?_
  refine Z.lb 1 rfl ?_
  refine Z.lnil ?_
  refine Z.only [0] rfl ?_
  refine Z.nthen ?_
  refine Z.seq ?_
  refine Z.region ?_
  refine Z.lb 2 rfl ?_
  refine Z.lnil ?_
  refine Z.only [2] rfl ?_
  refine Z.nthen ?_
  refine Z.ret ?_
  -- ret#0
  refine Z.out1 (by exact ⟨rfl, trivial⟩) ?_
  first | exact ⟨_, rfl, rfl, hs⟩ | exact ⟨_, rfl, rfl, hs.sub (List.nil_sublist _)⟩
theorem elP_byts (m : RpV) (hm : m.ok) (room : Int) : ∀ p ∈ elP m room, Byts p.2 := by
  intro p hp
  unfold elP elP1 at hp
  rcases List.mem_append.1 hp with h | h
  · split at h
    · rename_i hb
      obtain rfl : p = _ := by simpa using h
      exact encL_bytes (statV_ok m room (hm.full hb.1))
    · simp at h
  · split at h
    · obtain rfl : p = _ := by simpa using h
      intro x hx
      obtain rfl : x = m.head := by simpa using hx
      have := hm.head
      omega
    · simp at h
theorem elsV_byts (m : RpV) (hm : m.ok) (t room : Int) : ∀ p ∈ (elsV m t room).2.1, Byts p.2 := by
  unfold elsV
  split
  · exact elP_byts m hm room
  · intro p hp; simp at hp
theorem elsV_len (m : RpV) (t room : Int) : (elsV m t room).2.1.length ≤ 2 := by
  unfold elsV
  split
  · unfold elP elP1
    split <;> split <;> simp
  · simp
theorem rp_pend (g : Nat) (m : RpV) (a b : Bool) (w : World) (hc : Cel w g m.cells) : Calls Try.prog 17 #[.pointer (some ⟨g, 0, none⟩), .bool a, .bool b] w (SX.Ret fun v w' => v = .bool (decide ((m.reg || m.per) = a ∧ m.pow = b)) ∧ SX.St w [] w' []) := by
  have hs := SX.St.start w
  refine Z.enter Try.func17 rfl Try.ntmps17 rfl rfl ?_
  refine Z.seq ?_
  refine Z.region ?_
  refine Z.lb 1 rfl ?_
  refine Z.lnil ?_
  refine Z.only [0, 1, 2] rfl ?_
  refine Z.nthen ?_
  refine Z.seq ?_
  refine Z.region ?_
  refine Z.lb 1 rfl ?_
  refine Z.le rfl trivial ?_
  refine Z.ZO.call rfl rfl (by rfl) rfl rfl Try.call14 rfl (rp_pending g m _ hc) ?_
  rintro v1_1 w1_1 ⟨rfl, hy⟩
  replace hs := hs.call hy
  clear hy
  try simp only [List.cons_append, List.nil_append, List.append_nil] at hs
  refine Z.lb 5 rfl ?_
  refine Z.lnil ?_
  refine Z.only [1, 2, 7, 8] rfl ?_
  refine Z.nthen ?_
  refine Z.seq ?_
  refine Z.region ?_
  refine Z.lb 2 rfl ?_
  refine Z.l rfl rfl (by rfl) (Z.keepS hs) (Z.Yd.bin rfl rfl (by intro _ w; go_simp; try rfl)) ?_
  refine Z.lb 3 rfl ?_
  refine Z.l rfl rfl (by rfl) (Z.keepS hs) (Z.Yd.bin rfl rfl (by intro _ w; go_simp; try rfl)) ?_
  refine Z.lb 2 rfl ?_
  refine Z.lnil ?_
  refine Z.only [6] rfl ?_
  refine Z.nthen ?_
  refine Z.ret ?_
  -- ret#0
  refine Z.out1 (by exact ⟨rfl, trivial⟩) ?_
  exact ⟨_, rfl, by cases m.reg <;> cases m.per <;> cases m.pow <;> cases a <;> cases b <;> rfl, hs⟩
def lawE (x : RpV × List (Int × List Int) × Int) (lc : Int) (d : List Int) : Bool := if lc = 0 then decide (x.2.1.length = 0 ∧ x.2.2 = 0) else decide (x.2.2 = 0 ∧ x.2.1 = [(lc, d)])
theorem one_part {qs : List PtV} (h : qs.length = 1) : ∃ q, qs = [q] := by
  match qs, h with
  | [q], _ => exact ⟨q, rfl⟩
set_option maxHeartbeats 1000000 in
set_option maxRecDepth 100000 in
theorem rp_lawE (g T : Nat) (m : RpV) (t room lc : Int) (d : List Int) (w : World) (hs : SX.St w (SX.idsOf [SX.Ent.blk g T m.cells.toArray]) w [SX.Ent.blk g T m.cells.toArray]) (hm : m.ok) (hroom : room ≤ 9223372036854775807) (hd : Byts d) :
    Calls Try.prog 31 #[.pointer (some ⟨g, 0, none⟩), .int .i64 t, .int .i64 room, .int .i64 lc, .string (Z.strOf d)] w (SX.Ret fun v w' => v = .bool (lawE (elsV m t room) lc d) ∧ SX.St w (SX.idsOf [SX.Ent.blk g T m.cells.toArray]) w' [SX.Ent.blk g T (elsV m t room).1.cells.toArray]) := by
  generalize hM : SX.idsOf [SX.Ent.blk g T m.cells.toArray] = M at *
  have hb := elsV_byts m hm t room
  have hln := elsV_len m t room
  refine Z.enter Try.func31 rfl Try.ntmps31 rfl rfl ?_
  refine Z.seq ?_
  refine Z.region ?_
  refine Z.lb 1 rfl ?_
  refine Z.lnil ?_
  refine Z.only [0, 1, 2, 3, 4] rfl ?_
  refine Z.nthen ?_
  refine Z.seq ?_
  refine Z.region ?_
  refine Z.lb 3 rfl ?_
  refine Z.le rfl trivial ?_
  refine Z.ZO.call rfl rfl (by rfl) rfl rfl Try.call16 rfl (rp_elements g T m t room _ (hs.lend (L2 := [])) hm hroom) ?_
  rintro v1_3 w1_3 ⟨sv, qs, rfl, hqs, hz⟩
  replace hs := hs.regain (L2 := []) hz
  rw [List.append_nil] at hs
  have hql : qs.length = (elsV m t room).2.1.length := by rw [← hqs, List.length_map]
  obtain ⟨A, cA, rfl, hcA, -, hsl⟩ := SX.row_slv hs (j := 1) rfl
  clear hsl
  simp only [ptsL] at hs
  refine Z.lb 5 rfl ?_
  refine Z.lnil ?_
  refine Z.only [3, 4, 11, 12] rfl ?_
  refine Z.nthen ?_
  refine Z.seq ?_
  refine Z.seq ?_
  refine Z.region ?_
  refine Z.lb 2 rfl ?_
  refine Z.lnil ?_
  refine Z.only [3, 4, 11, 12, 21] rfl ?_
  refine Z.nthen ?_
  refine Z.cond rfl (fun hc2 => ?_) (fun hc2 => ?_)
  · first
      | (exfalso; simp at hc2 <;> omega)
      | (
        (try simp at hc2)
        refine Z.seq ?_
        refine Z.region ?_
        refine Z.lb 1 rfl ?_
        refine Z.l rfl rfl (by rfl) (Z.keepS hs) (Z.Yd.lenS rfl Try.underlying46) ?_
        refine Z.lb 2 rfl ?_
        refine Z.split (s := 25) rfl (fun hsp25 => ?_) (fun hsp25 => ?_)
        · first
            | (exfalso; simp at hsp25 <;> omega)
            | (
              refine Z.yes (s := 25) (b := true) rfl hsp25 rfl ?_
              (try simp at hsp25)
              refine Z.lb 1 rfl ?_
              refine Z.yes (s := 25) (b := true) rfl rfl rfl ?_
              refine Z.le rfl (by exact ⟨rfl, trivial⟩) ?_
              refine Z.ZO.call rfl rfl (by rfl) rfl rfl Try.call11 rfl (rp_num _ _) ?_
              rintro v3_5 w3_5 ⟨rfl, hy⟩
              replace hs := hs.call hy
              clear hy
              try simp only [List.cons_append, List.nil_append, List.append_nil] at hs
              refine Z.lb 1 rfl ?_
              refine Z.yes (s := 25) (b := true) rfl rfl rfl ?_
              refine Z.l rfl rfl (by rfl) (Z.keepS hs) (Z.Yd.pickT rfl rfl) ?_
              refine Z.lb 1 rfl ?_
              refine Z.lnil ?_
              refine Z.only [10] rfl ?_
              refine Z.nthen ?_
              refine Z.ret ?_
              repeat (first | refine Z.rthen ?_ | refine Z.rblock ?_ | refine Z.rscope ?_)
              -- ret#0
              refine Z.out1 (by exact ⟨rfl, trivial⟩) ?_
              refine ⟨_, rfl, ?_, hs.sub (List.Sublist.cons_cons _ (List.nil_sublist _))⟩
              unfold lawE
              first
              | (rw [if_pos hc2, ← hql]; congr 1; rw [Bool.eq_iff_iff]; simp [hsp25]; done)
              | (rw [if_neg hc2, ← hqs]
                 first
                 | (have hno : ¬ ((elsV m t room).2.2 = 0 ∧ qs.map PtV.plain = [(lc, d)]) := fun h => by
                      have h2 := congrArg List.length h.2
                      simp at h2
                      exact hsp38 h.1 (by omega)
                    rw [decide_eq_false hno])
                 | (rw [Z.str_eq hbq hd]; congr 1; rw [Bool.eq_iff_iff]; simp [PtV.plain, hsp46]; simp_all; done)
                 | (rw [Z.str_eq hbq hd]; congr 1; rw [Bool.eq_iff_iff]; simp [PtV.plain, hsp46]; done)
                 | (congr 1; rw [Bool.eq_iff_iff]; simp [PtV.plain, hsp46]; done))
              )
        · first
            | (exfalso; simp at hsp25 <;> omega)
            | (
              refine Z.yes (s := 25) (b := false) rfl hsp25 rfl ?_
              (try simp at hsp25)
              refine Z.ls rfl rfl rfl (by rfl) ?_
              refine Z.ls rfl rfl rfl (by rfl) ?_
              refine Z.ls rfl rfl rfl (by rfl) ?_
              refine Z.l rfl rfl (by rfl) (Z.keepS hs) (Z.Yd.pickF rfl rfl) ?_
              refine Z.lb 1 rfl ?_
              refine Z.lnil ?_
              refine Z.only [10] rfl ?_
              refine Z.nthen ?_
              refine Z.ret ?_
              repeat (first | refine Z.rthen ?_ | refine Z.rblock ?_ | refine Z.rscope ?_)
              -- ret#1
              refine Z.out1 (by exact ⟨rfl, trivial⟩) ?_
              refine ⟨_, rfl, ?_, hs.sub (List.Sublist.cons_cons _ (List.nil_sublist _))⟩
              unfold lawE
              first
              | (rw [if_pos hc2, ← hql]; congr 1; rw [Bool.eq_iff_iff]; simp [hsp25]; done)
              | (rw [if_neg hc2, ← hqs]
                 first
                 | (have hno : ¬ ((elsV m t room).2.2 = 0 ∧ qs.map PtV.plain = [(lc, d)]) := fun h => by
                      have h2 := congrArg List.length h.2
                      simp at h2
                      exact hsp38 h.1 (by omega)
                    rw [decide_eq_false hno])
                 | (rw [Z.str_eq hbq hd]; congr 1; rw [Bool.eq_iff_iff]; simp [PtV.plain, hsp46]; simp_all; done)
                 | (rw [Z.str_eq hbq hd]; congr 1; rw [Bool.eq_iff_iff]; simp [PtV.plain, hsp46]; done)
                 | (congr 1; rw [Bool.eq_iff_iff]; simp [PtV.plain, hsp46]; done))
              )
        )
  · first
      | (exfalso; simp at hc2 <;> omega)
      | (
        (try simp at hc2)
        refine Z.skip ?_
        refine Z.nthen ?_
        refine Z.seq ?_
        refine Z.region ?_
        refine Z.lb 1 rfl ?_
        refine Z.le rfl trivial ?_
        refine Z.ZO.call rfl rfl (by rfl) rfl rfl Try.call11 rfl (rp_num _ _) ?_
        rintro v4_1 w4_1 ⟨rfl, hy⟩
        replace hs := hs.call hy
        clear hy
        try simp only [List.cons_append, List.nil_append, List.append_nil] at hs
        refine Z.lb 3 rfl ?_
        refine Z.l rfl rfl (by rfl) (Z.keepS hs) (Z.Yd.lenS rfl Try.underlying46) ?_
        refine Z.lb 3 rfl ?_
        refine Z.split (s := 38) rfl (fun hsp38 => ?_) (fun hsp38 => ?_)
        · first
            | (exfalso; simp at hsp38 <;> omega)
            | (
              refine Z.yes (s := 38) (b := true) rfl hsp38 rfl ?_
              (try simp at hsp38)
              obtain ⟨q, rfl⟩ := one_part (qs := qs) (by omega)
              have hbq : Byts q.l := hb q.plain (by rw [← hqs]; simp)
              simp only [List.flatMap_cons, List.flatMap_nil, List.append_nil, PtV.cells, List.map_cons, List.map_nil, List.length_singleton, PtV.row] at hs
              obtain ⟨gr, cc, e, -, -⟩ := row_form hs (j := 1) rfl (by omega)
              cases e
              refine Z.lb 1 rfl ?_
              refine Z.l rfl rfl (by rfl) (Z.keepS hs) (Z.Yd.elem rfl rfl Try.underlying46 Try.sizeOf51 (fun hG => ⟨(by first | omega | (have hG' := Z.gh rfl hG; simp at hG'; omega)), (by first | omega | (have hG' := Z.gh rfl hG; simp at hG'; omega))⟩)) ?_
              refine Z.l rfl rfl (by rfl) (Z.keepS hs) (Z.Yd.fieldA (m := 0) rfl (by kernel_rfl)) ?_
              refine Z.l rfl rfl (by rfl) (Z.keepS hs) (Z.Yd.load rfl Try.isAgg3 (fun _ => Z.cellR (by first | ((repeat (first | exact List.mem_cons_self | refine List.mem_cons_of_mem _ ?_ | refine List.mem_append_right _ ?_)); done) | fail) rfl)) ?_
              refine Z.lb 2 rfl ?_
              refine Z.yes (s := 38) (b := true) rfl rfl rfl ?_
              refine Z.l rfl rfl (by rfl) (Z.keepS hs) (Z.Yd.pickT rfl rfl) ?_
              refine Z.lb 1 rfl ?_
              refine Z.split (s := 46) rfl (fun hsp46 => ?_) (fun hsp46 => ?_)
              · first
                  | (exfalso; simp at hsp46 <;> omega)
                  | (
                    refine Z.yes (s := 46) (b := true) rfl hsp46 rfl ?_
                    (try simp at hsp46)
                    refine Z.lb 1 rfl ?_
                    refine Z.l rfl rfl (by rfl) (Z.keepS hs) (Z.Yd.elem rfl rfl Try.underlying46 Try.sizeOf51 (fun hG => ⟨(by first | omega | (have hG' := Z.gh rfl hG; simp at hG'; omega)), (by first | omega | (have hG' := Z.gh rfl hG; simp at hG'; omega))⟩)) ?_
                    refine Z.l rfl rfl (by rfl) (Z.keepS hs) (Z.Yd.fieldA (m := 1) rfl (by kernel_rfl)) ?_
                    refine Z.l rfl rfl (by rfl) (Z.keepS hs) (Z.Yd.load rfl Try.isAgg49 (fun _ => Z.cellR (by first | ((repeat (first | exact List.mem_cons_self | refine List.mem_cons_of_mem _ ?_ | refine List.mem_append_right _ ?_)); done) | fail) rfl)) ?_
                    refine Z.l rfl rfl (by rfl) (Z.keepS hs) (Z.Yd.b2s rfl Try.underlying49 Try.underlying5 Try.underlying9 rfl (fun W hW => by obtain ⟨R, hR, hsub⟩ := hW; exact hR.slm (hsub _ (by first | ((repeat (first | exact List.mem_cons_self | refine List.mem_cons_of_mem _ ?_ | refine List.mem_append_right _ ?_)); done) | fail)))) ?_
                    refine Z.lb 1 rfl ?_
                    refine Z.l rfl rfl (by rfl) (Z.keepS hs) (Z.Yd.strEq rfl rfl) ?_
                    refine Z.yes (s := 46) (b := true) rfl rfl rfl ?_
                    refine Z.l rfl rfl (by rfl) (Z.keepS hs) (Z.Yd.pickT rfl rfl) ?_
                    refine Z.lb 1 rfl ?_
                    refine Z.lnil ?_
                    refine Z.only [10] rfl ?_
                    refine Z.nthen ?_
                    refine Z.ret ?_
                    -- ret#2
                    refine Z.out1 (by exact ⟨rfl, trivial⟩) ?_
                    refine ⟨_, rfl, ?_, hs.sub (List.Sublist.cons_cons _ (List.nil_sublist _))⟩
                    unfold lawE
                    first
                    | (rw [if_pos hc2, ← hql]; congr 1; rw [Bool.eq_iff_iff]; simp [hsp25]; done)
                    | (rw [if_neg hc2, ← hqs]
                       first
                       | (have hno : ¬ ((elsV m t room).2.2 = 0 ∧ qs.map PtV.plain = [(lc, d)]) := fun h => by
                            have h2 := congrArg List.length h.2
                            simp at h2
                            exact hsp38 h.1 (by omega)
                          rw [decide_eq_false hno])
                       | (rw [Z.str_eq hbq hd]; congr 1; rw [Bool.eq_iff_iff]; simp [PtV.plain, hsp46]; simp_all; done)
                       | (rw [Z.str_eq hbq hd]; congr 1; rw [Bool.eq_iff_iff]; simp [PtV.plain, hsp46]; done)
                       | (congr 1; rw [Bool.eq_iff_iff]; simp [PtV.plain, hsp46]; done))
                    )
              · first
                  | (exfalso; simp at hsp46 <;> omega)
                  | (
                    refine Z.yes (s := 46) (b := false) rfl hsp46 rfl ?_
                    (try simp at hsp46)
                    refine Z.ls rfl rfl rfl (by rfl) ?_
                    refine Z.ls rfl rfl rfl (by rfl) ?_
                    refine Z.ls rfl rfl rfl (by rfl) ?_
                    refine Z.ls rfl rfl rfl (by rfl) ?_
                    refine Z.ls rfl rfl rfl (by rfl) ?_
                    refine Z.ls rfl rfl rfl (by rfl) ?_
                    refine Z.ls rfl rfl rfl (by rfl) ?_
                    refine Z.l rfl rfl (by rfl) (Z.keepS hs) (Z.Yd.pickF rfl rfl) ?_
                    refine Z.lb 1 rfl ?_
                    refine Z.lnil ?_
                    refine Z.only [10] rfl ?_
                    refine Z.nthen ?_
                    refine Z.ret ?_
                    -- ret#3
                    refine Z.out1 (by exact ⟨rfl, trivial⟩) ?_
                    refine ⟨_, rfl, ?_, hs.sub (List.Sublist.cons_cons _ (List.nil_sublist _))⟩
                    unfold lawE
                    first
                    | (rw [if_pos hc2, ← hql]; congr 1; rw [Bool.eq_iff_iff]; simp [hsp25]; done)
                    | (rw [if_neg hc2, ← hqs]
                       first
                       | (have hno : ¬ ((elsV m t room).2.2 = 0 ∧ qs.map PtV.plain = [(lc, d)]) := fun h => by
                            have h2 := congrArg List.length h.2
                            simp at h2
                            exact hsp38 h.1 (by omega)
                          rw [decide_eq_false hno])
                       | (rw [Z.str_eq hbq hd]; congr 1; rw [Bool.eq_iff_iff]; simp [PtV.plain, hsp46]; simp_all; done)
                       | (rw [Z.str_eq hbq hd]; congr 1; rw [Bool.eq_iff_iff]; simp [PtV.plain, hsp46]; done)
                       | (congr 1; rw [Bool.eq_iff_iff]; simp [PtV.plain, hsp46]; done))
                    )
              )
        · first
            | (exfalso; simp at hsp38 <;> omega)
            | (
              refine Z.yes (s := 38) (b := false) rfl hsp38 rfl ?_
              (try simp at hsp38)
              refine Z.ls rfl rfl rfl (by rfl) ?_
              refine Z.ls rfl rfl rfl (by rfl) ?_
              refine Z.ls rfl rfl rfl (by rfl) ?_
              refine Z.ls rfl rfl rfl (by rfl) ?_
              refine Z.ls rfl rfl rfl (by rfl) ?_
              refine Z.ls rfl rfl rfl (by rfl) ?_
              refine Z.l rfl rfl (by rfl) (Z.keepS hs) (Z.Yd.pickF rfl rfl) ?_
              refine Z.lb 1 rfl ?_
              refine Z.split (s := 46) rfl (fun hsp46 => ?_) (fun hsp46 => ?_)
              · first
                  | (exfalso; simp at hsp46 <;> omega)
                  | (
                    refine Z.yes (s := 46) (b := true) rfl hsp46 rfl ?_
                    (try simp at hsp46)
                    refine Z.lb 1 rfl ?_
                    refine Z.l rfl rfl (by rfl) (Z.keepS hs) (Z.Yd.elem rfl rfl Try.underlying46 Try.sizeOf51 (fun hG => ⟨(by first | omega | (have hG' := Z.gh rfl hG; simp at hG'; omega)), (by first | omega | (have hG' := Z.gh rfl hG; simp at hG'; omega))⟩)) ?_
                    refine Z.l rfl rfl (by rfl) (Z.keepS hs) (Z.Yd.fieldA (m := 1) rfl (by kernel_rfl)) ?_
                    refine Z.l rfl rfl (by rfl) (Z.keepS hs) (Z.Yd.load rfl Try.isAgg49 (fun _ => Z.cellR (by first | ((repeat (first | exact List.mem_cons_self | refine List.mem_cons_of_mem _ ?_ | refine List.mem_append_right _ ?_)); done) | fail) rfl)) ?_
                    refine Z.l rfl rfl (by rfl) (Z.keepS hs) (Z.Yd.b2s rfl Try.underlying49 Try.underlying5 Try.underlying9 rfl (fun W hW => by obtain ⟨R, hR, hsub⟩ := hW; exact hR.slm (hsub _ (by first | ((repeat (first | exact List.mem_cons_self | refine List.mem_cons_of_mem _ ?_ | refine List.mem_append_right _ ?_)); done) | fail)))) ?_
                    refine Z.lb 1 rfl ?_
                    refine Z.l rfl rfl (by rfl) (Z.keepS hs) (Z.Yd.strEq rfl rfl) ?_
                    refine Z.yes (s := 46) (b := true) rfl rfl rfl ?_
                    refine Z.l rfl rfl (by rfl) (Z.keepS hs) (Z.Yd.pickT rfl rfl) ?_
                    refine Z.lb 1 rfl ?_
                    refine Z.lnil ?_
                    refine Z.only [10] rfl ?_
                    refine Z.nthen ?_
                    refine Z.ret ?_
                    -- ret#4
                    refine Z.out1 (by exact ⟨rfl, trivial⟩) ?_
                    refine ⟨_, rfl, ?_, hs.sub (List.Sublist.cons_cons _ (List.nil_sublist _))⟩
                    unfold lawE
                    first
                    | (rw [if_pos hc2, ← hql]; congr 1; rw [Bool.eq_iff_iff]; simp [hsp25]; done)
                    | (rw [if_neg hc2, ← hqs]
                       first
                       | (have hno : ¬ ((elsV m t room).2.2 = 0 ∧ qs.map PtV.plain = [(lc, d)]) := fun h => by
                            have h2 := congrArg List.length h.2
                            simp at h2
                            exact hsp38 h.1 (by omega)
                          rw [decide_eq_false hno])
                       | (rw [Z.str_eq hbq hd]; congr 1; rw [Bool.eq_iff_iff]; simp [PtV.plain, hsp46]; simp_all; done)
                       | (rw [Z.str_eq hbq hd]; congr 1; rw [Bool.eq_iff_iff]; simp [PtV.plain, hsp46]; done)
                       | (congr 1; rw [Bool.eq_iff_iff]; simp [PtV.plain, hsp46]; done))
                    )
              · first
                  | (exfalso; simp at hsp46 <;> omega)
                  | (
                    refine Z.yes (s := 46) (b := false) rfl hsp46 rfl ?_
                    (try simp at hsp46)
                    refine Z.ls rfl rfl rfl (by rfl) ?_
                    refine Z.ls rfl rfl rfl (by rfl) ?_
                    refine Z.ls rfl rfl rfl (by rfl) ?_
                    refine Z.ls rfl rfl rfl (by rfl) ?_
                    refine Z.ls rfl rfl rfl (by rfl) ?_
                    refine Z.ls rfl rfl rfl (by rfl) ?_
                    refine Z.ls rfl rfl rfl (by rfl) ?_
                    refine Z.l rfl rfl (by rfl) (Z.keepS hs) (Z.Yd.pickF rfl rfl) ?_
                    refine Z.lb 1 rfl ?_
                    refine Z.lnil ?_
                    refine Z.only [10] rfl ?_
                    refine Z.nthen ?_
                    refine Z.ret ?_
                    -- ret#5
                    refine Z.out1 (by exact ⟨rfl, trivial⟩) ?_
                    refine ⟨_, rfl, ?_, hs.sub (List.Sublist.cons_cons _ (List.nil_sublist _))⟩
                    unfold lawE
                    first
                    | (rw [if_pos hc2, ← hql]; congr 1; rw [Bool.eq_iff_iff]; simp [hsp25]; done)
                    | (rw [if_neg hc2, ← hqs]
                       first
                       | (have hno : ¬ ((elsV m t room).2.2 = 0 ∧ qs.map PtV.plain = [(lc, d)]) := fun h => by
                            have h2 := congrArg List.length h.2
                            simp at h2
                            exact hsp38 h.1 (by omega)
                          rw [decide_eq_false hno])
                       | (rw [Z.str_eq hbq hd]; congr 1; rw [Bool.eq_iff_iff]; simp [PtV.plain, hsp46]; simp_all; done)
                       | (rw [Z.str_eq hbq hd]; congr 1; rw [Bool.eq_iff_iff]; simp [PtV.plain, hsp46]; done)
                       | (congr 1; rw [Bool.eq_iff_iff]; simp [PtV.plain, hsp46]; done))
                    )
              )
        )
end Go.Proofs.Ytjejdlolgmhljaa

/- Reports: lists of parts compared; the visible state; a call on both. -/
namespace Go.Proofs.Ytjejdlolgmhljaa
open Go.RowKit
set_option linter.unusedSimpArgs false
set_option linter.unusedVariables false
--newlaws

theorem pt_sz (q : PtV) : q.cells.length = 2 := rfl
def bX (l : List Int) (pre : List Nat) (k : Nat) : Int := if k ∈ pre then elt l (k : Int) else 0
def bcs (l : List Int) (pre : List Nat) : List Value := [.int .i64 (bX l pre 0), .int .i64 (bX l pre 1), .int .i64 (bX l pre 2), .int .i64 (bX l pre 3)]
@[simp] theorem bcs_len (l : List Int) (pre : List Nat) : (bcs l pre).length = 4 := rfl
structure RxV where
  w : Int
  t : Int
  a : Int
  b : Int
  c : Int
  d : Int
  n : Int
def RxV.cells (x : RxV) : List Value := [.int .i64 x.w, .int .i64 x.t, .int .i64 x.a, .int .i64 x.b, .int .i64 x.c, .int .i64 x.d, .int .i64 x.n]
def RxV.fits (x : RxV) : Prop := x.n ≤ 9223372036854775807
def RxV.at (x : RxV) (now : Int) : Int := if x.w < 5 then now + max 0 (min 2000000 x.t) else x.t
def actV (m : RpV) (x : RxV) : RpV :=
  if x.w = 0 ∨ x.w = 1 ∨ x.w = 2 ∨ x.w = 5 then (updV m (x.at m.now) x.a x.b x.c x.d x.n).1
  else if x.w = 3 ∨ x.w = 4 ∨ x.w = 6 then (elsV m (x.at m.now) x.n).1 else m
theorem RpV.ok.act {m : RpV} (hm : m.ok) (x : RxV) : (actV m x).ok := by
  unfold actV
  split
  · exact hm.updV _ _ _ _ _ _
  · split
    · exact hm.elsV _ _
    · exact hm
theorem rx_one (x : RxV) : ∀ u ∈ x.cells, u.oneCell' = true := by simp [RxV.cells, Value.oneCell']
end Go.Proofs.Ytjejdlolgmhljaa

/- Reports: the examples of the chapter. -/
namespace Go.Proofs.Ytjejdlolgmhljaa
open Go.RowKit
set_option linter.unusedSimpArgs false
set_option linter.unusedVariables false
--newlaws

def w0R : RpV := newR 10 0 0 0
def w1R : RpV := ⟨false, false, true, true, 10, 0, 0, 0, 1, 0, 0, 0, 0, 5, 0, 0, 0⟩
def w2R : RpV := ⟨false, false, false, false, 10, 0, 0, 0, 1, 0, 0, 0, 0, 5, 0, 1, 5⟩
def w3R : RpV := ⟨true, false, false, false, 10, 0, 0, 0, 2, 0, 11, 0, 0, 5, 0, 1, 5⟩
def w4R : RpV := ⟨false, false, false, false, 10, 0, 0, 0, 2, 0, 11, 0, 0, 5, 2, 1, 5⟩
def w5R : RpV := ⟨false, false, false, false, 10, 0, 0, 0, 3, 0, 11, 0, 1, 5, 2, 1, 5⟩
def w6R : RpV := ⟨false, true, false, false, 10, 0, 0, 0, 12, 0, 11, 0, 1, 5, 2, 1, 5⟩
def w7R : RpV := ⟨false, false, false, false, 10, 0, 0, 0, 12, 0, 11, 0, 1, 5, 12, 1, 5⟩
theorem wu1 : updV w0R 1 0 0 0 0 5 = (w1R, 0) := by decide
theorem we1 : elsV w1R 1 1 = (w1R, [], 0) := by decide
theorem we2 : elsV w1R 1 2 = (w2R, [(26, [5])], 0) := by decide
theorem wu2 : updV w2R 2 0 11 0 0 5 = (w3R, 0) := by decide
theorem we3 : elsV w3R 2 1 = (w3R, [], 0) := by decide
theorem we4 : elsV w3R 2 9 = (w4R, [(29, [66])], 0) := by decide
theorem wu3 : updV w4R 3 0 11 0 1 5 = (w5R, 0) := by decide
theorem wu4 : updV w5R 12 0 11 0 1 5 = (w6R, 0) := by decide
theorem we5 : elsV w6R 12 9 = (w7R, [(30, [0, 32, 1])], 0) := by decide
theorem wu5 : updV w7R 11 0 0 0 0 5 = (w7R, 2) := by decide
theorem wo0 : w0R.ok := newR_ok (by decide)
theorem wo1 : w1R.ok := by have h := wo0.updV 1 0 0 0 0 5; rw [wu1] at h; exact h
theorem wo2 : w2R.ok := by have h := wo1.elsV 1 2; rw [we2] at h; exact h
theorem wo3 : w3R.ok := by have h := wo2.updV 2 0 11 0 0 5; rw [wu2] at h; exact h
theorem wo4 : w4R.ok := by have h := wo3.elsV 2 9; rw [we4] at h; exact h
theorem wo5 : w5R.ok := by have h := wo4.updV 3 0 11 0 1 5; rw [wu3] at h; exact h
theorem wo6 : w6R.ok := by have h := wo5.updV 12 0 11 0 1 5; rw [wu4] at h; exact h
theorem wo7 : w7R.ok := by have h := wo6.elsV 12 9; rw [we5] at h; exact h
abbrev RpB (g : Nat) (m : RpV) : List SX.Ent := [SX.Ent.blk g 66 m.cells.toArray]
theorem wk_new (a b c d : Int) (w : World) (h : okC a b c d) : Calls Try.prog 8 #[.agg #[.int .i64 a, .int .i64 b, .int .i64 c, .int .i64 d]] w (SX.Ret fun v w' => ∃ g, v = .tuple #[.pointer (some ⟨g, 0, none⟩), .int .i64 0] ∧ SX.St w [] w' (RpB g (newR a b c d))) := by
  have := rp_new a b c d w
  simp only [if_pos h] at this
  exact this
theorem wk_bad (a b c d : Int) (w : World) (h : ¬ okC a b c d) : Calls Try.prog 8 #[.agg #[.int .i64 a, .int .i64 b, .int .i64 c, .int .i64 d]] w (SX.Ret fun v w' => v = .tuple #[.pointer none, .int .i64 2] ∧ SX.St w [] w' []) := by
  have := rp_new a b c d w
  simp only [if_neg h] at this
  exact this
theorem wk_upd (g : Nat) (m : RpV) (t a b c d h : Int) (r : RpV × Int) (w : World) (hs : SX.St w (SX.idsOf (RpB g m)) w (RpB g m)) (hm : m.ok) (he : updV m t a b c d h = r) :
    Calls Try.prog 9 #[.pointer (some ⟨g, 0, none⟩), .int .i64 t, .agg #[.int .i64 a, .int .i64 b, .int .i64 c, .int .i64 d], .int .i64 h] w (SX.Ret fun v w' => v = .int .i64 r.2 ∧ SX.St w (SX.idsOf (RpB g m)) w' (RpB g r.1)) := by
  subst he
  exact rp_update g _ m t a b c d h w hs hm
theorem wk_els (g : Nat) (m : RpV) (t room lc : Int) (d : List Int) (r : RpV × List (Int × List Int) × Int) (w : World) (hs : SX.St w (SX.idsOf (RpB g m)) w (RpB g m)) (hm : m.ok) (hr : room ≤ 1000) (hd : Byts d) (he : elsV m t room = r) (hl : lawE r lc d = true) :
    Calls Try.prog 31 #[.pointer (some ⟨g, 0, none⟩), .int .i64 t, .int .i64 room, .int .i64 lc, .string (Z.strOf d)] w (SX.Ret fun v w' => v = .bool true ∧ SX.St w (SX.idsOf (RpB g m)) w' (RpB g r.1)) := by
  subst he
  have := rp_lawE g _ m t room lc d w hs hm (by omega) hd
  rw [hl] at this
  exact this
theorem wk_pend (g : Nat) (m : RpV) (a b : Bool) (w : World) (hc : Cel w g m.cells) (h : (m.reg || m.per) = a ∧ m.pow = b) : Calls Try.prog 17 #[.pointer (some ⟨g, 0, none⟩), .bool a, .bool b] w (SX.Ret fun v w' => v = .bool true ∧ SX.St w [] w' []) := by
  have := rp_pend g m a b w hc
  rw [decide_eq_true h] at this
  exact this
set_option maxHeartbeats 1000000 in
set_option maxRecDepth 100000 in
theorem works26 (w : World) : Calls Try.prog 13 #[] w (SX.Ret fun v w' => v = .bool true ∧ SX.St w [] w' []) := by
  have hs := SX.St.start w
  refine Z.enter Try.func13 rfl Try.ntmps13 rfl rfl ?_
  refine Z.seq ?_
  refine Z.region ?_
  refine Z.lb 1 rfl ?_
  refine Z.lnil ?_
  refine Z.only [] rfl ?_
  refine Z.nthen ?_
  refine Z.seq ?_
  refine Z.region ?_
  refine Z.l rfl rfl (by rfl) (Z.keepS hs) (Z.Yd.buildL [(0, 1), (1, 1), (2, 1), (3, 1)] [.int .i64 0, .int .i64 0, .int .i64 0, .int .i64 0] rfl rfl (by intro w; kernel_rfl)) ?_
  refine Z.le rfl trivial ?_
  refine Z.ZO.call rfl rfl (by rfl) rfl rfl Try.call8 rfl (wk_new 10 0 0 0 _ (by decide)) ?_
  rintro v1_1 w1_1 ⟨g, rfl, hy⟩
  replace hs := hs.call hy
  clear hy
  try simp only [List.cons_append, List.nil_append, List.append_nil] at hs
  replace hs : SX.St w [] _ (RpB g w0R) := hs
  refine Z.lb 5 rfl ?_
  refine Z.lnil ?_
  refine Z.only [1, 2] rfl ?_
  refine Z.nthen ?_
  refine Z.seq ?_
  refine Z.region ?_
  refine Z.lb 1 rfl ?_
  refine Z.l rfl rfl (by rfl) (Z.keepS hs) (Z.Yd.buildL [(0, 1), (1, 1), (2, 1), (3, 1)] [.int .i64 0, .int .i64 0, .int .i64 0, .int .i64 0] rfl rfl (by intro w; kernel_rfl)) ?_
  refine Z.le rfl trivial ?_
  refine Z.ZO.call rfl rfl (by rfl) rfl rfl Try.call9 rfl (wk_upd g w0R 1 0 0 0 0 5 _ _ (hs.lend (L2 := [])) wo0 wu1) ?_
  rintro v2_2 w2_2 ⟨rfl, hz⟩
  replace hs := hs.regain (L2 := []) hz
  replace hs : SX.St w [] _ (RpB g w1R) := hs
  refine Z.lb 1 rfl ?_
  refine Z.lnil ?_
  refine Z.only [1, 2, 3] rfl ?_
  refine Z.nthen ?_
  refine Z.seq ?_
  refine Z.seq ?_
  refine Z.region ?_
  refine Z.lb 1 rfl ?_
  refine Z.le rfl trivial ?_
  refine Z.ZO.call rfl rfl (by rfl) rfl rfl Try.call11 rfl (rp_num _ _) ?_
  rintro v3_1 w3_1 ⟨rfl, hy⟩
  replace hs := hs.call hy
  clear hy
  try simp only [List.cons_append, List.nil_append, List.append_nil] at hs
  refine Z.lb 1 rfl ?_
  refine Z.le rfl trivial ?_
  refine Z.ZO.call rfl rfl (by rfl) rfl rfl Try.call11 rfl (rp_num _ _) ?_
  rintro v3_3 w3_3 ⟨rfl, hy⟩
  replace hs := hs.call hy
  clear hy
  try simp only [List.cons_append, List.nil_append, List.append_nil] at hs
  refine Z.l rfl rfl (by rfl) (Z.keepS hs) (Z.Yd.add rfl rfl (fun hG => Z.wi64 (by first | omega | (have hG' := Z.gh rfl hG; simp at hG'; omega)))) ?_
  refine Z.lb 2 rfl ?_
  refine Z.yes (s := 23) (b := false) rfl ((by simp)) rfl ?_
  refine Z.lb 1 rfl ?_
  refine Z.yes (s := 23) (b := false) rfl rfl rfl ?_
  refine Z.le rfl (by exact ⟨rfl, trivial⟩) ?_
  refine Z.ZO.call rfl rfl (by rfl) rfl rfl Try.call17 rfl (wk_pend g w1R false true _ (hs.celOf (by first | ((repeat (first | exact List.mem_cons_self | refine List.mem_cons_of_mem _ ?_ | refine List.mem_append_right _ ?_)); done) | fail)) (by decide)) ?_
  rintro v3_8 w3_8 ⟨rfl, hy⟩
  replace hs := hs.call hy
  clear hy
  try simp only [List.cons_append, List.nil_append, List.append_nil] at hs
  refine Z.lb 1 rfl ?_
  refine Z.yes (s := 23) (b := false) rfl rfl rfl ?_
  refine Z.l rfl rfl (by rfl) (Z.keepS hs) (Z.Yd.pickF rfl rfl) ?_
  refine Z.lb 1 rfl ?_
  refine Z.yes (s := 28) (b := false) rfl ((by simp)) rfl ?_
  refine Z.lb 1 rfl ?_
  refine Z.yes (s := 28) (b := false) rfl rfl rfl ?_
  refine Z.le rfl (by exact ⟨rfl, trivial⟩) ?_
  refine Z.ZO.call rfl rfl (by rfl) rfl rfl Try.call31 rfl (wk_els g w1R 1 1 0 [] _ _ (hs.lend (L2 := [])) wo1 (by decide) (by intro x hx; simp at hx) we1 (by decide)) ?_
  rintro v3_13 w3_13 ⟨rfl, hz⟩
  replace hs := hs.regain (L2 := []) hz
  refine Z.lb 1 rfl ?_
  refine Z.yes (s := 28) (b := false) rfl rfl rfl ?_
  refine Z.l rfl rfl (by rfl) (Z.keepS hs) (Z.Yd.pickF rfl rfl) ?_
  refine Z.lb 1 rfl ?_
  refine Z.yes (s := 33) (b := false) rfl ((by simp)) rfl ?_
  refine Z.lb 1 rfl ?_
  refine Z.yes (s := 33) (b := false) rfl rfl rfl ?_
  refine Z.le rfl (by exact ⟨rfl, trivial⟩) ?_
  refine Z.ZO.call rfl rfl (by rfl) rfl rfl Try.call31 rfl (wk_els g w1R 1 2 26 [5] _ _ (hs.lend (L2 := [])) wo1 (by decide) (by intro x hx; simp at hx; omega) we2 (by decide)) ?_
  rintro v3_18 w3_18 ⟨rfl, hz⟩
  replace hs := hs.regain (L2 := []) hz
  replace hs : SX.St w [] _ (RpB g w2R) := hs
  refine Z.lb 1 rfl ?_
  refine Z.yes (s := 33) (b := false) rfl rfl rfl ?_
  refine Z.l rfl rfl (by rfl) (Z.keepS hs) (Z.Yd.pickF rfl rfl) ?_
  refine Z.lnil ?_
  refine Z.only [1, 37] rfl ?_
  refine Z.nthen ?_
  refine Z.cond rfl (fun h => absurd h (by simp)) (fun hc3 => ?_)
  refine Z.skip ?_
  refine Z.nthen ?_
  refine Z.seq ?_
  refine Z.region ?_
  refine Z.lb 1 rfl ?_
  refine Z.l rfl rfl (by rfl) (Z.keepS hs) (Z.Yd.buildL [(0, 1), (1, 1), (2, 1), (3, 1)] [.int .i64 0, .int .i64 0, .int .i64 0, .int .i64 0] rfl rfl (by intro w; kernel_rfl)) ?_
  refine Z.le rfl trivial ?_
  refine Z.ZO.call rfl rfl (by rfl) rfl rfl Try.call9 rfl (wk_upd g w2R 2 0 11 0 0 5 _ _ (hs.lend (L2 := [])) wo2 wu2) ?_
  rintro v5_2 w5_2 ⟨rfl, hz⟩
  replace hs := hs.regain (L2 := []) hz
  replace hs : SX.St w [] _ (RpB g w3R) := hs
  refine Z.lb 1 rfl ?_
  refine Z.lnil ?_
  refine Z.only [1, 4] rfl ?_
  refine Z.nthen ?_
  refine Z.seq ?_
  refine Z.seq ?_
  refine Z.region ?_
  refine Z.lb 1 rfl ?_
  refine Z.le rfl trivial ?_
  refine Z.ZO.call rfl rfl (by rfl) rfl rfl Try.call11 rfl (rp_num _ _) ?_
  rintro v6_1 w6_1 ⟨rfl, hy⟩
  replace hs := hs.call hy
  clear hy
  try simp only [List.cons_append, List.nil_append, List.append_nil] at hs
  refine Z.lb 2 rfl ?_
  refine Z.yes (s := 44) (b := false) rfl ((by simp)) rfl ?_
  refine Z.lb 1 rfl ?_
  refine Z.yes (s := 44) (b := false) rfl rfl rfl ?_
  refine Z.le rfl (by exact ⟨rfl, trivial⟩) ?_
  refine Z.ZO.call rfl rfl (by rfl) rfl rfl Try.call15 rfl (rp_request g w3R _ (hs.celOf (by first | ((repeat (first | exact List.mem_cons_self | refine List.mem_cons_of_mem _ ?_ | refine List.mem_append_right _ ?_)); done) | fail))) ?_
  rintro v6_5 w6_5 ⟨rfl, hy⟩
  replace hs := hs.call hy
  clear hy
  try simp only [List.cons_append, List.nil_append, List.append_nil] at hs
  refine Z.lb 1 rfl ?_
  refine Z.yes (s := 44) (b := false) rfl rfl rfl ?_
  refine Z.l rfl rfl (by rfl) (Z.keepS hs) (Z.Yd.pickF rfl rfl) ?_
  refine Z.lb 1 rfl ?_
  refine Z.yes (s := 49) (b := false) rfl ((by first | rfl | decide)) rfl ?_
  refine Z.lb 1 rfl ?_
  refine Z.yes (s := 49) (b := false) rfl rfl rfl ?_
  refine Z.le rfl (by exact ⟨rfl, trivial⟩) ?_
  refine Z.ZO.call rfl rfl (by rfl) rfl rfl Try.call31 rfl (wk_els g w3R 2 1 0 [] _ _ (hs.lend (L2 := [])) wo3 (by decide) (by intro x hx; simp at hx) we3 (by decide)) ?_
  rintro v6_10 w6_10 ⟨rfl, hz⟩
  replace hs := hs.regain (L2 := []) hz
  refine Z.lb 1 rfl ?_
  refine Z.yes (s := 49) (b := false) rfl rfl rfl ?_
  refine Z.l rfl rfl (by rfl) (Z.keepS hs) (Z.Yd.pickF rfl rfl) ?_
  refine Z.lb 1 rfl ?_
  refine Z.yes (s := 54) (b := false) rfl ((by simp)) rfl ?_
  refine Z.lb 1 rfl ?_
  refine Z.yes (s := 54) (b := false) rfl rfl rfl ?_
  refine Z.le rfl (by exact ⟨rfl, trivial⟩) ?_
  refine Z.ZO.call rfl rfl (by rfl) rfl rfl Try.call31 rfl (wk_els g w3R 2 9 29 [66] _ _ (hs.lend (L2 := [])) wo3 (by decide) (by intro x hx; simp at hx; omega) we4 (by decide)) ?_
  rintro v6_15 w6_15 ⟨rfl, hz⟩
  replace hs := hs.regain (L2 := []) hz
  replace hs : SX.St w [] _ (RpB g w4R) := hs
  refine Z.lb 1 rfl ?_
  refine Z.yes (s := 54) (b := false) rfl rfl rfl ?_
  refine Z.l rfl rfl (by rfl) (Z.keepS hs) (Z.Yd.pickF rfl rfl) ?_
  refine Z.lnil ?_
  refine Z.only [1, 58] rfl ?_
  refine Z.nthen ?_
  refine Z.cond rfl (fun h => absurd h (by simp)) (fun hc6 => ?_)
  refine Z.skip ?_
  refine Z.nthen ?_
  refine Z.seq ?_
  refine Z.region ?_
  refine Z.lb 1 rfl ?_
  refine Z.l rfl rfl (by rfl) (Z.keepS hs) (Z.Yd.buildL [(0, 1), (1, 1), (2, 1), (3, 1)] [.int .i64 0, .int .i64 0, .int .i64 0, .int .i64 0] rfl rfl (by intro w; kernel_rfl)) ?_
  refine Z.le rfl trivial ?_
  refine Z.ZO.call rfl rfl (by rfl) rfl rfl Try.call9 rfl (wk_upd g w4R 3 0 11 0 1 5 _ _ (hs.lend (L2 := [])) wo4 wu3) ?_
  rintro v8_2 w8_2 ⟨rfl, hz⟩
  replace hs := hs.regain (L2 := []) hz
  replace hs : SX.St w [] _ (RpB g w5R) := hs
  refine Z.lb 1 rfl ?_
  refine Z.lnil ?_
  refine Z.only [1, 5] rfl ?_
  refine Z.nthen ?_
  refine Z.seq ?_
  refine Z.seq ?_
  refine Z.region ?_
  refine Z.lb 1 rfl ?_
  refine Z.le rfl trivial ?_
  refine Z.ZO.call rfl rfl (by rfl) rfl rfl Try.call11 rfl (rp_num _ _) ?_
  rintro v9_1 w9_1 ⟨rfl, hy⟩
  replace hs := hs.call hy
  clear hy
  try simp only [List.cons_append, List.nil_append, List.append_nil] at hs
  refine Z.lb 2 rfl ?_
  refine Z.yes (s := 65) (b := false) rfl ((by simp)) rfl ?_
  refine Z.lb 1 rfl ?_
  refine Z.yes (s := 65) (b := false) rfl rfl rfl ?_
  refine Z.le rfl (by exact ⟨rfl, trivial⟩) ?_
  refine Z.ZO.call rfl rfl (by rfl) rfl rfl Try.call17 rfl (wk_pend g w5R false false _ (hs.celOf (by first | ((repeat (first | exact List.mem_cons_self | refine List.mem_cons_of_mem _ ?_ | refine List.mem_append_right _ ?_)); done) | fail)) (by decide)) ?_
  rintro v9_5 w9_5 ⟨rfl, hy⟩
  replace hs := hs.call hy
  clear hy
  try simp only [List.cons_append, List.nil_append, List.append_nil] at hs
  refine Z.lb 1 rfl ?_
  refine Z.yes (s := 65) (b := false) rfl rfl rfl ?_
  refine Z.l rfl rfl (by rfl) (Z.keepS hs) (Z.Yd.pickF rfl rfl) ?_
  refine Z.lnil ?_
  refine Z.only [1, 69] rfl ?_
  refine Z.nthen ?_
  refine Z.cond rfl (fun h => absurd h (by simp)) (fun hc9 => ?_)
  refine Z.skip ?_
  refine Z.nthen ?_
  refine Z.seq ?_
  refine Z.region ?_
  refine Z.lb 1 rfl ?_
  refine Z.l rfl rfl (by rfl) (Z.keepS hs) (Z.Yd.buildL [(0, 1), (1, 1), (2, 1), (3, 1)] [.int .i64 0, .int .i64 0, .int .i64 0, .int .i64 0] rfl rfl (by intro w; kernel_rfl)) ?_
  refine Z.le rfl trivial ?_
  refine Z.ZO.call rfl rfl (by rfl) rfl rfl Try.call9 rfl (wk_upd g w5R 12 0 11 0 1 5 _ _ (hs.lend (L2 := [])) wo5 wu4) ?_
  rintro v11_2 w11_2 ⟨rfl, hz⟩
  replace hs := hs.regain (L2 := []) hz
  replace hs : SX.St w [] _ (RpB g w6R) := hs
  refine Z.lb 1 rfl ?_
  refine Z.lnil ?_
  refine Z.only [1, 6] rfl ?_
  refine Z.nthen ?_
  refine Z.seq ?_
  refine Z.seq ?_
  refine Z.region ?_
  refine Z.lb 1 rfl ?_
  refine Z.le rfl trivial ?_
  refine Z.ZO.call rfl rfl (by rfl) rfl rfl Try.call11 rfl (rp_num _ _) ?_
  rintro v12_1 w12_1 ⟨rfl, hy⟩
  replace hs := hs.call hy
  clear hy
  try simp only [List.cons_append, List.nil_append, List.append_nil] at hs
  refine Z.lb 2 rfl ?_
  refine Z.yes (s := 76) (b := false) rfl ((by simp)) rfl ?_
  refine Z.lb 1 rfl ?_
  refine Z.yes (s := 76) (b := false) rfl rfl rfl ?_
  refine Z.le rfl (by exact ⟨rfl, trivial⟩) ?_
  refine Z.ZO.call rfl rfl (by rfl) rfl rfl Try.call15 rfl (rp_request g w6R _ (hs.celOf (by first | ((repeat (first | exact List.mem_cons_self | refine List.mem_cons_of_mem _ ?_ | refine List.mem_append_right _ ?_)); done) | fail))) ?_
  rintro v12_5 w12_5 ⟨rfl, hy⟩
  replace hs := hs.call hy
  clear hy
  try simp only [List.cons_append, List.nil_append, List.append_nil] at hs
  refine Z.l rfl rfl (by rfl) (Z.keepS hs) (Z.Yd.pickF rfl rfl) ?_
  refine Z.lb 1 rfl ?_
  refine Z.yes (s := 80) (b := false) rfl ((by first | rfl | decide)) rfl ?_
  refine Z.lb 1 rfl ?_
  refine Z.yes (s := 80) (b := false) rfl rfl rfl ?_
  refine Z.le rfl (by exact ⟨rfl, trivial⟩) ?_
  refine Z.ZO.call rfl rfl (by rfl) rfl rfl Try.call31 rfl (wk_els g w6R 12 9 30 [0, 32, 1] _ _ (hs.lend (L2 := [])) wo6 (by decide) (by intro x hx; simp at hx; omega) we5 (by decide)) ?_
  rintro v12_9 w12_9 ⟨rfl, hz⟩
  replace hs := hs.regain (L2 := []) hz
  replace hs : SX.St w [] _ (RpB g w7R) := hs
  refine Z.lb 1 rfl ?_
  refine Z.yes (s := 80) (b := false) rfl rfl rfl ?_
  refine Z.l rfl rfl (by rfl) (Z.keepS hs) (Z.Yd.pickF rfl rfl) ?_
  refine Z.lnil ?_
  refine Z.only [1, 84] rfl ?_
  refine Z.nthen ?_
  refine Z.cond rfl (fun h => absurd h (by simp)) (fun hc12 => ?_)
  refine Z.skip ?_
  refine Z.nthen ?_
  refine Z.seq ?_
  refine Z.region ?_
  refine Z.l rfl rfl (by rfl) (Z.keepS hs) (Z.Yd.buildL [(0, 1), (1, 1), (2, 1), (3, 1)] [.int .i64 0, .int .i64 0, .int .i64 0, .int .i64 0] rfl rfl (by intro w; kernel_rfl)) ?_
  refine Z.le rfl trivial ?_
  refine Z.ZO.call rfl rfl (by rfl) rfl rfl Try.call8 rfl (wk_bad (-1) 0 0 0 _ (by decide)) ?_
  rintro v14_1 w14_1 ⟨rfl, hy⟩
  replace hs := hs.call hy
  clear hy
  try simp only [List.cons_append, List.nil_append, List.append_nil] at hs
  refine Z.lb 5 rfl ?_
  refine Z.lnil ?_
  refine Z.only [1, 8] rfl ?_
  refine Z.nthen ?_
  refine Z.seq ?_
  refine Z.region ?_
  refine Z.lb 1 rfl ?_
  refine Z.l rfl rfl (by rfl) (Z.keepS hs) (Z.Yd.buildL [(0, 1), (1, 1), (2, 1), (3, 1)] [.int .i64 0, .int .i64 0, .int .i64 0, .int .i64 0] rfl rfl (by intro w; kernel_rfl)) ?_
  refine Z.le rfl trivial ?_
  refine Z.ZO.call rfl rfl (by rfl) rfl rfl Try.call9 rfl (wk_upd g w7R 11 0 0 0 0 5 _ _ (hs.lend (L2 := [])) wo7 wu5) ?_
  rintro v15_2 w15_2 ⟨rfl, hz⟩
  replace hs := hs.regain (L2 := []) hz
  refine Z.le rfl trivial ?_
  refine Z.ZO.call rfl rfl (by rfl) rfl rfl Try.call11 rfl (rp_num _ _) ?_
  rintro v15_3 w15_3 ⟨rfl, hy⟩
  replace hs := hs.call hy
  clear hy
  try simp only [List.cons_append, List.nil_append, List.append_nil] at hs
  refine Z.lb 2 rfl ?_
  refine Z.yes (s := 95) (b := true) rfl ((by simp)) rfl ?_
  refine Z.lb 1 rfl ?_
  refine Z.yes (s := 95) (b := true) rfl rfl rfl ?_
  refine Z.le rfl (by exact ⟨rfl, trivial⟩) ?_
  refine Z.ZO.call rfl rfl (by rfl) rfl rfl Try.call11 rfl (rp_num _ _) ?_
  rintro v15_7 w15_7 ⟨rfl, hy⟩
  replace hs := hs.call hy
  clear hy
  try simp only [List.cons_append, List.nil_append, List.append_nil] at hs
  refine Z.lb 1 rfl ?_
  refine Z.yes (s := 95) (b := true) rfl rfl rfl ?_
  refine Z.l rfl rfl (by rfl) (Z.keepS hs) (Z.Yd.pickT rfl rfl) ?_
  refine Z.lb 1 rfl ?_
  refine Z.lnil ?_
  refine Z.only [0] rfl ?_
  refine Z.nthen ?_
  refine Z.ret ?_
  -- ret#0
  refine Z.out1 (by exact ⟨rfl, trivial⟩) ?_
  exact ⟨_, rfl, rfl, hs.sub (List.nil_sublist _)⟩
end Go.Proofs.Ytjejdlolgmhljaa

/- Reports: any sequence of calls. -/
namespace Go.Proofs.Ytjejdlolgmhljaa
open Go.RowKit
set_option linter.unusedSimpArgs false
set_option linter.unusedVariables false
--newlaws

theorem rx_len (x : RxV) : x.cells.length = 7 := rfl
def runR (m : RpV) (l : List RxV) : RpV := l.foldl actV m
theorem RpV.ok.run {m : RpV} (h : m.ok) (l : List RxV) : (runR m l).ok := by
  unfold runR
  induction l generalizing m with
  | nil => exact h
  | cons x l ih => exact ih (h.act x)
theorem rw_rcfg {W : World} {cs : List Value} (z : Rd Try.prog W 28 cs) : ∃ a b c d : Int, cs = [.int .i64 a, .int .i64 b, .int .i64 c, .int .i64 d] := by
  obtain ⟨hl, hf⟩ := Rd.field Try.underlying28 z
  have c5 : Try.prog.cellsOf 28 = 4 := by kernel_rfl
  have c1 : Try.prog.cellsOf 3 = 1 := by kernel_rfl
  rw [c5] at hl
  obtain ⟨x0, x1, x2, x3, rfl⟩ := list4 hl
  obtain ⟨a, ha, -⟩ := Rd.int Try.underlying3 (hf 0 _ rfl)
  obtain ⟨b, hb, -⟩ := Rd.int Try.underlying3 (hf 1 _ rfl)
  obtain ⟨p, hp, -⟩ := Rd.int Try.underlying3 (hf 2 _ rfl)
  obtain ⟨q, hq, -⟩ := Rd.int Try.underlying3 (hf 3 _ rfl)
  simp [c1] at ha hb hp hq
  subst ha hb hp hq
  exact ⟨a, b, p, q, rfl⟩
theorem agg_eq {cs : Array Value} {l : List Value} (h : (Value.agg cs).cells.toList = l) : cs = l.toArray := by
  have : cs.toList = l := by simpa [Value.cells] using h
  rw [← this]
theorem list7 {α : Type} {l : List α} (h : l.length = 7) : ∃ a b c d e f g, l = [a, b, c, d, e, f, g] := by
  match l, h with
  | [a, b, c, d, e, f, g], _ => exact ⟨a, b, c, d, e, f, g, rfl⟩
theorem rw_act26 {W : World} {cs : List Value} (z : Rw Try.prog W 43 cs) : ∃ x : RxV, cs = x.cells ∧ x.fits := by
  obtain ⟨hl, hf⟩ := Rw.field Try.underlying43 z
  have c7 : Try.prog.cellsOf 43 = 7 := by kernel_rfl
  have c1 : Try.prog.cellsOf 3 = 1 := by kernel_rfl
  have c4 : Try.prog.cellsOf 22 = 4 := by kernel_rfl
  rw [c7] at hl
  obtain ⟨x0, x1, x2, x3, x4, x5, x6, rfl⟩ := list7 hl
  obtain ⟨k, hk, -⟩ := Rw.int Try.underlying3 (hf 0 _ rfl)
  obtain ⟨t, ht, -⟩ := Rw.int Try.underlying3 (hf 1 _ rfl)
  obtain ⟨n, hn, wn⟩ := Rw.int Try.underlying3 (hf 3 _ rfl)
  have zb := hf 2 _ rfl
  simp [c1, c4] at hk ht hn zb
  obtain ⟨-, hb⟩ := Rw.array Try.underlying22 zb
  obtain ⟨a, ha, -⟩ := Rw.int Try.underlying3 (hb 0 (by omega))
  obtain ⟨b, hb1, -⟩ := Rw.int Try.underlying3 (hb 1 (by omega))
  obtain ⟨c, hc, -⟩ := Rw.int Try.underlying3 (hb 2 (by omega))
  obtain ⟨d, hd, -⟩ := Rw.int Try.underlying3 (hb 3 (by omega))
  simp [c1] at ha hb1 hc hd
  subst hk ht hn ha hb1 hc hd
  exact ⟨⟨k, t, a, b, c, d, n⟩, rfl, (wf_i64 wn).2⟩
theorem rw_acts26 {W : World} {A : Option Addr} {n c : Nat} (z : Rw Try.prog W 41 [.slice A n c]) : ∃ l : List RxV, l.length = n ∧ n ≤ maxLen ∧ (∀ a ∈ l, a.fits) ∧ Sl W A (l.flatMap RxV.cells) := by
  have c8 : Try.prog.cellsOf 43 = 7 := by kernel_rfl
  obtain ⟨xs, h1, h2, h3, -, h4, h5⟩ := Rw.rows RxV.cells RxV.fits Try.underlying41 (by rw [c8]; decide) (fun r hr => rw_act26 hr) (fun x => c8.symm) z
  exact ⟨xs, h1, Nat.le_trans h2 h3, h4, h5⟩
end Go.Proofs.Ytjejdlolgmhljaa

/- Reports: copies are independent. -/
namespace Go.Proofs.Ytjejdlolgmhljaa
open Go.RowKit
set_option linter.unusedSimpArgs false
set_option linter.unusedVariables false
--newlaws

end Go.Proofs.Ytjejdlolgmhljaa

/- Reports: a reporter that New did not make. -/
namespace Go.Proofs.Ytjejdlolgmhljaa
open Go.RowKit
set_option linter.unusedSimpArgs false
set_option linter.unusedVariables false
--newlaws

/-- p is no reporter, in every later world -/
def NoR (w : World) (p : Value) : Prop := ∀ W L, SX.St w [] W L → Calls Try.prog 24 #[p] W (SX.Ret fun v w' => v = .bool true ∧ SX.St W [] w' [])
theorem NoR.st {w W : World} {p : Value} {L : List SX.Ent} (h : NoR w p) (hs : SX.St w [] W L) : NoR W p := fun W' L' h' => h W' (L' ++ L) (hs.call h')
end Go.Proofs.Ytjejdlolgmhljaa

/- Reports: the iterator over the groups. -/
namespace Go.Proofs.Ytjejdlolgmhljaa
open Go.RowKit
set_option linter.unusedSimpArgs false
set_option linter.unusedVariables false
--newlaws

end Go.Proofs.Ytjejdlolgmhljaa

/- Reports: elements fit the room; reports are pending in time. -/
namespace Go.Proofs.Ytjejdlolgmhljaa
open Go.RowKit
set_option linter.unusedSimpArgs false
set_option linter.unusedVariables false
--newlaws

theorem updV_cases (m : RpV) (t a b c d h : Int) : (okU m t a b c d h ∧ updV m t a b c d h = (updG m t a b c d h, 0)) ∨ updV m t a b c d h = (m, 2) := by
  unfold updV
  by_cases hq : okU m t a b c d h
  · exact .inl ⟨hq, if_pos hq⟩
  · exact .inr (if_neg hq)
theorem elsV_cases (m : RpV) (t room : Int) : (okE m t room ∧ elsV m t room = (elM m t room, elP m room, 0)) ∨ elsV m t room = (m, [], 2) := by
  unfold elsV
  by_cases hq : okE m t room
  · exact .inl ⟨hq, if_pos hq⟩
  · exact .inr (if_neg hq)
def ndV (ps : List (Int × List Int)) : Int := (ps.map fun p => 1 + (p.2.length : Int)).sum
def lsV (a t : Int) (ps : List (Int × List Int)) : Int := if ps.any (fun p => decide (p.1 = 29 ∨ p.1 = 30)) = true then t else a
theorem ndV_snoc (ps : List (Int × List Int)) (p : Int × List Int) : ndV (ps ++ [p]) = ndV ps + (1 + (p.2.length : Int)) := by simp [ndV]
theorem lsV_T {a t : Int} {ps : List (Int × List Int)} {p : Int × List Int} (h : p.1 = 29 ∨ p.1 = 30) : lsV a t (ps ++ [p]) = t := by
  unfold lsV
  rw [if_pos (by simp [h])]
theorem lsV_F {a t : Int} {ps : List (Int × List Int)} {p : Int × List Int} (h : ¬ (p.1 = 29 ∨ p.1 = 30)) : lsV a t (ps ++ [p]) = lsV a t ps := by
  unfold lsV
  rw [List.any_append, List.any_cons, decide_eq_false h, List.any_nil, Bool.or_false, Bool.or_false]
theorem nd_fits (m : RpV) (t room : Int) (h : okE m t room) : ndV (elP m room) ≤ room := by
  have h0 := h.2
  unfold elP elP1
  by_cases hb : bufB m room
  · have h1 : 1 + ((encL (statV m room)).length : Int) ≤ room := by
      rw [encL_size]
      unfold statV
      have := hb.2
      split <;> simp [RepV.short] <;> omega
    rw [if_pos hb]
    by_cases hp : powB m room
    · have h2 := hp.2
      unfold elR1 at h2
      rw [if_pos hb] at h2
      rw [if_pos hp]
      simp [ndV]
      omega
    · rw [if_neg hp]
      simp [ndV]
      omega
  · rw [if_neg hb]
    by_cases hp : powB m room
    · have h2 := hp.2
      unfold elR1 at h2
      rw [if_neg hb] at h2
      rw [if_pos hp]
      simp [ndV]
      omega
    · rw [if_neg hp]
      simp [ndV]
      omega
theorem ls_last (m : RpV) (t room : Int) : lsV m.last t (elP m room) = (elM m t room).last := by
  have e1 : (elM m t room).last = (elM1 m t room).last := by unfold elM; split <;> rfl
  rw [e1]
  unfold elP elP1 elM1 lsV
  by_cases hb : bufB m room
  · rw [if_pos hb, if_pos hb]
    have : encLc (statV m room) = 29 ∨ encLc (statV m room) = 30 := by unfold encLc; split <;> simp
    rw [if_pos (by simp [this])]
  · rw [if_neg hb, if_neg hb]
    by_cases hp : powB m room
    · rw [if_pos hp]; simp
    · rw [if_neg hp]; simp
theorem els_none (m : RpV) (t room : Int) (h : 6 ≤ room) : ((elM m t room).reg || (elM m t room).per) = false ∧ (elM m t room).pow = false := by
  have hr : 2 ≤ elR1 m room := by
    unfold elR1
    split
    · rw [encL_size]; split <;> omega
    · omega
  have e1 : (elM1 m t room).reg = false ∧ (elM1 m t room).per = false := by
    unfold elM1
    by_cases hb : bufB m room
    · rw [if_pos hb]; exact ⟨rfl, rfl⟩
    · rw [if_neg hb]
      unfold bufB at hb
      cases h1 : m.reg <;> cases h2 : m.per <;> simp_all <;> omega
  unfold elM
  by_cases hp : powB m room
  · rw [if_pos hp]; simp [e1]
  · rw [if_neg hp]
    have h3 : m.pow = false := by
      cases h4 : m.pow
      · rfl
      · exact absurd ⟨h4, hr⟩ hp
    exact ⟨by simp [e1], by rw [elM1_now.2.2, h3]⟩
theorem full_sum {m : RpV} (hm : m.ok) : fstG m.b0 m.b1 m.b2 m.b3 ≠ 4 ↔ 0 < m.b0 + m.b1 + m.b2 + m.b3 := by
  obtain ⟨-, -, h1, h2, h3, h4, -⟩ := hm
  unfold fstG
  split
  · simp; omega
  · split
    · simp; omega
    · split
      · simp; omega
      · split
        · simp; omega
        · simp; omega
theorem elM_facts (m : RpV) (t room : Int) : (elM m t room).now = t ∧ (elM m t room).c1 = m.c1 := by unfold elM elM1; split <;> split <;> exact ⟨rfl, rfl⟩
theorem elP_l3 (m : RpV) (room : Int) : ∀ p ∈ elP m room, p.2.length ≤ 3 := by
  intro p hp
  unfold elP elP1 at hp
  rcases List.mem_append.1 hp with h | h
  · split at h
    · obtain rfl : p = _ := by simpa using h
      simp only
      rw [encL_size]
      split <;> omega
    · simp at h
  · split at h
    · obtain rfl : p = _ := by simpa using h
      simp
    · simp at h
theorem elP_len (m : RpV) (room : Int) : (elP m room).length ≤ 2 := by
  unfold elP elP1
  split <;> split <;> simp
theorem pt_get {qs : List PtV} {k : Nat} {q : PtV} (h : qs[k]? = some q) : (qs.flatMap PtV.cells)[0 + (k : Int).toNat * 2 + 1]? = some (.slice q.B q.l.length q.c) ∧ (qs.flatMap PtV.cells)[0 + (k : Int).toNat * 2 + 0]? = some (.int .i64 q.lc) := by
  have h1 := Z.flat_get (enc := PtV.cells) (s := 2) pt_sz h (j := 1) (by omega)
  have h0 := Z.flat_get (enc := PtV.cells) (s := 2) pt_sz h (j := 0) (by omega)
  rw [show 0 + (k : Int).toNat * 2 + 1 = k * 2 + 1 from by omega, show 0 + (k : Int).toNat * 2 + 0 = k * 2 + 0 from by omega]
  exact ⟨h1, h0⟩
set_option maxHeartbeats 2000000 in
set_option maxRecDepth 100000 in
theorem reportHolds_walk (a b c d room : Int) (A : Option Addr) (n cp : Nat) (l : List RxV) (w : World) (hx : Sl w A (l.flatMap RxV.cells)) (hl : l.length = n) (hn : n ≤ maxLen) (hg : ∀ x ∈ l, x.fits) (hroom : -9223372036854775808 ≤ room ∧ room ≤ 9223372036854775807) :
    Calls Try.prog 4 #[.agg #[.int .i64 a, .int .i64 b, .int .i64 c, .int .i64 d], .slice A n cp, .int .i64 room] w (SX.Ret fun v w' => v = .bool true ∧ SX.St w [] w' []) := by
  have hs := SX.St.start w
  by_cases h15 : n ≤ 15
  · by_cases hc : okC a b c d
    · have hok := newR_ok hc
      have hcb := (okC_iff a b c d).1 hc
      refine Z.enter Try.func4 rfl Try.ntmps4 rfl rfl ?_
      refine Z.seq ?_
      refine Z.region ?_
      refine Z.le rfl trivial ?_
      refine Z.ZO.box rfl rfl (by rfl) rfl rfl hs ?_
      clear hs; intro g3 w3 hs
      refine Z.lb 1 rfl ?_
      refine Z.lnil ?_
      refine Z.only [1, 2, 3] rfl ?_
      refine Z.nthen ?_
      refine Z.seq ?_
      refine Z.seq ?_
      refine Z.region ?_
      refine Z.lb 1 rfl ?_
      refine Z.l rfl rfl (by rfl) (Z.keepS hs) (Z.Yd.lenS rfl Try.underlying41) ?_
      refine Z.lb 1 rfl ?_
      refine Z.lnil ?_
      refine Z.only [1, 2, 3, 23] rfl ?_
      refine Z.nthen ?_
      refine Z.cond rfl (fun h => absurd h (by simp; omega)) (fun hc1 => ?_)
      refine Z.skip ?_
      refine Z.nthen ?_
      refine Z.seq ?_
      refine Z.region ?_
      refine Z.l rfl rfl (by rfl) (Z.keepS hs) (by first | exact Z.Yd.loadA _ rfl Try.isAgg28 (fun _ => Z.cellsB (by first | ((repeat (first | exact List.mem_cons_self | refine List.mem_cons_of_mem _ ?_ | refine List.mem_append_right _ ?_)); done) | fail)) (by exact Try.sizeOf28) | fail "load 3.0") ?_
      refine Z.le rfl trivial ?_
      refine Z.ZO.call rfl rfl (by rfl) rfl rfl Try.call8 rfl (wk_new a b c d _ hc) ?_
      rintro v3_1 w3_1 ⟨ga, rfl, hy⟩
      replace hs := hs.call hy
      clear hy
      try simp only [List.cons_append, List.nil_append, List.append_nil] at hs
      refine Z.lb 5 rfl ?_
      refine Z.lnil ?_
      refine Z.only [1, 2, 3, 7, 8] rfl ?_
      refine Z.nthen ?_
      refine Z.seq ?_
      refine Z.seq ?_
      refine Z.region ?_
      refine Z.lb 1 rfl ?_
      refine Z.le rfl trivial ?_
      refine Z.ZO.call rfl rfl (by rfl) rfl rfl Try.call11 rfl (rp_num _ _) ?_
      rintro v4_1 w4_1 ⟨rfl, hy⟩
      replace hs := hs.call hy
      clear hy
      try simp only [List.cons_append, List.nil_append, List.append_nil] at hs
      refine Z.lb 1 rfl ?_
      refine Z.lnil ?_
      refine Z.only [1, 2, 3, 7, 32] rfl ?_
      refine Z.nthen ?_
      refine Z.cond rfl (fun h => absurd h (by simp)) (fun hc4 => ?_)
      refine Z.skip ?_
      refine Z.nthen ?_
      refine Z.seq ?_
      refine Z.region ?_
      refine Z.lb 2 rfl ?_
      refine Z.lnil ?_
      refine Z.only [1, 2, 3, 7, 9, 10] rfl ?_
      refine Z.nthen ?_
      refine Z.seq ?_
      refine Z.seq ?_
      refine Z.region ?_
      refine Z.lb 1 rfl ?_
      refine Z.lnil ?_
      refine Z.only [1, 2, 3, 7, 9, 10, 11] rfl ?_
      refine Z.nthen ?_
      refine Z.block ?_
      refine Z.loopk (ι := RpV × Nat) [1, 2, 3, 7] rfl (fun x => [(9, [], .int .i64 x.1.now), (10, [], .int .i64 x.1.last), (11, [], .int .i64 (x.2 : Int))]) (fun x wr => (x.2 ≤ n ∧ x.1.ok ∧ x.1.c1 = b) ∧ SX.St w [] wr [SX.Ent.blk ga 66 x.1.cells.toArray, SX.Ent.blk g3 28 #[.int .i64 a, .int .i64 b, .int .i64 c, .int .i64 d]]) (fun x => n - x.2) (newR a b c d, 0) (by refine ⟨?_, ?_, ?_, trivial⟩ <;> (first | rfl | (refine Z.lookv rfl ?_; simp; done) | (refine Z.lookv rfl ?_; simp; omega))) ⟨⟨Nat.zero_le _, hok, rfl⟩, hs⟩ ?_
      clear hs
      rintro ⟨m, k⟩ w8 ⟨⟨hk, hm, hmb⟩, hs⟩
      refine Z.only [1, 2, 3, 7, 9, 10, 11] rfl ?_
      (try dsimp only at hs)
      dsimp only at hk hm hmb hs
      refine Z.seq ?_
      refine Z.seq ?_
      refine Z.region ?_
      refine Z.lb 2 rfl ?_
      refine Z.l rfl rfl (by rfl) (Z.keepS hs) (Z.Yd.lenS rfl Try.underlying41) ?_
      refine Z.lb 1 rfl ?_
      refine Z.lnil ?_
      refine Z.only [1, 2, 3, 7, 9, 10, 11, 41] rfl ?_
      refine Z.nthen ?_
      refine Z.cond rfl (fun hc8 => ?_) (fun hc8 => ?_)
      · first
          | (exfalso; simp at hc8 <;> omega)
          | (
            (try simp at hc8)
            obtain ⟨bk, off, rfl, hx2⟩ := hx.sx.some (by rw [Z.flat_length (s := 7) rx_len]; omega)
            obtain ⟨y, hyk⟩ : ∃ f, l[k]? = some f := ⟨_, List.getElem?_eq_getElem (by omega)⟩
            have hgy := hg y (List.mem_of_getElem? hyk)
            unfold RxV.fits at hgy
            have hone1 := rx_one y
            have hnow := hm.now
            have hnow' : 0 ≤ (m, k).fst.now ∧ (m, k).fst.now < 1073741824 := hm.now
            have hlast' : 0 ≤ (m, k).fst.last ∧ (m, k).fst.last < 1073741824 := hm.last
            refine Z.skip ?_
            refine Z.nthen ?_
            refine Z.seq ?_
            refine Z.block ?_
            refine Z.seq ?_
            refine Z.region ?_
            refine Z.lb 2 rfl ?_
            refine Z.l rfl rfl (by rfl) (Z.keepS hs) (Z.Yd.elem rfl rfl Try.underlying41 Try.sizeOf43 (fun hG => ⟨(by first | omega | (have hG' := Z.gh rfl hG; simp at hG'; omega)), (by first | omega | (have hG' := Z.gh rfl hG; simp at hG'; omega))⟩)) ?_
            refine Z.l rfl rfl (by rfl) (Z.keepS hs) (Z.Yd.loadA _ rfl Try.isAgg43 (fun _ => Z.cellsX y.cells hx2 rx_len hyk rfl) (by exact Try.sizeOf43)) ?_
            refine Z.le rfl trivial ?_
            refine Z.ZO.alloc rfl rfl (by rfl) Try.zeroValue43 rfl hs ?_
            clear hs; intro g12 w12 hs
            refine Z.le rfl trivial ?_
            first | refine Z.ZO.storeA rfl rfl hs rfl rfl (by kernel_rfl) (by first | (simp [Value.oneCell']; done) | (refine Z.all_one ?_; assumption)) (by first | exact SX.at0 | exact SX.at1 | exact SX.at2 | exact SX.at3 | exact SX.at4 | exact SX.at5 | exact Z.at6 | exact Z.at7 | exact Z.at8 | exact Z.at9 | exact Z.at10 | exact Z.at11 | exact Z.at12) (by rfl) ?_ | refine Z.ZO.storeP rfl rfl hs rfl rfl (by kernel_rfl) (by first | (simp [Value.oneCell']; done) | (refine Z.all_one ?_; assumption)) (by first | exact SX.at0 | exact SX.at1 | exact SX.at2 | exact SX.at3 | exact SX.at4 | exact SX.at5 | exact Z.at6 | exact Z.at7 | exact Z.at8 | exact Z.at9 | exact Z.at10 | exact Z.at11 | exact Z.at12) (by first | decide | (simp; done) | (simp; omega)) ?_ | refine Z.ZO.storePR rfl rfl hs rfl rfl (by kernel_rfl) (by first | (simp [Value.oneCell']; done) | (refine Z.all_one ?_; assumption)) (by first | exact SX.at0 | exact SX.at1 | exact SX.at2 | exact SX.at3 | exact SX.at4 | exact SX.at5 | exact Z.at6 | exact Z.at7 | exact Z.at8 | exact Z.at9 | exact Z.at10 | exact Z.at11 | exact Z.at12) (by first | decide | (simp; done) | (simp; omega)) ?_
            clear hs; intro ws hs
            simp only [Nat.zero_add, Nat.add_zero, Nat.reduceAdd, Int.reduceToNat, Nat.reduceMul, List.set_cons_zero, List.set_cons_succ, List.setIfInBounds_toArray] at hs
            try simp only [Z.putL, Nat.zero_add] at hs
            refine Z.lnil ?_
            refine Z.only [1, 2, 3, 7, 9, 10, 11, 12] rfl ?_
            replace hs : SX.St w [] _ [SX.Ent.blk g12 43 #[.int .i64 y.w, .int .i64 y.t, .int .i64 y.a, .int .i64 y.b, .int .i64 y.c, .int .i64 y.d, .int .i64 y.n], SX.Ent.blk ga 66 m.cells.toArray, SX.Ent.blk g3 28 #[.int .i64 a, .int .i64 b, .int .i64 c, .int .i64 d]] := hs
            refine Z.nthen ?_
            refine Z.seq ?_
            refine Z.region ?_
            refine Z.lb 1 rfl ?_
            refine Z.l rfl rfl (by rfl) (Z.keepS hs) (Z.Yd.fieldA (m := 1) rfl (by kernel_rfl)) ?_
            refine Z.l rfl rfl (by rfl) (Z.keepS hs) (by first | exact Z.Yd.load rfl Try.isAgg3 (fun _ => Z.cellB (by first | ((repeat (first | exact List.mem_cons_self | refine List.mem_cons_of_mem _ ?_ | refine List.mem_append_right _ ?_)); done) | fail) rfl) | exact Z.Yd.load rfl Try.isAgg3 (fun _ => Z.cellO (by assumption) (by simp) (by assumption)) | fail "load 11.2") ?_
            refine Z.l rfl rfl (by rfl) (Z.keepS hs) (Z.Yd.min rfl rfl) ?_
            refine Z.l rfl rfl (by rfl) (Z.keepS hs) (Z.Yd.max rfl rfl) ?_
            refine Z.l rfl rfl (by rfl) (Z.keepS hs) (Z.Yd.add rfl rfl (fun hG => Z.wi64 (by first | omega | (have hG' := Z.gh rfl hG; simp at hG'; omega)))) ?_
            refine Z.lb 1 rfl ?_
            refine Z.lnil ?_
            refine Z.only [1, 2, 3, 7, 9, 10, 11, 12, 13] rfl ?_
            obtain ⟨tt, htt⟩ : ∃ tt, tt = m.now + max 0 (min 100000 y.t) := ⟨_, rfl⟩
            rw [← htt]
            refine Z.nthen ?_
            refine Z.seq ?_
            refine Z.seq ?_
            refine Z.region ?_
            refine Z.l rfl rfl (by rfl) (Z.keepS hs) (Z.Yd.fieldA (m := 0) rfl (by kernel_rfl)) ?_
            refine Z.l rfl rfl (by rfl) (Z.keepS hs) (by first | exact Z.Yd.load rfl Try.isAgg3 (fun _ => Z.cellB (by first | ((repeat (first | exact List.mem_cons_self | refine List.mem_cons_of_mem _ ?_ | refine List.mem_append_right _ ?_)); done) | fail) rfl) | exact Z.Yd.load rfl Try.isAgg3 (fun _ => Z.cellO (by assumption) (by simp) (by assumption)) | fail "load 12.1") ?_
            refine Z.l rfl rfl (by rfl) (Z.keepS hs) (Z.Yd.rem rfl rfl (by intro hG; first | decide | omega) (by intro hG; first | exact Z.tmodn (by omega) | exact rfl)) ?_
            refine Z.lb 1 rfl ?_
            refine Z.lnil ?_
            refine Z.only [1, 2, 3, 7, 9, 10, 11, 12, 13, 57] rfl ?_
            refine Z.nthen ?_
            refine Z.cond rfl (fun hc12 => ?_) (fun hc12 => ?_)
            · first
                | (exfalso; simp at hc12 <;> omega)
                | (
                  (try simp at hc12)
                  refine Z.seq ?_
                  refine Z.seq ?_
                  refine Z.region ?_
                  refine Z.lb 2 rfl ?_
                  refine Z.l rfl rfl (by rfl) (Z.keepS hs) (Z.Yd.fieldA (m := 2) rfl (by kernel_rfl)) ?_
                  refine Z.l rfl rfl (by rfl) (Z.keepS hs) (Z.Yd.loadA _ rfl Try.isAgg22 (fun _ => Z.cellsBo (cs := y.cells) [.int .i64 y.a, .int .i64 y.b, .int .i64 y.c, .int .i64 y.d] (by first | ((repeat (first | exact List.mem_cons_self | refine List.mem_cons_of_mem _ ?_ | refine List.mem_append_right _ ?_)); done) | fail) ⟨[_], rfl⟩) (by exact Try.sizeOf22)) ?_
                  refine Z.l rfl rfl (by rfl) (Z.keepS hs) (Z.Yd.fieldA (m := 6) rfl (by kernel_rfl)) ?_
                  refine Z.l rfl rfl (by rfl) (Z.keepS hs) (by first | exact Z.Yd.load rfl Try.isAgg3 (fun _ => Z.cellB (by first | ((repeat (first | exact List.mem_cons_self | refine List.mem_cons_of_mem _ ?_ | refine List.mem_append_right _ ?_)); done) | fail) rfl) | exact Z.Yd.load rfl Try.isAgg3 (fun _ => Z.cellO (by assumption) (by simp) (by assumption)) | fail "load 13.5") ?_
                  replace hs : SX.St w [] _ (RpB ga m ++ [SX.Ent.blk g12 _ _, SX.Ent.blk g3 _ _]) := hs.sel [1, 0, 2] (by decide)
                  obtain ⟨U, hU⟩ : ∃ U, U = updV m tt y.a y.b y.c y.d y.n := ⟨_, rfl⟩
                  have hUc := updV_cases m tt y.a y.b y.c y.d y.n
                  rw [← hU] at hUc
                  refine Z.le rfl trivial ?_
                  refine Z.ZO.call rfl rfl (by rfl) rfl rfl Try.call9 rfl (wk_upd ga m tt y.a y.b y.c y.d y.n U _ hs.lend hm hU.symm) ?_
                  rintro v13_6 w13_6 ⟨rfl, hz⟩
                  replace hs := hs.regain hz
                  simp only [List.cons_append, List.nil_append] at hs
                  refine Z.le rfl trivial ?_
                  refine Z.ZO.call rfl rfl (by rfl) rfl rfl Try.call11 rfl (rp_num _ _) ?_
                  rintro v13_7 w13_7 ⟨rfl, hy⟩
                  replace hs := hs.call hy
                  clear hy
                  try simp only [List.cons_append, List.nil_append, List.append_nil] at hs
                  refine Z.lb 1 rfl ?_
                  refine Z.lnil ?_
                  refine Z.only [1, 2, 3, 7, 9, 10, 11, 12, 13, 66] rfl ?_
                  refine Z.nthen ?_
                  refine Z.cond rfl (fun hc13 => ?_) (fun hc13 => ?_)
                  · first
                      | (exfalso; simp at hc13 <;> omega)
                      | (
                        (try simp at hc13)
                        have eU : U = (m, 2) := by
                          rcases hUc with ⟨-, h⟩ | h
                          · rw [h] at hc13; simp at hc13
                          · exact h
                        subst eU
                        refine Z.exit ?_
                        refine Z.xthen ?_
                        refine Z.xthen ?_
                        refine Z.xblock ?_
                        refine Z.nthen ?_
                        refine Z.region ?_
                        refine Z.lb 1 rfl ?_
                        refine Z.l rfl rfl (by rfl) (Z.keepS hs) (Z.Yd.add rfl rfl (fun hG => Z.wi64 (by first | omega | (have hG' := Z.gh rfl hG; simp at hG'; omega)))) ?_
                        refine Z.lb 1 rfl ?_
                        refine Z.lnil ?_
                        refine Z.only [1, 2, 3, 7, 9, 10, 11] rfl ?_
                        refine Z.nthen ?_
                        first
                        | exact Z.again (m, k + 1) (by refine ⟨?_, ?_, ?_, ?_, ?_, ?_, ?_, trivial⟩ <;> (first | rfl | (refine Z.lookv rfl ?_; simp; done) | (refine Z.lookv rfl ?_; simp; omega))) ⟨⟨by simp only; omega, hm, hmb⟩, hs.sel [0, 2] (by decide)⟩ (by simp only; omega)
                        | exact Z.again (mg, k + 1) (by refine ⟨?_, ?_, ?_, ?_, ?_, ?_, ?_, trivial⟩ <;> first | rfl | (refine Z.lookv rfl ?_; congr 1; first | exact e1.1.symm | exact e1.2.1.symm | omega)) ⟨⟨by simp only; omega, hmg, e1.2.2⟩, hs.sel [0, 2] (by decide)⟩ (by simp only; omega)
                        | exact Z.again (m, k + 1) (by refine ⟨?_, ?_, ?_, ?_, ?_, ?_, ?_, trivial⟩ <;> (first | rfl | (refine Z.lookv rfl ?_; simp; done) | (refine Z.lookv rfl ?_; simp; omega))) ⟨⟨by simp only; omega, hm, hmb⟩, (SX.St.selT (L1 := [_, _, _, _]) hs [2, 1] (by decide)).sub (List.sublist_append_left _ _)⟩ (by simp only; omega)
                        | exact Z.again (elM m tt room, k + 1) (by refine ⟨?_, ?_, ?_, ?_, ?_, ?_, ?_, trivial⟩ <;> first | rfl | (refine Z.lookv rfl ?_; refine congrArg (Value.int .i64) ?_; first | exact hef.1.symm | exact hll | omega)) ⟨⟨by simp only; omega, hm.elM hoke.1, by simp only; rw [hef.2]; exact hmb⟩, (SX.St.selT (L1 := [_, _, _, _]) hs [2, 1] (by decide)).sub (List.sublist_append_left _ _)⟩ (by simp only; omega)
                        | fail "next"
                        )
                  · first
                      | (exfalso; simp at hc13 <;> omega)
                      | (
                        (try simp at hc13)
                        have hUo : okU m tt y.a y.b y.c y.d y.n ∧ U = (updG m tt y.a y.b y.c y.d y.n, 0) := by
                          rcases hUc with h | h
                          · exact h
                          · rw [h] at hc13; simp at hc13
                        obtain ⟨hoku, eU⟩ := hUo
                        subst eU
                        have hmg := hm.updG hoku
                        obtain ⟨⟨u1, u2⟩, ⟨u3, u4, u5, u6⟩, u7⟩ := (okU_iff _ _ _ _ _ _ _).1 hoku
                        have hfs := full_sum hmg
                        obtain ⟨mg, hmge⟩ : ∃ mg, mg = updG m tt y.a y.b y.c y.d y.n := ⟨_, rfl⟩
                        have e0 : mg.b0 + mg.b1 + mg.b2 + mg.b3 = y.a + y.b + y.c + y.d := by rw [hmge]; rfl
                        have e1 : mg.now = tt ∧ mg.last = m.last ∧ mg.c1 = b := by rw [hmge]; exact ⟨rfl, rfl, hmb⟩
                        have e2 : 0 < y.a + y.b + y.c + y.d → 0 < b → b ≤ tt - m.last → mg.reg = true := fun h1 h2 h3 => by
                          have h4 : fstG y.a y.b y.c y.d ≠ 4 := by
                            have := hfs.2 (by rw [← hmge, e0]; exact h1)
                            exact this
                          rw [hmge]
                          simp only [updG, if_neg h4]
                          rw [show dueV m.c1 m.last tt = true from decide_eq_true ⟨by rw [hmb]; exact h2, by rw [hmb]; exact h3⟩]
                          simp
                        rw [← hmge] at hs hmg hfs
                        rw [e0] at hfs
                        have e3 : (mg.reg || mg.per) = true → 0 < y.a + y.b + y.c + y.d := fun h => hfs.1 (hmg.full (by simpa using h))
                        have hml := hm.last
                        refine Z.skip ?_
                        refine Z.nthen ?_
                        refine Z.seq ?_
                        refine Z.region ?_
                        refine Z.lb 2 rfl ?_
                        refine Z.lnil ?_
                        refine Z.only [1, 2, 3, 7, 9, 10, 11, 12] rfl ?_
                        refine Z.nthen ?_
                        refine Z.seq ?_
                        refine Z.region ?_
                        refine Z.l rfl rfl (by rfl) (Z.keepS hs) (Z.Yd.fieldA (m := 2) rfl (by kernel_rfl)) ?_
                        refine Z.l rfl rfl (by rfl) (Z.keepS hs) (Z.Yd.elemA rfl rfl Try.underlying22 Try.sizeOf3 (fun hG => ⟨(by first | omega | (have hG' := Z.gh rfl hG; simp at hG'; omega)), (by first | omega | (have hG' := Z.gh rfl hG; simp at hG'; omega))⟩)) ?_
                        refine Z.l rfl rfl (by rfl) (Z.keepS hs) (by first | exact Z.Yd.load rfl Try.isAgg3 (fun _ => Z.cellB (by first | ((repeat (first | exact List.mem_cons_self | refine List.mem_cons_of_mem _ ?_ | refine List.mem_append_right _ ?_)); done) | fail) rfl) | exact Z.Yd.load rfl Try.isAgg3 (fun hG => Z.cellR (by first | ((repeat (first | exact List.mem_cons_self | refine List.mem_cons_of_mem _ ?_ | refine List.mem_append_right _ ?_)); done) | fail) (Z.ints_at (by first | omega | (have hG' := Z.gh rfl hG; simp at hG'; omega)) (by first | omega | (have hG' := Z.gh rfl hG; simp at hG'; omega)))) | exact Z.Yd.load rfl Try.isAgg3 (fun hG => Z.cellXi (by assumption) (by first | omega | (have hG' := Z.gh rfl hG; simp at hG'; omega)) (by first | omega | (have hG' := Z.gh rfl hG; simp at hG'; omega))) | exact Z.Yd.load rfl Try.isAgg3 (fun hG => Z.cellS (by assumption) rfl (by first | omega | (have hG' := Z.gh rfl hG; simp at hG'; omega)) (by first | omega | (have hG' := Z.gh rfl hG; simp at hG'; omega))) | fail "load 15.2") ?_
                        refine Z.l rfl rfl (by rfl) (Z.keepS hs) (Z.Yd.fieldA (m := 2) rfl (by kernel_rfl)) ?_
                        refine Z.l rfl rfl (by rfl) (Z.keepS hs) (Z.Yd.elemA rfl rfl Try.underlying22 Try.sizeOf3 (fun hG => ⟨(by first | omega | (have hG' := Z.gh rfl hG; simp at hG'; omega)), (by first | omega | (have hG' := Z.gh rfl hG; simp at hG'; omega))⟩)) ?_
                        refine Z.l rfl rfl (by rfl) (Z.keepS hs) (by first | exact Z.Yd.load rfl Try.isAgg3 (fun _ => Z.cellB (by first | ((repeat (first | exact List.mem_cons_self | refine List.mem_cons_of_mem _ ?_ | refine List.mem_append_right _ ?_)); done) | fail) rfl) | exact Z.Yd.load rfl Try.isAgg3 (fun hG => Z.cellR (by first | ((repeat (first | exact List.mem_cons_self | refine List.mem_cons_of_mem _ ?_ | refine List.mem_append_right _ ?_)); done) | fail) (Z.ints_at (by first | omega | (have hG' := Z.gh rfl hG; simp at hG'; omega)) (by first | omega | (have hG' := Z.gh rfl hG; simp at hG'; omega)))) | exact Z.Yd.load rfl Try.isAgg3 (fun hG => Z.cellXi (by assumption) (by first | omega | (have hG' := Z.gh rfl hG; simp at hG'; omega)) (by first | omega | (have hG' := Z.gh rfl hG; simp at hG'; omega))) | exact Z.Yd.load rfl Try.isAgg3 (fun hG => Z.cellS (by assumption) rfl (by first | omega | (have hG' := Z.gh rfl hG; simp at hG'; omega)) (by first | omega | (have hG' := Z.gh rfl hG; simp at hG'; omega))) | fail "load 15.5") ?_
                        refine Z.l rfl rfl (by rfl) (Z.keepS hs) (Z.Yd.add rfl rfl (fun hG => Z.wi64 (by first | omega | (have hG' := Z.gh rfl hG; simp at hG'; omega)))) ?_
                        refine Z.l rfl rfl (by rfl) (Z.keepS hs) (Z.Yd.fieldA (m := 2) rfl (by kernel_rfl)) ?_
                        refine Z.l rfl rfl (by rfl) (Z.keepS hs) (Z.Yd.elemA rfl rfl Try.underlying22 Try.sizeOf3 (fun hG => ⟨(by first | omega | (have hG' := Z.gh rfl hG; simp at hG'; omega)), (by first | omega | (have hG' := Z.gh rfl hG; simp at hG'; omega))⟩)) ?_
                        refine Z.l rfl rfl (by rfl) (Z.keepS hs) (by first | exact Z.Yd.load rfl Try.isAgg3 (fun _ => Z.cellB (by first | ((repeat (first | exact List.mem_cons_self | refine List.mem_cons_of_mem _ ?_ | refine List.mem_append_right _ ?_)); done) | fail) rfl) | exact Z.Yd.load rfl Try.isAgg3 (fun hG => Z.cellR (by first | ((repeat (first | exact List.mem_cons_self | refine List.mem_cons_of_mem _ ?_ | refine List.mem_append_right _ ?_)); done) | fail) (Z.ints_at (by first | omega | (have hG' := Z.gh rfl hG; simp at hG'; omega)) (by first | omega | (have hG' := Z.gh rfl hG; simp at hG'; omega)))) | exact Z.Yd.load rfl Try.isAgg3 (fun hG => Z.cellXi (by assumption) (by first | omega | (have hG' := Z.gh rfl hG; simp at hG'; omega)) (by first | omega | (have hG' := Z.gh rfl hG; simp at hG'; omega))) | exact Z.Yd.load rfl Try.isAgg3 (fun hG => Z.cellS (by assumption) rfl (by first | omega | (have hG' := Z.gh rfl hG; simp at hG'; omega)) (by first | omega | (have hG' := Z.gh rfl hG; simp at hG'; omega))) | fail "load 15.9") ?_
                        refine Z.l rfl rfl (by rfl) (Z.keepS hs) (Z.Yd.add rfl rfl (fun hG => Z.wi64 (by first | omega | (have hG' := Z.gh rfl hG; simp at hG'; omega)))) ?_
                        refine Z.l rfl rfl (by rfl) (Z.keepS hs) (Z.Yd.fieldA (m := 2) rfl (by kernel_rfl)) ?_
                        refine Z.l rfl rfl (by rfl) (Z.keepS hs) (Z.Yd.elemA rfl rfl Try.underlying22 Try.sizeOf3 (fun hG => ⟨(by first | omega | (have hG' := Z.gh rfl hG; simp at hG'; omega)), (by first | omega | (have hG' := Z.gh rfl hG; simp at hG'; omega))⟩)) ?_
                        refine Z.l rfl rfl (by rfl) (Z.keepS hs) (by first | exact Z.Yd.load rfl Try.isAgg3 (fun _ => Z.cellB (by first | ((repeat (first | exact List.mem_cons_self | refine List.mem_cons_of_mem _ ?_ | refine List.mem_append_right _ ?_)); done) | fail) rfl) | exact Z.Yd.load rfl Try.isAgg3 (fun hG => Z.cellR (by first | ((repeat (first | exact List.mem_cons_self | refine List.mem_cons_of_mem _ ?_ | refine List.mem_append_right _ ?_)); done) | fail) (Z.ints_at (by first | omega | (have hG' := Z.gh rfl hG; simp at hG'; omega)) (by first | omega | (have hG' := Z.gh rfl hG; simp at hG'; omega)))) | exact Z.Yd.load rfl Try.isAgg3 (fun hG => Z.cellXi (by assumption) (by first | omega | (have hG' := Z.gh rfl hG; simp at hG'; omega)) (by first | omega | (have hG' := Z.gh rfl hG; simp at hG'; omega))) | exact Z.Yd.load rfl Try.isAgg3 (fun hG => Z.cellS (by assumption) rfl (by first | omega | (have hG' := Z.gh rfl hG; simp at hG'; omega)) (by first | omega | (have hG' := Z.gh rfl hG; simp at hG'; omega))) | fail "load 15.13") ?_
                        refine Z.l rfl rfl (by rfl) (Z.keepS hs) (Z.Yd.add rfl rfl (fun hG => Z.wi64 (by first | omega | (have hG' := Z.gh rfl hG; simp at hG'; omega)))) ?_
                        refine Z.lb 2 rfl ?_
                        refine Z.lnil ?_
                        refine Z.only [1, 2, 3, 7, 9, 10, 11, 14] rfl ?_
                        refine Z.nthen ?_
                        refine Z.seq ?_
                        refine Z.region ?_
                        refine Z.lb 1 rfl ?_
                        refine Z.le rfl trivial ?_
                        refine Z.ZO.call rfl rfl (by rfl) rfl rfl Try.call14 rfl (rp_pending ga mg _ (hs.celOf (cs := mg.cells) (by first | ((repeat (first | exact List.mem_cons_self | refine List.mem_cons_of_mem _ ?_ | refine List.mem_append_right _ ?_)); done) | fail))) ?_
                        rintro v16_1 w16_1 ⟨rfl, hy⟩
                        replace hs := hs.call hy
                        clear hy
                        try simp only [List.cons_append, List.nil_append, List.append_nil] at hs
                        refine Z.lb 5 rfl ?_
                        refine Z.lnil ?_
                        refine Z.only [1, 2, 3, 7, 9, 10, 11, 14, 15] rfl ?_
                        refine Z.nthen ?_
                        refine Z.seq ?_
                        refine Z.seq ?_
                        refine Z.region ?_
                        refine Z.lb 6 rfl ?_
                        refine Z.yes (s := 94) (b := false) rfl ((by cases hbf : (mg.reg || mg.per) <;> simp_all)) rfl ?_
                        refine Z.lb 2 rfl ?_
                        refine Z.l rfl rfl (by rfl) (Z.keepS hs) (Z.Yd.fieldA (m := 1) rfl (by kernel_rfl)) ?_
                        refine Z.l rfl rfl (by rfl) (Z.keepS hs) (by first | exact Z.Yd.load rfl Try.isAgg3 (fun _ => Z.cellB (by first | ((repeat (first | exact List.mem_cons_self | refine List.mem_cons_of_mem _ ?_ | refine List.mem_append_right _ ?_)); done) | fail) rfl) | exact Z.Yd.load rfl Try.isAgg3 (fun _ => Z.cellO (by assumption) (by simp) (by assumption)) | fail "load 17.9") ?_
                        refine Z.lb 5 rfl ?_
                        refine Z.l rfl rfl (by rfl) (Z.keepS hs) (Z.Yd.sub rfl rfl (fun hG => Z.wi64 (by first | omega | (have hG' := Z.gh rfl hG; simp at hG'; omega)))) ?_
                        refine Z.l rfl rfl (by rfl) (Z.keepS hs) (Z.Yd.fieldA (m := 1) rfl (by kernel_rfl)) ?_
                        refine Z.l rfl rfl (by rfl) (Z.keepS hs) (by first | exact Z.Yd.load rfl Try.isAgg3 (fun _ => Z.cellB (by first | ((repeat (first | exact List.mem_cons_self | refine List.mem_cons_of_mem _ ?_ | refine List.mem_append_right _ ?_)); done) | fail) rfl) | exact Z.Yd.load rfl Try.isAgg3 (fun _ => Z.cellO (by assumption) (by simp) (by assumption)) | fail "load 17.17") ?_
                        refine Z.lb 4 rfl ?_
                        refine Z.yes (s := 94) (b := false) rfl rfl rfl ?_
                        refine Z.split (s := 109) rfl (fun hsp109 => ?_) (fun hsp109 => ?_)
                        · first
                            | (exfalso; simp at hsp109 <;> omega)
                            | (
                              refine Z.yes (s := 109) (b := true) rfl hsp109 rfl ?_
                              (try simp at hsp109)
                              have hrg : mg.reg = true := e2 (by omega) (by omega) (by omega)
                              refine Z.le rfl (by exact ⟨rfl, trivial⟩) ?_
                              refine Z.ZO.call rfl rfl (by rfl) rfl rfl Try.call15 rfl (rp_request ga mg _ (hs.celOf (cs := mg.cells) (by first | ((repeat (first | exact List.mem_cons_self | refine List.mem_cons_of_mem _ ?_ | refine List.mem_append_right _ ?_)); done) | fail))) ?_
                              rintro v17_22 w17_22 ⟨rfl, hy⟩
                              replace hs := hs.call hy
                              clear hy
                              try simp only [List.cons_append, List.nil_append, List.append_nil] at hs
                              refine Z.lb 1 rfl ?_
                              refine Z.yes (s := 109) (b := true) rfl rfl rfl ?_
                              refine Z.l rfl rfl (by rfl) (Z.keepS hs) (Z.Yd.pickT rfl rfl) ?_
                              refine Z.yes (s := 94) (b := false) rfl rfl rfl ?_
                              refine Z.l rfl rfl (by rfl) (Z.keepS hs) (Z.Yd.pickF rfl rfl) ?_
                              refine Z.lnil ?_
                              refine Z.only [1, 2, 3, 7, 9, 10, 11, 114] rfl ?_
                              refine Z.nthen ?_
                              refine Z.cond rfl (fun h => absurd h (by simp_all)) (fun hc17 => ?_)
                              refine Z.skip ?_
                              refine Z.nthen ?_
                              refine Z.exit ?_
                              refine Z.xthen ?_
                              refine Z.xblock ?_
                              refine Z.nthen ?_
                              refine Z.region ?_
                              refine Z.lb 1 rfl ?_
                              refine Z.l rfl rfl (by rfl) (Z.keepS hs) (Z.Yd.add rfl rfl (fun hG => Z.wi64 (by first | omega | (have hG' := Z.gh rfl hG; simp at hG'; omega)))) ?_
                              refine Z.lb 1 rfl ?_
                              refine Z.lnil ?_
                              refine Z.only [1, 2, 3, 7, 9, 10, 11] rfl ?_
                              refine Z.nthen ?_
                              first
                              | exact Z.again (m, k + 1) (by refine ⟨?_, ?_, ?_, ?_, ?_, ?_, ?_, trivial⟩ <;> (first | rfl | (refine Z.lookv rfl ?_; simp; done) | (refine Z.lookv rfl ?_; simp; omega))) ⟨⟨by simp only; omega, hm, hmb⟩, hs.sel [0, 2] (by decide)⟩ (by simp only; omega)
                              | exact Z.again (mg, k + 1) (by refine ⟨?_, ?_, ?_, ?_, ?_, ?_, ?_, trivial⟩ <;> first | rfl | (refine Z.lookv rfl ?_; congr 1; first | exact e1.1.symm | exact e1.2.1.symm | omega)) ⟨⟨by simp only; omega, hmg, e1.2.2⟩, hs.sel [0, 2] (by decide)⟩ (by simp only; omega)
                              | exact Z.again (m, k + 1) (by refine ⟨?_, ?_, ?_, ?_, ?_, ?_, ?_, trivial⟩ <;> (first | rfl | (refine Z.lookv rfl ?_; simp; done) | (refine Z.lookv rfl ?_; simp; omega))) ⟨⟨by simp only; omega, hm, hmb⟩, (SX.St.selT (L1 := [_, _, _, _]) hs [2, 1] (by decide)).sub (List.sublist_append_left _ _)⟩ (by simp only; omega)
                              | exact Z.again (elM m tt room, k + 1) (by refine ⟨?_, ?_, ?_, ?_, ?_, ?_, ?_, trivial⟩ <;> first | rfl | (refine Z.lookv rfl ?_; refine congrArg (Value.int .i64) ?_; first | exact hef.1.symm | exact hll | omega)) ⟨⟨by simp only; omega, hm.elM hoke.1, by simp only; rw [hef.2]; exact hmb⟩, (SX.St.selT (L1 := [_, _, _, _]) hs [2, 1] (by decide)).sub (List.sublist_append_left _ _)⟩ (by simp only; omega)
                              | fail "next"
                              )
                        · first
                            | (exfalso; simp at hsp109 <;> omega)
                            | (
                              refine Z.yes (s := 109) (b := false) rfl hsp109 rfl ?_
                              (try simp at hsp109)
                              refine Z.ls rfl rfl rfl (by rfl) ?_
                              refine Z.ls rfl rfl rfl (by rfl) ?_
                              refine Z.l rfl rfl (by rfl) (Z.keepS hs) (Z.Yd.pickF rfl rfl) ?_
                              refine Z.yes (s := 94) (b := false) rfl rfl rfl ?_
                              refine Z.l rfl rfl (by rfl) (Z.keepS hs) (Z.Yd.pickF rfl rfl) ?_
                              refine Z.lnil ?_
                              refine Z.only [1, 2, 3, 7, 9, 10, 11, 114] rfl ?_
                              refine Z.nthen ?_
                              refine Z.cond rfl (fun h => absurd h (by simp_all)) (fun hc17 => ?_)
                              refine Z.skip ?_
                              refine Z.nthen ?_
                              refine Z.exit ?_
                              refine Z.xthen ?_
                              refine Z.xblock ?_
                              refine Z.nthen ?_
                              refine Z.region ?_
                              refine Z.lb 1 rfl ?_
                              refine Z.l rfl rfl (by rfl) (Z.keepS hs) (Z.Yd.add rfl rfl (fun hG => Z.wi64 (by first | omega | (have hG' := Z.gh rfl hG; simp at hG'; omega)))) ?_
                              refine Z.lb 1 rfl ?_
                              refine Z.lnil ?_
                              refine Z.only [1, 2, 3, 7, 9, 10, 11] rfl ?_
                              refine Z.nthen ?_
                              first
                              | exact Z.again (m, k + 1) (by refine ⟨?_, ?_, ?_, ?_, ?_, ?_, ?_, trivial⟩ <;> (first | rfl | (refine Z.lookv rfl ?_; simp; done) | (refine Z.lookv rfl ?_; simp; omega))) ⟨⟨by simp only; omega, hm, hmb⟩, hs.sel [0, 2] (by decide)⟩ (by simp only; omega)
                              | exact Z.again (mg, k + 1) (by refine ⟨?_, ?_, ?_, ?_, ?_, ?_, ?_, trivial⟩ <;> first | rfl | (refine Z.lookv rfl ?_; congr 1; first | exact e1.1.symm | exact e1.2.1.symm | omega)) ⟨⟨by simp only; omega, hmg, e1.2.2⟩, hs.sel [0, 2] (by decide)⟩ (by simp only; omega)
                              | exact Z.again (m, k + 1) (by refine ⟨?_, ?_, ?_, ?_, ?_, ?_, ?_, trivial⟩ <;> (first | rfl | (refine Z.lookv rfl ?_; simp; done) | (refine Z.lookv rfl ?_; simp; omega))) ⟨⟨by simp only; omega, hm, hmb⟩, (SX.St.selT (L1 := [_, _, _, _]) hs [2, 1] (by decide)).sub (List.sublist_append_left _ _)⟩ (by simp only; omega)
                              | exact Z.again (elM m tt room, k + 1) (by refine ⟨?_, ?_, ?_, ?_, ?_, ?_, ?_, trivial⟩ <;> first | rfl | (refine Z.lookv rfl ?_; refine congrArg (Value.int .i64) ?_; first | exact hef.1.symm | exact hll | omega)) ⟨⟨by simp only; omega, hm.elM hoke.1, by simp only; rw [hef.2]; exact hmb⟩, (SX.St.selT (L1 := [_, _, _, _]) hs [2, 1] (by decide)).sub (List.sublist_append_left _ _)⟩ (by simp only; omega)
                              | fail "next"
                              )
                        )
                  )
            · first
                | (exfalso; simp at hc12 <;> omega)
                | (
                  (try simp at hc12)
                  refine Z.skip ?_
                  refine Z.nthen ?_
                  refine Z.seq ?_
                  refine Z.region ?_
                  refine Z.lb 3 rfl ?_
                  replace hs : SX.St w [] _ (RpB ga m ++ [SX.Ent.blk g12 _ _, SX.Ent.blk g3 _ _]) := hs.sel [1, 0, 2] (by decide)
                  obtain ⟨V, hV⟩ : ∃ V, V = elsV m tt room := ⟨_, rfl⟩
                  have hVc := elsV_cases m tt room
                  rw [← hV] at hVc
                  refine Z.le rfl trivial ?_
                  refine Z.ZO.call rfl rfl (by rfl) rfl rfl Try.call16 rfl (rp_elements ga _ m tt room _ hs.lend hm hroom.2) ?_
                  rintro v19_3 w19_3 ⟨sv, qs, rfl, hqs, hz⟩
                  replace hs := hs.regain hz
                  replace hs := SX.St.swap (L1 := SX.Ent.blk ga _ _ :: ptsL sv qs) (L2 := [SX.Ent.blk g12 _ _, SX.Ent.blk g3 _ _]) (L3 := []) (by rw [List.append_nil]; exact hs)
                  simp only [ptsL, List.cons_append, List.nil_append, List.append_nil] at hs
                  rw [← hV] at hs hqs ⊢
                  obtain ⟨Ba, ca, rfl, -, -, -⟩ := SX.row_slv hs (j := 3) rfl
                  refine Z.lb 5 rfl ?_
                  refine Z.lnil ?_
                  refine Z.only [1, 2, 3, 7, 9, 10, 11, 13, 17, 18] rfl ?_
                  refine Z.nthen ?_
                  refine Z.seq ?_
                  refine Z.seq ?_
                  refine Z.region ?_
                  refine Z.lb 1 rfl ?_
                  refine Z.le rfl trivial ?_
                  refine Z.ZO.call rfl rfl (by rfl) rfl rfl Try.call11 rfl (rp_num _ _) ?_
                  rintro v20_1 w20_1 ⟨rfl, hy⟩
                  replace hs := hs.call hy
                  clear hy
                  try simp only [List.cons_append, List.nil_append, List.append_nil] at hs
                  refine Z.lb 1 rfl ?_
                  refine Z.lnil ?_
                  refine Z.only [1, 2, 3, 7, 9, 10, 11, 13, 17, 124] rfl ?_
                  refine Z.nthen ?_
                  refine Z.cond rfl (fun hc20 => ?_) (fun hc20 => ?_)
                  · first
                      | (exfalso; simp at hc20 <;> omega)
                      | (
                        (try simp at hc20)
                        have eV : V = (m, [], 2) := by
                          rcases hVc with ⟨-, h⟩ | h
                          · rw [h] at hc20; simp at hc20
                          · exact h
                        subst eV
                        refine Z.exit ?_
                        refine Z.xthen ?_
                        refine Z.xblock ?_
                        refine Z.nthen ?_
                        refine Z.region ?_
                        refine Z.lb 1 rfl ?_
                        refine Z.l rfl rfl (by rfl) (Z.keepS hs) (Z.Yd.add rfl rfl (fun hG => Z.wi64 (by first | omega | (have hG' := Z.gh rfl hG; simp at hG'; omega)))) ?_
                        refine Z.lb 1 rfl ?_
                        refine Z.lnil ?_
                        refine Z.only [1, 2, 3, 7, 9, 10, 11] rfl ?_
                        refine Z.nthen ?_
                        first
                        | exact Z.again (m, k + 1) (by refine ⟨?_, ?_, ?_, ?_, ?_, ?_, ?_, trivial⟩ <;> (first | rfl | (refine Z.lookv rfl ?_; simp; done) | (refine Z.lookv rfl ?_; simp; omega))) ⟨⟨by simp only; omega, hm, hmb⟩, hs.sel [0, 2] (by decide)⟩ (by simp only; omega)
                        | exact Z.again (mg, k + 1) (by refine ⟨?_, ?_, ?_, ?_, ?_, ?_, ?_, trivial⟩ <;> first | rfl | (refine Z.lookv rfl ?_; congr 1; first | exact e1.1.symm | exact e1.2.1.symm | omega)) ⟨⟨by simp only; omega, hmg, e1.2.2⟩, hs.sel [0, 2] (by decide)⟩ (by simp only; omega)
                        | exact Z.again (m, k + 1) (by refine ⟨?_, ?_, ?_, ?_, ?_, ?_, ?_, trivial⟩ <;> (first | rfl | (refine Z.lookv rfl ?_; simp; done) | (refine Z.lookv rfl ?_; simp; omega))) ⟨⟨by simp only; omega, hm, hmb⟩, (SX.St.selT (L1 := [_, _, _, _]) hs [2, 1] (by decide)).sub (List.sublist_append_left _ _)⟩ (by simp only; omega)
                        | exact Z.again (elM m tt room, k + 1) (by refine ⟨?_, ?_, ?_, ?_, ?_, ?_, ?_, trivial⟩ <;> first | rfl | (refine Z.lookv rfl ?_; refine congrArg (Value.int .i64) ?_; first | exact hef.1.symm | exact hll | omega)) ⟨⟨by simp only; omega, hm.elM hoke.1, by simp only; rw [hef.2]; exact hmb⟩, (SX.St.selT (L1 := [_, _, _, _]) hs [2, 1] (by decide)).sub (List.sublist_append_left _ _)⟩ (by simp only; omega)
                        | fail "next"
                        )
                  · first
                      | (exfalso; simp at hc20 <;> omega)
                      | (
                        (try simp at hc20)
                        have hVo : okE m tt room ∧ V = (elM m tt room, elP m room, 0) := by
                          rcases hVc with h | h
                          · exact h
                          · rw [h] at hc20; simp at hc20
                        obtain ⟨hoke, eV⟩ := hVo
                        subst eV
                        dsimp only at hs hqs
                        have hql : qs.length ≤ 2 := by rw [← List.length_map (f := PtV.plain), hqs]; exact elP_len m room
                        refine Z.skip ?_
                        refine Z.nthen ?_
                        refine Z.seq ?_
                        refine Z.region ?_
                        refine Z.lb 2 rfl ?_
                        refine Z.lnil ?_
                        refine Z.only [1, 2, 3, 7, 9, 10, 11, 17] rfl ?_
                        refine Z.nthen ?_
                        refine Z.seq ?_
                        refine Z.region ?_
                        refine Z.lb 1 rfl ?_
                        refine Z.lnil ?_
                        refine Z.only [1, 2, 3, 7, 9, 10, 11, 17, 19] rfl ?_
                        refine Z.nthen ?_
                        refine Z.seq ?_
                        refine Z.seq ?_
                        refine Z.region ?_
                        refine Z.lb 1 rfl ?_
                        refine Z.lnil ?_
                        refine Z.only [1, 2, 3, 7, 9, 10, 11, 17, 19, 20] rfl ?_
                        refine Z.nthen ?_
                        refine Z.block ?_
                        refine Z.loopk (ι := Nat) [1, 2, 3, 7, 9, 11, 17] rfl (fun j => [(10, [], .int .i64 (lsV m.last tt ((elP m room).take j))), (19, [], .int .i64 (ndV ((elP m room).take j))), (20, [], .int .i64 (j : Int))]) (fun j wr => (j ≤ qs.length ∧ (0 ≤ ndV ((elP m room).take j) ∧ ndV ((elP m room).take j) ≤ 1000 * j)) ∧ SX.St w [] wr (SX.Ent.blk g12 43 #[.int .i64 y.w, .int .i64 y.t, .int .i64 y.a, .int .i64 y.b, .int .i64 y.c, .int .i64 y.d, .int .i64 y.n] :: SX.Ent.blk g3 28 #[.int .i64 a, .int .i64 b, .int .i64 c, .int .i64 d] :: SX.Ent.blk ga 66 (elM m tt room).cells.toArray :: SX.Ent.row (.slice Ba qs.length ca) 51 2 qs.length (qs.flatMap PtV.cells) :: qs.map PtV.row)) (fun j => qs.length - j) 0 (by refine ⟨?_, ?_, ?_, trivial⟩ <;> (first | rfl | (refine Z.lookv rfl ?_; simp; done) | (refine Z.lookv rfl ?_; simp; omega))) ⟨⟨by omega, by simp [ndV]⟩, hs⟩ ?_
                        clear hs
                        rintro j w24 ⟨⟨hj, hnd⟩, hs⟩
                        refine Z.only [1, 2, 3, 7, 9, 10, 11, 17, 19, 20] rfl ?_
                        refine Z.seq ?_
                        refine Z.seq ?_
                        refine Z.region ?_
                        refine Z.lb 2 rfl ?_
                        refine Z.l rfl rfl (by rfl) (Z.keepS hs) (Z.Yd.lenS rfl Try.underlying46) ?_
                        refine Z.lb 1 rfl ?_
                        refine Z.lnil ?_
                        refine Z.only [1, 2, 3, 7, 9, 10, 11, 17, 19, 20, 129] rfl ?_
                        refine Z.nthen ?_
                        refine Z.cond rfl (fun hc24 => ?_) (fun hc24 => ?_)
                        · first
                            | (exfalso; simp at hc24 <;> omega)
                            | (
                              (try simp at hc24)
                              obtain ⟨q, hqj⟩ : ∃ f, qs[j]? = some f := ⟨_, List.getElem?_eq_getElem (by omega)⟩
                              obtain ⟨hq1, hq0⟩ := pt_get hqj
                              have hpj : (elP m room)[j]? = some q.plain := by rw [← hqs]; simp [hqj]
                              have hl3 : q.l.length ≤ 3 := elP_l3 m room q.plain (List.mem_of_getElem? hpj)
                              have hnd1 : ndV ((elP m room).take (j + 1)) = ndV ((elP m room).take j) + (1 + (q.l.length : Int)) := by rw [← take_snoc hpj, ndV_snoc]; rfl
                              obtain ⟨gB, cB, eB, -, -⟩ := row_form (j := 3) hs rfl (by omega)
                              cases eB
                              refine Z.skip ?_
                              refine Z.nthen ?_
                              refine Z.seq ?_
                              refine Z.block ?_
                              refine Z.seq ?_
                              refine Z.region ?_
                              refine Z.lb 1 rfl ?_
                              refine Z.l rfl rfl (by rfl) (Z.keepS hs) (Z.Yd.add rfl rfl (fun hG => Z.wi64 (by first | omega | (have hG' := Z.gh rfl hG; simp at hG'; omega)))) ?_
                              refine Z.lb 2 rfl ?_
                              refine Z.l rfl rfl (by rfl) (Z.keepS hs) (Z.Yd.elem rfl rfl Try.underlying46 Try.sizeOf51 (fun hG => ⟨(by first | omega | (have hG' := Z.gh rfl hG; simp at hG'; omega)), (by first | omega | (have hG' := Z.gh rfl hG; simp at hG'; omega))⟩)) ?_
                              refine Z.l rfl rfl (by rfl) (Z.keepS hs) (Z.Yd.fieldA (m := 1) rfl (by kernel_rfl)) ?_
                              refine Z.l rfl rfl (by rfl) (Z.keepS hs) (Z.Yd.load rfl Try.isAgg49 (fun _ => Z.cellR (by first | ((repeat (first | exact List.mem_cons_self | refine List.mem_cons_of_mem _ ?_ | refine List.mem_append_right _ ?_)); done) | fail) hq1)) ?_
                              refine Z.l rfl rfl (by rfl) (Z.keepS hs) (Z.Yd.lenS rfl Try.underlying49) ?_
                              refine Z.l rfl rfl (by rfl) (Z.keepS hs) (Z.Yd.add rfl rfl (fun hG => Z.wi64 (by first | omega | (have hG' := Z.gh rfl hG; simp at hG'; omega)))) ?_
                              refine Z.lb 1 rfl ?_
                              refine Z.lnil ?_
                              refine Z.only [1, 2, 3, 7, 9, 10, 11, 17, 19, 20] rfl ?_
                              refine Z.nthen ?_
                              refine Z.seq ?_
                              refine Z.region ?_
                              refine Z.lb 2 rfl ?_
                              refine Z.l rfl rfl (by rfl) (Z.keepS hs) (Z.Yd.elem rfl rfl Try.underlying46 Try.sizeOf51 (fun hG => ⟨(by first | omega | (have hG' := Z.gh rfl hG; simp at hG'; omega)), (by first | omega | (have hG' := Z.gh rfl hG; simp at hG'; omega))⟩)) ?_
                              refine Z.l rfl rfl (by rfl) (Z.keepS hs) (Z.Yd.fieldA (m := 0) rfl (by kernel_rfl)) ?_
                              refine Z.l rfl rfl (by rfl) (Z.keepS hs) (Z.Yd.load rfl Try.isAgg3 (fun _ => Z.cellR (by first | ((repeat (first | exact List.mem_cons_self | refine List.mem_cons_of_mem _ ?_ | refine List.mem_append_right _ ?_)); done) | fail) hq0)) ?_
                              refine Z.lb 4 rfl ?_
                              refine Z.l rfl rfl (by rfl) (Z.keepS hs) (Z.Yd.elem rfl rfl Try.underlying46 Try.sizeOf51 (fun hG => ⟨(by first | omega | (have hG' := Z.gh rfl hG; simp at hG'; omega)), (by first | omega | (have hG' := Z.gh rfl hG; simp at hG'; omega))⟩)) ?_
                              refine Z.l rfl rfl (by rfl) (Z.keepS hs) (Z.Yd.fieldA (m := 0) rfl (by kernel_rfl)) ?_
                              refine Z.l rfl rfl (by rfl) (Z.keepS hs) (Z.Yd.load rfl Try.isAgg3 (fun _ => Z.cellR (by first | ((repeat (first | exact List.mem_cons_self | refine List.mem_cons_of_mem _ ?_ | refine List.mem_append_right _ ?_)); done) | fail) hq0)) ?_
                              refine Z.lb 2 rfl ?_
                              refine Z.lnil ?_
                              refine Z.only [1, 2, 3, 7, 9, 10, 11, 17, 19, 20, 154] rfl ?_
                              refine Z.nthen ?_
                              refine Z.cond rfl (fun hc27 => ?_) (fun hc27 => ?_)
                              · first
                                  | (exfalso; simp at hc27 <;> omega)
                                  | (
                                    (try simp at hc27)
                                    have hls : lsV m.last tt ((elP m room).take (j + 1)) = tt := by rw [← take_snoc hpj]; exact lsV_T (by assumption)
                                    refine Z.region ?_
                                    refine Z.lb 2 rfl ?_
                                    refine Z.lnil ?_
                                    refine Z.only [1, 2, 3, 7, 9, 10, 11, 17, 19, 20] rfl ?_
                                    refine Z.nblock ?_
                                    refine Z.nthen ?_
                                    refine Z.region ?_
                                    refine Z.lb 1 rfl ?_
                                    refine Z.l rfl rfl (by rfl) (Z.keepS hs) (Z.Yd.add rfl rfl (fun hG => Z.wi64 (by first | omega | (have hG' := Z.gh rfl hG; simp at hG'; omega)))) ?_
                                    refine Z.lb 1 rfl ?_
                                    refine Z.lnil ?_
                                    refine Z.only [1, 2, 3, 7, 9, 10, 11, 17, 19, 20] rfl ?_
                                    refine Z.nthen ?_
                                    exact Z.again (j + 1) (by refine ⟨?_, ?_, ?_, ?_, ?_, ?_, ?_, ?_, ?_, ?_, trivial⟩ <;> first | rfl | (refine Z.lookv rfl ?_; congr 1; first | exact hls.symm | omega)) ⟨⟨by omega, by omega⟩, hs⟩ (by omega)
                                    )
                              · first
                                  | (exfalso; simp at hc27 <;> omega)
                                  | (
                                    (try simp at hc27)
                                    have hls : lsV m.last tt ((elP m room).take (j + 1)) = lsV m.last tt ((elP m room).take j) := by rw [← take_snoc hpj]; exact lsV_F (by simp only [PtV.plain]; omega)
                                    refine Z.skip ?_
                                    refine Z.nblock ?_
                                    refine Z.nthen ?_
                                    refine Z.region ?_
                                    refine Z.lb 1 rfl ?_
                                    refine Z.l rfl rfl (by rfl) (Z.keepS hs) (Z.Yd.add rfl rfl (fun hG => Z.wi64 (by first | omega | (have hG' := Z.gh rfl hG; simp at hG'; omega)))) ?_
                                    refine Z.lb 1 rfl ?_
                                    refine Z.lnil ?_
                                    refine Z.only [1, 2, 3, 7, 9, 10, 11, 17, 19, 20] rfl ?_
                                    refine Z.nthen ?_
                                    exact Z.again (j + 1) (by refine ⟨?_, ?_, ?_, ?_, ?_, ?_, ?_, ?_, ?_, ?_, trivial⟩ <;> first | rfl | (refine Z.lookv rfl ?_; congr 1; first | exact hls.symm | omega)) ⟨⟨by omega, by omega⟩, hs⟩ (by omega)
                                    )
                              )
                        · first
                            | (exfalso; simp at hc24 <;> omega)
                            | (
                              (try simp at hc24)
                              refine Z.exit ?_
                              refine Z.xthen ?_
                              refine Z.xthen ?_
                              refine Z.xblock ?_
                              refine Z.nthen ?_
                              refine Z.seq ?_
                              refine Z.region ?_
                              obtain rfl : j = qs.length := by omega
                              have htk : (elP m room).take qs.length = elP m room := List.take_of_length_le (by rw [← hqs]; simp)
                              rw [htk] at hnd ⊢
                              have hfit := nd_fits m tt room hoke
                              have hef := elM_facts m tt room
                              have hll := ls_last m tt room
                              refine Z.l rfl rfl (by rfl) (Z.keepS hs) (Z.Yd.pure rfl) ?_
                              refine Z.lb 3 rfl ?_
                              refine Z.yes (s := 159) (b := false) rfl ((by simp; omega)) rfl ?_
                              refine Z.lb 3 rfl ?_
                              refine Z.yes (s := 159) (b := false) rfl rfl rfl ?_
                              refine Z.split (s := 162) rfl (fun hsp162 => ?_) (fun hsp162 => ?_)
                              · first
                                  | (exfalso; simp at hsp162 <;> omega)
                                  | (
                                    refine Z.yes (s := 162) (b := true) rfl hsp162 rfl ?_
                                    (try simp at hsp162)
                                    refine Z.lb 1 rfl ?_
                                    refine Z.yes (s := 162) (b := true) rfl rfl rfl ?_
                                    refine Z.le rfl (by exact ⟨rfl, trivial⟩) ?_
                                    refine Z.ZO.call rfl rfl (by rfl) rfl rfl Try.call17 rfl (wk_pend ga (elM m tt room) false false _ (hs.celOf (cs := (elM m tt room).cells) (by first | ((repeat (first | exact List.mem_cons_self | refine List.mem_cons_of_mem _ ?_ | refine List.mem_append_right _ ?_)); done) | fail)) (els_none m tt room (by omega))) ?_
                                    rintro v29_8 w29_8 ⟨rfl, hy⟩
                                    replace hs := hs.call hy
                                    clear hy
                                    try simp only [List.cons_append, List.nil_append, List.append_nil] at hs
                                    refine Z.lb 1 rfl ?_
                                    refine Z.yes (s := 162) (b := true) rfl rfl rfl ?_
                                    refine Z.l rfl rfl (by rfl) (Z.keepS hs) (Z.Yd.pickT rfl rfl) ?_
                                    refine Z.yes (s := 159) (b := false) rfl rfl rfl ?_
                                    refine Z.l rfl rfl (by rfl) (Z.keepS hs) (Z.Yd.pickF rfl rfl) ?_
                                    refine Z.lnil ?_
                                    refine Z.only [1, 2, 3, 7, 9, 10, 11, 167] rfl ?_
                                    refine Z.nthen ?_
                                    refine Z.cond rfl (fun h => absurd h (by simp)) (fun hc29 => ?_)
                                    refine Z.skip ?_
                                    refine Z.nblock ?_
                                    refine Z.nthen ?_
                                    refine Z.region ?_
                                    refine Z.lb 1 rfl ?_
                                    refine Z.l rfl rfl (by rfl) (Z.keepS hs) (Z.Yd.add rfl rfl (fun hG => Z.wi64 (by first | omega | (have hG' := Z.gh rfl hG; simp at hG'; omega)))) ?_
                                    refine Z.lb 1 rfl ?_
                                    refine Z.lnil ?_
                                    refine Z.only [1, 2, 3, 7, 9, 10, 11] rfl ?_
                                    refine Z.nthen ?_
                                    first
                                    | exact Z.again (m, k + 1) (by refine ⟨?_, ?_, ?_, ?_, ?_, ?_, ?_, trivial⟩ <;> (first | rfl | (refine Z.lookv rfl ?_; simp; done) | (refine Z.lookv rfl ?_; simp; omega))) ⟨⟨by simp only; omega, hm, hmb⟩, hs.sel [0, 2] (by decide)⟩ (by simp only; omega)
                                    | exact Z.again (mg, k + 1) (by refine ⟨?_, ?_, ?_, ?_, ?_, ?_, ?_, trivial⟩ <;> first | rfl | (refine Z.lookv rfl ?_; congr 1; first | exact e1.1.symm | exact e1.2.1.symm | omega)) ⟨⟨by simp only; omega, hmg, e1.2.2⟩, hs.sel [0, 2] (by decide)⟩ (by simp only; omega)
                                    | exact Z.again (m, k + 1) (by refine ⟨?_, ?_, ?_, ?_, ?_, ?_, ?_, trivial⟩ <;> (first | rfl | (refine Z.lookv rfl ?_; simp; done) | (refine Z.lookv rfl ?_; simp; omega))) ⟨⟨by simp only; omega, hm, hmb⟩, (SX.St.selT (L1 := [_, _, _, _]) hs [2, 1] (by decide)).sub (List.sublist_append_left _ _)⟩ (by simp only; omega)
                                    | exact Z.again (elM m tt room, k + 1) (by refine ⟨?_, ?_, ?_, ?_, ?_, ?_, ?_, trivial⟩ <;> first | rfl | (refine Z.lookv rfl ?_; refine congrArg (Value.int .i64) ?_; first | exact hef.1.symm | exact hll | omega)) ⟨⟨by simp only; omega, hm.elM hoke.1, by simp only; rw [hef.2]; exact hmb⟩, (SX.St.selT (L1 := [_, _, _, _]) hs [2, 1] (by decide)).sub (List.sublist_append_left _ _)⟩ (by simp only; omega)
                                    | fail "next"
                                    )
                              · first
                                  | (exfalso; simp at hsp162 <;> omega)
                                  | (
                                    refine Z.yes (s := 162) (b := false) rfl hsp162 rfl ?_
                                    (try simp at hsp162)
                                    refine Z.ls rfl rfl rfl (by rfl) ?_
                                    refine Z.ls rfl rfl rfl (by rfl) ?_
                                    refine Z.ls rfl rfl rfl (by rfl) ?_
                                    refine Z.l rfl rfl (by rfl) (Z.keepS hs) (Z.Yd.pickF rfl rfl) ?_
                                    refine Z.yes (s := 159) (b := false) rfl rfl rfl ?_
                                    refine Z.l rfl rfl (by rfl) (Z.keepS hs) (Z.Yd.pickF rfl rfl) ?_
                                    refine Z.lnil ?_
                                    refine Z.only [1, 2, 3, 7, 9, 10, 11, 167] rfl ?_
                                    refine Z.nthen ?_
                                    refine Z.cond rfl (fun h => absurd h (by simp)) (fun hc29 => ?_)
                                    refine Z.skip ?_
                                    refine Z.nblock ?_
                                    refine Z.nthen ?_
                                    refine Z.region ?_
                                    refine Z.lb 1 rfl ?_
                                    refine Z.l rfl rfl (by rfl) (Z.keepS hs) (Z.Yd.add rfl rfl (fun hG => Z.wi64 (by first | omega | (have hG' := Z.gh rfl hG; simp at hG'; omega)))) ?_
                                    refine Z.lb 1 rfl ?_
                                    refine Z.lnil ?_
                                    refine Z.only [1, 2, 3, 7, 9, 10, 11] rfl ?_
                                    refine Z.nthen ?_
                                    first
                                    | exact Z.again (m, k + 1) (by refine ⟨?_, ?_, ?_, ?_, ?_, ?_, ?_, trivial⟩ <;> (first | rfl | (refine Z.lookv rfl ?_; simp; done) | (refine Z.lookv rfl ?_; simp; omega))) ⟨⟨by simp only; omega, hm, hmb⟩, hs.sel [0, 2] (by decide)⟩ (by simp only; omega)
                                    | exact Z.again (mg, k + 1) (by refine ⟨?_, ?_, ?_, ?_, ?_, ?_, ?_, trivial⟩ <;> first | rfl | (refine Z.lookv rfl ?_; congr 1; first | exact e1.1.symm | exact e1.2.1.symm | omega)) ⟨⟨by simp only; omega, hmg, e1.2.2⟩, hs.sel [0, 2] (by decide)⟩ (by simp only; omega)
                                    | exact Z.again (m, k + 1) (by refine ⟨?_, ?_, ?_, ?_, ?_, ?_, ?_, trivial⟩ <;> (first | rfl | (refine Z.lookv rfl ?_; simp; done) | (refine Z.lookv rfl ?_; simp; omega))) ⟨⟨by simp only; omega, hm, hmb⟩, (SX.St.selT (L1 := [_, _, _, _]) hs [2, 1] (by decide)).sub (List.sublist_append_left _ _)⟩ (by simp only; omega)
                                    | exact Z.again (elM m tt room, k + 1) (by refine ⟨?_, ?_, ?_, ?_, ?_, ?_, ?_, trivial⟩ <;> first | rfl | (refine Z.lookv rfl ?_; refine congrArg (Value.int .i64) ?_; first | exact hef.1.symm | exact hll | omega)) ⟨⟨by simp only; omega, hm.elM hoke.1, by simp only; rw [hef.2]; exact hmb⟩, (SX.St.selT (L1 := [_, _, _, _]) hs [2, 1] (by decide)).sub (List.sublist_append_left _ _)⟩ (by simp only; omega)
                                    | fail "next"
                                    )
                              )
                        )
                  )
            )
      · first
          | (exfalso; simp at hc8 <;> omega)
          | (
            (try simp at hc8)
            refine Z.exit ?_
            refine Z.xthen ?_
            refine Z.xthen ?_
            refine Z.xblock ?_
            refine Z.nthen ?_
            refine Z.seq ?_
            refine Z.region ?_
            refine Z.le rfl trivial ?_
            refine Z.ZO.call rfl rfl (by rfl) rfl rfl Try.call13 rfl (works26 _) ?_
            rintro v31_0 w31_0 ⟨rfl, hy⟩
            replace hs := hs.call hy
            clear hy
            try simp only [List.cons_append, List.nil_append, List.append_nil] at hs
            refine Z.lb 1 rfl ?_
            refine Z.lnil ?_
            refine Z.only [6] rfl ?_
            refine Z.nthen ?_
            refine Z.ret ?_
            -- ret#0
            refine Z.out1 (by exact ⟨rfl, trivial⟩) ?_
            first | exact ⟨_, rfl, rfl, hs⟩ | exact ⟨_, rfl, rfl, hs.sub (List.nil_sublist _)⟩
            )
    · skip
      refine Z.enter Try.func4 rfl Try.ntmps4 rfl rfl ?_
      refine Z.seq ?_
      refine Z.region ?_
      refine Z.le rfl trivial ?_
      refine Z.ZO.box rfl rfl (by rfl) rfl rfl hs ?_
      clear hs; intro g3 w3 hs
      refine Z.lb 1 rfl ?_
      refine Z.lnil ?_
      refine Z.only [1, 2, 3] rfl ?_
      refine Z.nthen ?_
      refine Z.seq ?_
      refine Z.seq ?_
      refine Z.region ?_
      refine Z.lb 1 rfl ?_
      refine Z.l rfl rfl (by rfl) (Z.keepS hs) (Z.Yd.lenS rfl Try.underlying41) ?_
      refine Z.lb 1 rfl ?_
      refine Z.lnil ?_
      refine Z.only [1, 2, 3, 23] rfl ?_
      refine Z.nthen ?_
      refine Z.cond rfl (fun h => absurd h (by simp; omega)) (fun hc1 => ?_)
      refine Z.skip ?_
      refine Z.nthen ?_
      refine Z.seq ?_
      refine Z.region ?_
      refine Z.l rfl rfl (by rfl) (Z.keepS hs) (by first | exact Z.Yd.loadA _ rfl Try.isAgg28 (fun _ => Z.cellsB (by first | ((repeat (first | exact List.mem_cons_self | refine List.mem_cons_of_mem _ ?_ | refine List.mem_append_right _ ?_)); done) | fail)) (by exact Try.sizeOf28) | fail "load 3.0") ?_
      refine Z.le rfl trivial ?_
      refine Z.ZO.call rfl rfl (by rfl) rfl rfl Try.call8 rfl (wk_bad a b c d _ hc) ?_
      rintro v3_1 w3_1 ⟨rfl, hy⟩
      replace hs := hs.call hy
      clear hy
      try simp only [List.cons_append, List.nil_append, List.append_nil] at hs
      refine Z.lb 5 rfl ?_
      refine Z.lnil ?_
      refine Z.only [1, 2, 3, 7, 8] rfl ?_
      refine Z.nthen ?_
      refine Z.seq ?_
      refine Z.seq ?_
      refine Z.region ?_
      refine Z.lb 1 rfl ?_
      refine Z.le rfl trivial ?_
      refine Z.ZO.call rfl rfl (by rfl) rfl rfl Try.call11 rfl (rp_num _ _) ?_
      rintro v4_1 w4_1 ⟨rfl, hy⟩
      replace hs := hs.call hy
      clear hy
      try simp only [List.cons_append, List.nil_append, List.append_nil] at hs
      refine Z.lb 1 rfl ?_
      refine Z.lnil ?_
      refine Z.only [1, 2, 3, 7, 32] rfl ?_
      refine Z.nthen ?_
      refine Z.cond rfl (fun hc4 => ?_) (fun h => absurd h (by simp))
      refine Z.seq ?_
      refine Z.region ?_
      refine Z.lb 1 rfl ?_
      refine Z.l rfl rfl (by rfl) (Z.keepS hs) (Z.Yd.ptrNil rfl rfl Try.underlying23) ?_
      refine Z.lb 1 rfl ?_
      refine Z.yes (s := 35) (b := true) rfl ((by simp)) rfl ?_
      refine Z.le rfl (by exact ⟨rfl, trivial⟩) ?_
      refine Z.ZO.call rfl rfl (by rfl) rfl rfl Try.call13 rfl (works26 _) ?_
      rintro v5_3 w5_3 ⟨rfl, hy⟩
      replace hs := hs.call hy
      clear hy
      try simp only [List.cons_append, List.nil_append, List.append_nil] at hs
      refine Z.l rfl rfl (by rfl) (Z.keepS hs) (Z.Yd.pickT rfl rfl) ?_
      refine Z.lb 1 rfl ?_
      refine Z.lnil ?_
      refine Z.only [6] rfl ?_
      refine Z.nthen ?_
      refine Z.ret ?_
      repeat (first | refine Z.rthen ?_ | refine Z.rblock ?_ | refine Z.rscope ?_)
      -- ret#0
      refine Z.out1 (by exact ⟨rfl, trivial⟩) ?_
      first | exact ⟨_, rfl, rfl, hs⟩ | exact ⟨_, rfl, rfl, hs.sub (List.nil_sublist _)⟩
  · skip
    refine Z.enter Try.func4 rfl Try.ntmps4 rfl rfl ?_
    refine Z.seq ?_
    refine Z.region ?_
    refine Z.le rfl trivial ?_
    refine Z.ZO.box rfl rfl (by rfl) rfl rfl hs ?_
    clear hs; intro g3 w3 hs
    refine Z.lb 1 rfl ?_
    refine Z.lnil ?_
    refine Z.only [1, 2, 3] rfl ?_
    refine Z.nthen ?_
    refine Z.seq ?_
    refine Z.seq ?_
    refine Z.region ?_
    refine Z.lb 1 rfl ?_
    refine Z.l rfl rfl (by rfl) (Z.keepS hs) (Z.Yd.lenS rfl Try.underlying41) ?_
    refine Z.lb 1 rfl ?_
    refine Z.lnil ?_
    refine Z.only [1, 2, 3, 23] rfl ?_
    refine Z.nthen ?_
    refine Z.cond rfl (fun hc1 => ?_) (fun h => absurd h (by simp; omega))
    refine Z.seq ?_
    refine Z.region ?_
    refine Z.le rfl trivial ?_
    refine Z.ZO.call rfl rfl (by rfl) rfl rfl Try.call13 rfl (works26 _) ?_
    rintro v2_0 w2_0 ⟨rfl, hy⟩
    replace hs := hs.call hy
    clear hy
    try simp only [List.cons_append, List.nil_append, List.append_nil] at hs
    refine Z.lb 1 rfl ?_
    refine Z.lnil ?_
    refine Z.only [6] rfl ?_
    refine Z.nthen ?_
    refine Z.ret ?_
    repeat (first | refine Z.rthen ?_ | refine Z.rblock ?_ | refine Z.rscope ?_)
    -- ret#0
    refine Z.out1 (by exact ⟨rfl, trivial⟩) ?_
    first | exact ⟨_, rfl, rfl, hs⟩ | exact ⟨_, rfl, rfl, hs.sub (List.nil_sublist _)⟩
theorem reportHolds_rd (cs0 : Array Value) (a1 : Option Addr) (len1 cap1 : Nat) (a2 : Int) (w : World) (z0 : Rw Try.prog w 28 (Value.agg cs0).cells.toList) (z1 : Rw Try.prog w 41 (Value.slice a1 len1 cap1).cells.toList) (z2 : Rw Try.prog w 3 (Value.int .i64 a2).cells.toList) :
    Calls Try.prog 4 #[.agg cs0, .slice a1 len1 cap1, .int .i64 a2] w fun e w' => e = .returned (.bool true) ∧ Below w.heap.size w w' := by
  obtain ⟨a, b, c, d, hr⟩ := rw_rcfg z0.rd
  rw [agg_eq hr]
  obtain ⟨l, h1, h2, h3, h4⟩ := rw_acts26 (show Rw Try.prog w 41 [.slice a1 len1 cap1] by simpa [Value.cells] using z1)
  obtain ⟨n, hn, wn⟩ := Rw.int Try.underlying3 z2
  obtain rfl : a2 = n := by simpa [Value.cells] using hn
  refine (reportHolds_walk a b c d a2 a1 len1 cap1 l w h4 h1 h2 h3 (wf_i64 wn)).mono ?_
  rintro e w' ⟨v, rfl, rfl, h⟩
  exact ⟨rfl, h.below⟩
end Go.Proofs.Ytjejdlolgmhljaa

/- What every row needs. -/
namespace Go.Proofs.Ytjejdlolgmhljaa
open Go.ChangeShapes Go.WideShapes Go.ChangeAt Go.RowKit
theorem pown : ownKnob Try.prog.godebug = none := by kernel_rfl
theorem plaidOut : laidOutB Try.prog = true := by kernel_rfl
end Go.Proofs.Ytjejdlolgmhljaa
