/- Part 6 of the proofs that lead to the statement. -/
import Derived.Test.YtcieclifabbkjaaY5
import Derived.Test.YtcieclifabbkjaaRows
import Derived.WalkKit
import Derived.ProofKit
import Derived.OpenShut
import Derived.ShutString
import Derived.ChangeOld
import Derived.Below
/- Status reports compared; the examples. -/
namespace Go.Proofs.Ytcieclifabbkjaa
open Go.RowKit
set_option linter.unusedSimpArgs false
set_option linter.unusedVariables false
--newlaws

theorem nk_ext {x y : NkV} (h1 : x.sn = y.sn) (h2 : x.part = y.part) (h3 : x.lo = y.lo) (h4 : x.hi = y.hi) : x = y := by cases x; cases y; simp_all
theorem take_ne {α : Type} {l k : List α} {i : Nat} {x y : α} (hx : l[i]? = some x) (hy : k[i]? = some y) (h : x ≠ y) : l ≠ k := fun e => by
  subst e
  rw [hx] at hy
  exact h (Option.some.inj hy)
set_option maxRecDepth 100000 in
theorem rsame34 (a1 a2 : Int) (A B : Option Addr) (n c m d : Nat) (l k : List NkV) (w : World) (hx : Sl w A (l.flatMap NkV.cells)) (hy : Sl w B (k.flatMap NkV.cells)) (hl : l.length = n) (hk : k.length = m) (hn : n ≤ 9223372036854775807) :
    Calls Try.prog 19 #[.agg #[.int .i64 a1, .slice A n c], .agg #[.int .i64 a2, .slice B m d]] w (SX.Ret fun v w' => v = .bool (decide (a1 = a2 ∧ l = k)) ∧ SX.St w [] w' []) := by
  have hs := SX.St.start w
  refine Z.enter Try.func19 rfl Try.ntmps19 rfl rfl ?_
  refine Z.seq ?_
  refine Z.region ?_
  refine Z.le rfl trivial ?_
  refine Z.ZO.box rfl rfl (by rfl) rfl rfl hs ?_
  clear hs; intro g2 w2 hs
  refine Z.le rfl trivial ?_
  refine Z.ZO.box rfl rfl (by rfl) rfl rfl hs ?_
  clear hs; intro g3 w3 hs
  refine Z.lb 1 rfl ?_
  refine Z.lnil ?_
  refine Z.only [2, 3] rfl ?_
  refine Z.nthen ?_
  refine Z.seq ?_
  refine Z.seq ?_
  refine Z.region ?_
  refine Z.l rfl rfl (by rfl) (Z.keepS hs) (Z.Yd.fieldA (m := 0) rfl (by kernel_rfl)) ?_
  refine Z.l rfl rfl (by rfl) (Z.keepS hs) (by first | exact Z.Yd.load rfl Try.isAgg3 (fun _ => Z.cellB (by first | ((repeat (first | exact List.mem_cons_self | refine List.mem_cons_of_mem _ ?_ | refine List.mem_append_right _ ?_)); done) | fail) rfl) | exact Z.Yd.load rfl Try.isAgg3 (fun _ => Z.cellO (by assumption) (by simp) (by assumption)) | fail "load 1.1") ?_
  refine Z.l rfl rfl (by rfl) (Z.keepS hs) (Z.Yd.fieldA (m := 0) rfl (by kernel_rfl)) ?_
  refine Z.l rfl rfl (by rfl) (Z.keepS hs) (by first | exact Z.Yd.load rfl Try.isAgg3 (fun _ => Z.cellB (by first | ((repeat (first | exact List.mem_cons_self | refine List.mem_cons_of_mem _ ?_ | refine List.mem_append_right _ ?_)); done) | fail) rfl) | exact Z.Yd.load rfl Try.isAgg3 (fun _ => Z.cellO (by assumption) (by simp) (by assumption)) | fail "load 1.3") ?_
  refine Z.lb 2 rfl ?_
  refine Z.split (s := 11) rfl (fun hsp11 => ?_) (fun hsp11 => ?_)
  · first
      | (exfalso; simp at hsp11 <;> omega)
      | (
        refine Z.yes (s := 11) (b := true) rfl hsp11 rfl ?_
        (try simp at hsp11)
        refine Z.ls rfl rfl rfl (by rfl) ?_
        refine Z.ls rfl rfl rfl (by rfl) ?_
        refine Z.ls rfl rfl rfl (by rfl) ?_
        refine Z.ls rfl rfl rfl (by rfl) ?_
        refine Z.ls rfl rfl rfl (by rfl) ?_
        refine Z.ls rfl rfl rfl (by rfl) ?_
        refine Z.ls rfl rfl rfl (by rfl) ?_
        refine Z.l rfl rfl (by rfl) (Z.keepS hs) (Z.Yd.pickT rfl rfl) ?_
        refine Z.lnil ?_
        refine Z.only [2, 3, 19] rfl ?_
        refine Z.nthen ?_
        refine Z.cond rfl (fun hc1 => ?_) (fun hc1 => ?_)
        · first
            | (exfalso; simp at hc1 <;> omega)
            | (
              (try simp at hc1)
              refine Z.seq ?_
              refine Z.region ?_
              refine Z.lb 1 rfl ?_
              refine Z.lnil ?_
              refine Z.only [4] rfl ?_
              refine Z.nthen ?_
              refine Z.ret ?_
              repeat (first | refine Z.rthen ?_ | refine Z.rblock ?_ | refine Z.rscope ?_)
              -- ret#0
              refine Z.out1 (by exact ⟨rfl, trivial⟩) ?_
              refine ⟨_, rfl, ?_, hs.sub (List.nil_sublist _)⟩
              first
              | exact congrArg Value.bool (decide_eq_false (fun h => take_ne hxi hyi (fun e => by subst e; simp_all) h.2)).symm
              | exact congrArg Value.bool (decide_eq_true ⟨ha, ht⟩).symm
              | exact congrArg Value.bool (decide_eq_false (fun h => by have hlk := congrArg List.length h.2; simp_all)).symm
              )
        · first
            | (exfalso; simp at hc1 <;> omega)
            | (
              (try simp at hc1)
              refine Z.skip ?_
              refine Z.nthen ?_
              refine Z.seq ?_
              refine Z.seq ?_
              refine Z.region ?_
              refine Z.lb 1 rfl ?_
              refine Z.lnil ?_
              refine Z.only [2, 3, 5] rfl ?_
              refine Z.nthen ?_
              refine Z.block ?_
              refine Z.loopk (ι := Nat) [2, 3] rfl (fun i => [(5, [], .int .i64 (i : Int))]) (fun i wr => (i ≤ n ∧ n = m ∧ a1 = a2 ∧ l.take i = k.take i) ∧ SX.St w [] wr [SX.Ent.blk g3 24 #[.int .i64 a2, .slice B m d], SX.Ent.blk g2 24 #[.int .i64 a1, .slice A n c]]) (fun i => n - i) 0 (by refine ⟨?_, trivial⟩ <;> (first | rfl | (refine Z.lookv rfl ?_; simp; done) | (refine Z.lookv rfl ?_; simp; omega))) ⟨⟨by omega, by first | omega | simp_all, by first | omega | simp_all, rfl⟩, hs⟩ ?_
              clear hs
              rintro i w4 ⟨⟨hi, hnm, ha, ht⟩, hs⟩
              refine Z.only [2, 3, 5] rfl ?_
              refine Z.seq ?_
              refine Z.seq ?_
              refine Z.region ?_
              refine Z.lb 1 rfl ?_
              refine Z.l rfl rfl (by rfl) (Z.keepS hs) (Z.Yd.fieldA (m := 1) rfl (by kernel_rfl)) ?_
              refine Z.l rfl rfl (by rfl) (Z.keepS hs) (by first | exact Z.Yd.load rfl Try.isAgg22 (fun _ => Z.cellB (by first | ((repeat (first | exact List.mem_cons_self | refine List.mem_cons_of_mem _ ?_ | refine List.mem_append_right _ ?_)); done) | fail) rfl) | exact Z.Yd.load rfl Try.isAgg22 (fun _ => Z.cellO (by assumption) (by simp) (by assumption)) | fail "load 4.2") ?_
              refine Z.l rfl rfl (by rfl) (Z.keepS hs) (Z.Yd.lenS rfl Try.underlying22) ?_
              refine Z.lb 1 rfl ?_
              refine Z.lnil ?_
              refine Z.only [2, 3, 5, 24] rfl ?_
              refine Z.nthen ?_
              refine Z.cond rfl (fun hc4 => ?_) (fun hc4 => ?_)
              · first
                  | (exfalso; simp at hc4 <;> omega)
                  | (
                    (try simp at hc4)
                    have hfl := nk_flat l
                    have hfk := nk_flat k
                    obtain ⟨b, off, rfl, hx2⟩ := hx.sx.some (by omega)
                    obtain ⟨b', off', rfl, hy2⟩ := hy.sx.some (by omega)
                    obtain ⟨x, hxi⟩ : ∃ f, l[i]? = some f := ⟨_, List.getElem?_eq_getElem (by omega)⟩
                    obtain ⟨y, hyi⟩ : ∃ f, k[i]? = some f := ⟨_, List.getElem?_eq_getElem (by omega)⟩
                    refine Z.skip ?_
                    refine Z.nthen ?_
                    refine Z.seq ?_
                    refine Z.block ?_
                    refine Z.seq ?_
                    refine Z.drawK (fun _ => true) mixed hs ?_
                    clear hs; intro wd6 hs
                    refine Z.t 0 rfl rfl rfl (by rfl) (by kernel_rfl) ⟨_, hs, by first | (simp; done) | exact fun e he => List.mem_append_right _ he⟩ (Z.Yd.fieldA (m := 1) rfl (by kernel_rfl)) ?_
                    refine Z.t 1 rfl rfl rfl (by rfl) (by kernel_rfl) ⟨_, hs, by first | (simp; done) | exact fun e he => List.mem_append_right _ he⟩ (by first | exact Z.Yd.load rfl Try.isAgg22 (fun _ => Z.cellB (by first | ((repeat (first | exact List.mem_cons_self | refine List.mem_cons_of_mem _ ?_ | refine List.mem_append_right _ ?_)); done) | fail) rfl) | exact Z.Yd.load rfl Try.isAgg22 (fun _ => Z.cellO (by assumption) (by simp) (by assumption)) | fail "load 6.1") ?_
                    refine Z.tb [2] (by kernel_rfl) rfl ⟨_, hs, by first | (simp; done) | exact fun e he => List.mem_append_right _ he⟩ rfl ?_
                    refine Z.t 3 rfl rfl rfl (by rfl) (by kernel_rfl) ⟨_, hs, by first | (simp; done) | exact fun e he => List.mem_append_right _ he⟩ (Z.Yd.elem rfl rfl Try.underlying22 Try.sizeOf45 (fun hG => ⟨(by first | omega | (have hG' := Z.gh rfl hG; simp at hG'; omega)), (by first | omega | (have hG' := Z.gh rfl hG; simp at hG'; omega))⟩)) ?_
                    refine Z.t 4 rfl rfl rfl (by rfl) (by kernel_rfl) ⟨_, hs, by first | (simp; done) | exact fun e he => List.mem_append_right _ he⟩ (Z.Yd.loadA _ rfl Try.isAgg45 (fun _ => Z.cellsX x.cells hx2 nk_len hxi rfl) (by exact Try.sizeOf45)) ?_
                    refine Z.t 5 rfl rfl rfl (by rfl) (by kernel_rfl) ⟨_, hs, by first | (simp; done) | exact fun e he => List.mem_append_right _ he⟩ (Z.Yd.fieldA (m := 1) rfl (by kernel_rfl)) ?_
                    refine Z.t 6 rfl rfl rfl (by rfl) (by kernel_rfl) ⟨_, hs, by first | (simp; done) | exact fun e he => List.mem_append_right _ he⟩ (by first | exact Z.Yd.load rfl Try.isAgg22 (fun _ => Z.cellB (by first | ((repeat (first | exact List.mem_cons_self | refine List.mem_cons_of_mem _ ?_ | refine List.mem_append_right _ ?_)); done) | fail) rfl) | exact Z.Yd.load rfl Try.isAgg22 (fun _ => Z.cellO (by assumption) (by simp) (by assumption)) | fail "load 6.6") ?_
                    refine Z.tb [7] (by kernel_rfl) rfl ⟨_, hs, by first | (simp; done) | exact fun e he => List.mem_append_right _ he⟩ rfl ?_
                    refine Z.t 8 rfl rfl rfl (by rfl) (by kernel_rfl) ⟨_, hs, by first | (simp; done) | exact fun e he => List.mem_append_right _ he⟩ (Z.Yd.elem rfl rfl Try.underlying22 Try.sizeOf45 (fun hG => ⟨(by first | omega | (have hG' := Z.gh rfl hG; simp at hG'; omega)), (by first | omega | (have hG' := Z.gh rfl hG; simp at hG'; omega))⟩)) ?_
                    refine Z.t 9 rfl rfl rfl (by rfl) (by kernel_rfl) ⟨_, hs, by first | (simp; done) | exact fun e he => List.mem_append_right _ he⟩ (Z.Yd.loadA _ rfl Try.isAgg45 (fun _ => Z.cellsX y.cells hy2 nk_len hyi rfl) (by exact Try.sizeOf45)) ?_
                    refine Z.t 10 rfl rfl rfl (by rfl) (by kernel_rfl) ⟨_, hs, by first | (simp; done) | exact fun e he => List.mem_append_right _ he⟩ (Z.Yd.neA (.st (.fc 0 1 (.i) (.fc 1 1 (.b) (.fc 2 1 (.i) (.fc 3 1 (.i) (.fn)))))) rfl rfl rfl rfl (by kernel_rfl) (by kernel_rfl) rfl) ?_
                    refine Z.td (by rfl) (by kernel_rfl) ?_
                    refine Z.only [2, 3, 5, 37] rfl ?_
                    refine Z.nthen ?_
                    refine Z.cond rfl (fun hc6 => ?_) (fun hc6 => ?_)
                    · first
                        | (exfalso; simp at hc6 <;> omega)
                        | (
                          (try simp at hc6)
                          refine Z.seq ?_
                          refine Z.region ?_
                          refine Z.lb 1 rfl ?_
                          refine Z.lnil ?_
                          refine Z.only [4] rfl ?_
                          refine Z.nthen ?_
                          refine Z.ret ?_
                          repeat (first | refine Z.rthen ?_ | refine Z.rblock ?_ | refine Z.rscope ?_)
                          -- ret#1
                          refine Z.out1 (by exact ⟨rfl, trivial⟩) ?_
                          refine ⟨_, rfl, ?_, hs.sub (List.nil_sublist _)⟩
                          first
                          | exact congrArg Value.bool (decide_eq_false (fun h => take_ne hxi hyi (fun e => by subst e; simp_all) h.2)).symm
                          | exact congrArg Value.bool (decide_eq_true ⟨ha, ht⟩).symm
                          | exact congrArg Value.bool (decide_eq_false (fun h => by have hlk := congrArg List.length h.2; simp_all)).symm
                          )
                    · first
                        | (exfalso; simp at hc6 <;> omega)
                        | (
                          (try simp at hc6)
                          refine Z.skip ?_
                          refine Z.nblock ?_
                          refine Z.nthen ?_
                          refine Z.region ?_
                          refine Z.lb 1 rfl ?_
                          refine Z.l rfl rfl (by rfl) (Z.keepS hs) (Z.Yd.add rfl rfl (fun hG => Z.wi64 (by first | omega | (have hG' := Z.gh rfl hG; simp at hG'; omega)))) ?_
                          refine Z.lb 1 rfl ?_
                          refine Z.lnil ?_
                          refine Z.only [2, 3, 5] rfl ?_
                          refine Z.nthen ?_
                          have hxy : x = y := by apply nk_ext <;> simp_all
                          subst hxy
                          exact Z.again (i + 1) (by refine ⟨?_, ?_, ?_, trivial⟩ <;> (first | rfl | (refine Z.lookv rfl ?_; simp; done) | (refine Z.lookv rfl ?_; simp; omega))) ⟨⟨by omega, hnm, ha, by rw [← take_snoc hxi, ← take_snoc hyi, ht]⟩, hs⟩ (by omega)
                          )
                    )
              · first
                  | (exfalso; simp at hc4 <;> omega)
                  | (
                    (try simp at hc4)
                    refine Z.exit ?_
                    refine Z.xthen ?_
                    refine Z.xthen ?_
                    refine Z.xblock ?_
                    refine Z.nthen ?_
                    refine Z.seq ?_
                    refine Z.region ?_
                    obtain rfl : i = n := by omega
                    rw [List.take_of_length_le (by omega), List.take_of_length_le (by omega)] at ht
                    refine Z.l rfl rfl (by rfl) (Z.keepS hs) (Z.Yd.pure rfl) ?_
                    refine Z.lnil ?_
                    refine Z.only [4] rfl ?_
                    refine Z.nthen ?_
                    refine Z.ret ?_
                    -- ret#2
                    refine Z.out1 (by exact ⟨rfl, trivial⟩) ?_
                    refine ⟨_, rfl, ?_, hs.sub (List.nil_sublist _)⟩
                    first
                    | exact congrArg Value.bool (decide_eq_false (fun h => take_ne hxi hyi (fun e => by subst e; simp_all) h.2)).symm
                    | exact congrArg Value.bool (decide_eq_true ⟨ha, ht⟩).symm
                    | exact congrArg Value.bool (decide_eq_false (fun h => by have hlk := congrArg List.length h.2; simp_all)).symm
                    )
              )
        )
  · first
      | (exfalso; simp at hsp11 <;> omega)
      | (
        refine Z.yes (s := 11) (b := false) rfl hsp11 rfl ?_
        (try simp at hsp11)
        refine Z.l rfl rfl (by rfl) (Z.keepS hs) (Z.Yd.fieldA (m := 1) rfl (by kernel_rfl)) ?_
        refine Z.l rfl rfl (by rfl) (Z.keepS hs) (by first | exact Z.Yd.load rfl Try.isAgg22 (fun _ => Z.cellB (by first | ((repeat (first | exact List.mem_cons_self | refine List.mem_cons_of_mem _ ?_ | refine List.mem_append_right _ ?_)); done) | fail) rfl) | exact Z.Yd.load rfl Try.isAgg22 (fun _ => Z.cellO (by assumption) (by simp) (by assumption)) | fail "load 1.7") ?_
        refine Z.l rfl rfl (by rfl) (Z.keepS hs) (Z.Yd.lenS rfl Try.underlying22) ?_
        refine Z.l rfl rfl (by rfl) (Z.keepS hs) (Z.Yd.fieldA (m := 1) rfl (by kernel_rfl)) ?_
        refine Z.l rfl rfl (by rfl) (Z.keepS hs) (by first | exact Z.Yd.load rfl Try.isAgg22 (fun _ => Z.cellB (by first | ((repeat (first | exact List.mem_cons_self | refine List.mem_cons_of_mem _ ?_ | refine List.mem_append_right _ ?_)); done) | fail) rfl) | exact Z.Yd.load rfl Try.isAgg22 (fun _ => Z.cellO (by assumption) (by simp) (by assumption)) | fail "load 1.10") ?_
        refine Z.l rfl rfl (by rfl) (Z.keepS hs) (Z.Yd.lenS rfl Try.underlying22) ?_
        refine Z.lb 1 rfl ?_
        refine Z.yes (s := 11) (b := false) rfl rfl rfl ?_
        refine Z.l rfl rfl (by rfl) (Z.keepS hs) (Z.Yd.pickF rfl rfl) ?_
        refine Z.lnil ?_
        refine Z.only [2, 3, 19] rfl ?_
        refine Z.nthen ?_
        refine Z.cond rfl (fun hc1 => ?_) (fun hc1 => ?_)
        · first
            | (exfalso; simp at hc1 <;> omega)
            | (
              (try simp at hc1)
              refine Z.seq ?_
              refine Z.region ?_
              refine Z.lb 1 rfl ?_
              refine Z.lnil ?_
              refine Z.only [4] rfl ?_
              refine Z.nthen ?_
              refine Z.ret ?_
              repeat (first | refine Z.rthen ?_ | refine Z.rblock ?_ | refine Z.rscope ?_)
              -- ret#3
              refine Z.out1 (by exact ⟨rfl, trivial⟩) ?_
              refine ⟨_, rfl, ?_, hs.sub (List.nil_sublist _)⟩
              first
              | exact congrArg Value.bool (decide_eq_false (fun h => take_ne hxi hyi (fun e => by subst e; simp_all) h.2)).symm
              | exact congrArg Value.bool (decide_eq_true ⟨ha, ht⟩).symm
              | exact congrArg Value.bool (decide_eq_false (fun h => by have hlk := congrArg List.length h.2; simp_all)).symm
              )
        · first
            | (exfalso; simp at hc1 <;> omega)
            | (
              (try simp at hc1)
              refine Z.skip ?_
              refine Z.nthen ?_
              refine Z.seq ?_
              refine Z.seq ?_
              refine Z.region ?_
              refine Z.lb 1 rfl ?_
              refine Z.lnil ?_
              refine Z.only [2, 3, 5] rfl ?_
              refine Z.nthen ?_
              refine Z.block ?_
              refine Z.loopk (ι := Nat) [2, 3] rfl (fun i => [(5, [], .int .i64 (i : Int))]) (fun i wr => (i ≤ n ∧ n = m ∧ a1 = a2 ∧ l.take i = k.take i) ∧ SX.St w [] wr [SX.Ent.blk g3 24 #[.int .i64 a2, .slice B m d], SX.Ent.blk g2 24 #[.int .i64 a1, .slice A n c]]) (fun i => n - i) 0 (by refine ⟨?_, trivial⟩ <;> (first | rfl | (refine Z.lookv rfl ?_; simp; done) | (refine Z.lookv rfl ?_; simp; omega))) ⟨⟨by omega, by first | omega | simp_all, by first | omega | simp_all, rfl⟩, hs⟩ ?_
              clear hs
              rintro i w4 ⟨⟨hi, hnm, ha, ht⟩, hs⟩
              refine Z.only [2, 3, 5] rfl ?_
              refine Z.seq ?_
              refine Z.seq ?_
              refine Z.region ?_
              refine Z.lb 1 rfl ?_
              refine Z.l rfl rfl (by rfl) (Z.keepS hs) (Z.Yd.fieldA (m := 1) rfl (by kernel_rfl)) ?_
              refine Z.l rfl rfl (by rfl) (Z.keepS hs) (by first | exact Z.Yd.load rfl Try.isAgg22 (fun _ => Z.cellB (by first | ((repeat (first | exact List.mem_cons_self | refine List.mem_cons_of_mem _ ?_ | refine List.mem_append_right _ ?_)); done) | fail) rfl) | exact Z.Yd.load rfl Try.isAgg22 (fun _ => Z.cellO (by assumption) (by simp) (by assumption)) | fail "load 4.2") ?_
              refine Z.l rfl rfl (by rfl) (Z.keepS hs) (Z.Yd.lenS rfl Try.underlying22) ?_
              refine Z.lb 1 rfl ?_
              refine Z.lnil ?_
              refine Z.only [2, 3, 5, 24] rfl ?_
              refine Z.nthen ?_
              refine Z.cond rfl (fun hc4 => ?_) (fun hc4 => ?_)
              · first
                  | (exfalso; simp at hc4 <;> omega)
                  | (
                    (try simp at hc4)
                    have hfl := nk_flat l
                    have hfk := nk_flat k
                    obtain ⟨b, off, rfl, hx2⟩ := hx.sx.some (by omega)
                    obtain ⟨b', off', rfl, hy2⟩ := hy.sx.some (by omega)
                    obtain ⟨x, hxi⟩ : ∃ f, l[i]? = some f := ⟨_, List.getElem?_eq_getElem (by omega)⟩
                    obtain ⟨y, hyi⟩ : ∃ f, k[i]? = some f := ⟨_, List.getElem?_eq_getElem (by omega)⟩
                    refine Z.skip ?_
                    refine Z.nthen ?_
                    refine Z.seq ?_
                    refine Z.block ?_
                    refine Z.seq ?_
                    refine Z.drawK (fun _ => true) mixed hs ?_
                    clear hs; intro wd6 hs
                    refine Z.t 0 rfl rfl rfl (by rfl) (by kernel_rfl) ⟨_, hs, by first | (simp; done) | exact fun e he => List.mem_append_right _ he⟩ (Z.Yd.fieldA (m := 1) rfl (by kernel_rfl)) ?_
                    refine Z.t 1 rfl rfl rfl (by rfl) (by kernel_rfl) ⟨_, hs, by first | (simp; done) | exact fun e he => List.mem_append_right _ he⟩ (by first | exact Z.Yd.load rfl Try.isAgg22 (fun _ => Z.cellB (by first | ((repeat (first | exact List.mem_cons_self | refine List.mem_cons_of_mem _ ?_ | refine List.mem_append_right _ ?_)); done) | fail) rfl) | exact Z.Yd.load rfl Try.isAgg22 (fun _ => Z.cellO (by assumption) (by simp) (by assumption)) | fail "load 6.1") ?_
                    refine Z.tb [2] (by kernel_rfl) rfl ⟨_, hs, by first | (simp; done) | exact fun e he => List.mem_append_right _ he⟩ rfl ?_
                    refine Z.t 3 rfl rfl rfl (by rfl) (by kernel_rfl) ⟨_, hs, by first | (simp; done) | exact fun e he => List.mem_append_right _ he⟩ (Z.Yd.elem rfl rfl Try.underlying22 Try.sizeOf45 (fun hG => ⟨(by first | omega | (have hG' := Z.gh rfl hG; simp at hG'; omega)), (by first | omega | (have hG' := Z.gh rfl hG; simp at hG'; omega))⟩)) ?_
                    refine Z.t 4 rfl rfl rfl (by rfl) (by kernel_rfl) ⟨_, hs, by first | (simp; done) | exact fun e he => List.mem_append_right _ he⟩ (Z.Yd.loadA _ rfl Try.isAgg45 (fun _ => Z.cellsX x.cells hx2 nk_len hxi rfl) (by exact Try.sizeOf45)) ?_
                    refine Z.t 5 rfl rfl rfl (by rfl) (by kernel_rfl) ⟨_, hs, by first | (simp; done) | exact fun e he => List.mem_append_right _ he⟩ (Z.Yd.fieldA (m := 1) rfl (by kernel_rfl)) ?_
                    refine Z.t 6 rfl rfl rfl (by rfl) (by kernel_rfl) ⟨_, hs, by first | (simp; done) | exact fun e he => List.mem_append_right _ he⟩ (by first | exact Z.Yd.load rfl Try.isAgg22 (fun _ => Z.cellB (by first | ((repeat (first | exact List.mem_cons_self | refine List.mem_cons_of_mem _ ?_ | refine List.mem_append_right _ ?_)); done) | fail) rfl) | exact Z.Yd.load rfl Try.isAgg22 (fun _ => Z.cellO (by assumption) (by simp) (by assumption)) | fail "load 6.6") ?_
                    refine Z.tb [7] (by kernel_rfl) rfl ⟨_, hs, by first | (simp; done) | exact fun e he => List.mem_append_right _ he⟩ rfl ?_
                    refine Z.t 8 rfl rfl rfl (by rfl) (by kernel_rfl) ⟨_, hs, by first | (simp; done) | exact fun e he => List.mem_append_right _ he⟩ (Z.Yd.elem rfl rfl Try.underlying22 Try.sizeOf45 (fun hG => ⟨(by first | omega | (have hG' := Z.gh rfl hG; simp at hG'; omega)), (by first | omega | (have hG' := Z.gh rfl hG; simp at hG'; omega))⟩)) ?_
                    refine Z.t 9 rfl rfl rfl (by rfl) (by kernel_rfl) ⟨_, hs, by first | (simp; done) | exact fun e he => List.mem_append_right _ he⟩ (Z.Yd.loadA _ rfl Try.isAgg45 (fun _ => Z.cellsX y.cells hy2 nk_len hyi rfl) (by exact Try.sizeOf45)) ?_
                    refine Z.t 10 rfl rfl rfl (by rfl) (by kernel_rfl) ⟨_, hs, by first | (simp; done) | exact fun e he => List.mem_append_right _ he⟩ (Z.Yd.neA (.st (.fc 0 1 (.i) (.fc 1 1 (.b) (.fc 2 1 (.i) (.fc 3 1 (.i) (.fn)))))) rfl rfl rfl rfl (by kernel_rfl) (by kernel_rfl) rfl) ?_
                    refine Z.td (by rfl) (by kernel_rfl) ?_
                    refine Z.only [2, 3, 5, 37] rfl ?_
                    refine Z.nthen ?_
                    refine Z.cond rfl (fun hc6 => ?_) (fun hc6 => ?_)
                    · first
                        | (exfalso; simp at hc6 <;> omega)
                        | (
                          (try simp at hc6)
                          refine Z.seq ?_
                          refine Z.region ?_
                          refine Z.lb 1 rfl ?_
                          refine Z.lnil ?_
                          refine Z.only [4] rfl ?_
                          refine Z.nthen ?_
                          refine Z.ret ?_
                          repeat (first | refine Z.rthen ?_ | refine Z.rblock ?_ | refine Z.rscope ?_)
                          -- ret#4
                          refine Z.out1 (by exact ⟨rfl, trivial⟩) ?_
                          refine ⟨_, rfl, ?_, hs.sub (List.nil_sublist _)⟩
                          first
                          | exact congrArg Value.bool (decide_eq_false (fun h => take_ne hxi hyi (fun e => by subst e; simp_all) h.2)).symm
                          | exact congrArg Value.bool (decide_eq_true ⟨ha, ht⟩).symm
                          | exact congrArg Value.bool (decide_eq_false (fun h => by have hlk := congrArg List.length h.2; simp_all)).symm
                          )
                    · first
                        | (exfalso; simp at hc6 <;> omega)
                        | (
                          (try simp at hc6)
                          refine Z.skip ?_
                          refine Z.nblock ?_
                          refine Z.nthen ?_
                          refine Z.region ?_
                          refine Z.lb 1 rfl ?_
                          refine Z.l rfl rfl (by rfl) (Z.keepS hs) (Z.Yd.add rfl rfl (fun hG => Z.wi64 (by first | omega | (have hG' := Z.gh rfl hG; simp at hG'; omega)))) ?_
                          refine Z.lb 1 rfl ?_
                          refine Z.lnil ?_
                          refine Z.only [2, 3, 5] rfl ?_
                          refine Z.nthen ?_
                          have hxy : x = y := by apply nk_ext <;> simp_all
                          subst hxy
                          exact Z.again (i + 1) (by refine ⟨?_, ?_, ?_, trivial⟩ <;> (first | rfl | (refine Z.lookv rfl ?_; simp; done) | (refine Z.lookv rfl ?_; simp; omega))) ⟨⟨by omega, hnm, ha, by rw [← take_snoc hxi, ← take_snoc hyi, ht]⟩, hs⟩ (by omega)
                          )
                    )
              · first
                  | (exfalso; simp at hc4 <;> omega)
                  | (
                    (try simp at hc4)
                    refine Z.exit ?_
                    refine Z.xthen ?_
                    refine Z.xthen ?_
                    refine Z.xblock ?_
                    refine Z.nthen ?_
                    refine Z.seq ?_
                    refine Z.region ?_
                    obtain rfl : i = n := by omega
                    rw [List.take_of_length_le (by omega), List.take_of_length_le (by omega)] at ht
                    refine Z.l rfl rfl (by rfl) (Z.keepS hs) (Z.Yd.pure rfl) ?_
                    refine Z.lnil ?_
                    refine Z.only [4] rfl ?_
                    refine Z.nthen ?_
                    refine Z.ret ?_
                    -- ret#5
                    refine Z.out1 (by exact ⟨rfl, trivial⟩) ?_
                    refine ⟨_, rfl, ?_, hs.sub (List.nil_sublist _)⟩
                    first
                    | exact congrArg Value.bool (decide_eq_false (fun h => take_ne hxi hyi (fun e => by subst e; simp_all) h.2)).symm
                    | exact congrArg Value.bool (decide_eq_true ⟨ha, ht⟩).symm
                    | exact congrArg Value.bool (decide_eq_false (fun h => by have hlk := congrArg List.length h.2; simp_all)).symm
                    )
              )
        )
theorem num34 (e : Int) (w : World) : Calls Try.prog 13 #[.int .i64 e] w (SX.Ret fun v w' => v = .int .i64 e ∧ SX.St w [] w' []) := by
  have hs := SX.St.start w
  refine Z.enter Try.func13 rfl Try.ntmps13 rfl rfl ?_
  refine Z.seq ?_
  refine Z.region ?_
  refine Z.lb 1 rfl ?_
  refine Z.lnil ?_
  refine Z.only [0] rfl ?_
  refine Z.nthen ?_
  refine Z.seq ?_
  refine Z.region ?_
  refine Z.lb 2 rfl ?_
  refine Z.lnil ?_
  refine Z.only [2] rfl ?_
  refine Z.nthen ?_
  refine Z.ret ?_
  -- ret#0
  refine Z.out1 (by exact ⟨rfl, trivial⟩) ?_
  first | exact ⟨_, rfl, rfl, hs⟩ | exact ⟨_, rfl, rfl, hs.sub (List.nil_sublist _)⟩
theorem same34 (A B : Option Addr) (n c m d : Nat) (l k : List Int) (w : World) (hx : Sl w A (ints .u8 l)) (hy : Sl w B (ints .u8 k)) (hl : l.length = n) (hk : k.length = m) (hb : ∀ x ∈ l, 0 ≤ x ∧ x < 256) (hc : ∀ x ∈ k, 0 ≤ x ∧ x < 256) :
    Calls Try.prog 12 #[.slice A n c, .slice B m d] w (SX.Ret fun v w' => v = .bool (decide (l = k)) ∧ SX.St w [] w' []) := by
  have hs := SX.St.start w
  have he := Z.str_eq hb hc
  refine Z.enter Try.func12 rfl Try.ntmps12 rfl rfl ?_
  refine Z.seq ?_
  refine Z.region ?_
  refine Z.lb 1 rfl ?_
  refine Z.lnil ?_
  refine Z.only [0, 1] rfl ?_
  refine Z.nthen ?_
  refine Z.seq ?_
  refine Z.region ?_
  refine Z.lb 1 rfl ?_
  refine Z.l rfl rfl (by rfl) (Z.keepS hs) (Z.Yd.b2s rfl Try.underlying26 Try.underlying5 Try.underlying9 hl (fun W hW => by obtain ⟨R, hR, _⟩ := hW; exact hx.st hR)) ?_
  refine Z.lb 1 rfl ?_
  refine Z.l rfl rfl (by rfl) (Z.keepS hs) (Z.Yd.b2s rfl Try.underlying26 Try.underlying5 Try.underlying9 hk (fun W hW => by obtain ⟨R, hR, _⟩ := hW; exact hy.st hR)) ?_
  refine Z.l rfl rfl (by rfl) (Z.keepS hs) (Z.Yd.strEq rfl rfl) ?_
  refine Z.lb 1 rfl ?_
  refine Z.lnil ?_
  refine Z.only [4] rfl ?_
  refine Z.nthen ?_
  refine Z.ret ?_
  -- ret#0
  refine Z.out1 (by exact ⟨rfl, trivial⟩) ?_
  exact ⟨_, rfl, by simp_all, hs.sub (List.nil_sublist _)⟩
theorem fails34 (e : Int) (A : Option Addr) (m c : Nat) (l : List Int) (w : World) (hx : Sl w A (ints .u8 l)) (hl : l.length = m) (hm : m ≤ 1000000) (hb : ∀ x ∈ l, 0 ≤ x ∧ x < 256) (hd : decE l = e) (he : e ≠ 0) :
    Calls Try.prog 26 #[.int .i64 e, .slice A m c] w (SX.Ret fun v w' => v = .bool true ∧ SX.St w [] w' []) := by
  have hs := SX.St.start w
  have hA : decA l = 0 := by unfold decA; rw [if_neg (by omega)]
  have hL : decL l = [] := by unfold decL; rw [if_neg (by omega)]
  refine Z.enter Try.func26 rfl Try.ntmps26 rfl rfl ?_
  refine Z.seq ?_
  refine Z.region ?_
  refine Z.lb 1 rfl ?_
  refine Z.lnil ?_
  refine Z.only [0, 1] rfl ?_
  refine Z.nthen ?_
  refine Z.seq ?_
  refine Z.region ?_
  refine Z.lb 1 rfl ?_
  refine Z.le rfl trivial ?_
  refine Z.ZO.call rfl rfl (by rfl) rfl rfl Try.call17 rfl (decode_any A m c l _ (hx.st (hs.sub (List.nil_sublist _))) hl hm hb) ?_
  rintro v1_1 w1_1 ⟨B, c2, co, rfl, hy⟩
  replace hs := hs.call hy
  clear hy
  try simp only [List.cons_append, List.nil_append, List.append_nil] at hs
  rw [hd, hA, hL]
  refine Z.lb 3 rfl ?_
  refine Z.le rfl trivial ?_
  refine Z.ZO.alloc rfl rfl (by rfl) Try.zeroValue24 rfl hs ?_
  clear hs; intro g5 w5 hs
  refine Z.le rfl trivial ?_
  first | refine Z.ZO.storeA rfl rfl hs rfl rfl (by kernel_rfl) (by first | (simp [Value.oneCell']; done) | (refine Z.all_one ?_; assumption)) (by first | exact SX.at0 | exact SX.at1 | exact SX.at2 | exact SX.at3 | exact SX.at4 | exact SX.at5 | exact Z.at6 | exact Z.at7 | exact Z.at8 | exact Z.at9 | exact Z.at10 | exact Z.at11 | exact Z.at12) (by rfl) ?_ | refine Z.ZO.storeP rfl rfl hs rfl rfl (by kernel_rfl) (by first | (simp [Value.oneCell']; done) | (refine Z.all_one ?_; assumption)) (by first | exact SX.at0 | exact SX.at1 | exact SX.at2 | exact SX.at3 | exact SX.at4 | exact SX.at5 | exact Z.at6 | exact Z.at7 | exact Z.at8 | exact Z.at9 | exact Z.at10 | exact Z.at11 | exact Z.at12) (by first | decide | (simp; done) | (simp; omega)) ?_ | refine Z.ZO.storePR rfl rfl hs rfl rfl (by kernel_rfl) (by first | (simp [Value.oneCell']; done) | (refine Z.all_one ?_; assumption)) (by first | exact SX.at0 | exact SX.at1 | exact SX.at2 | exact SX.at3 | exact SX.at4 | exact SX.at5 | exact Z.at6 | exact Z.at7 | exact Z.at8 | exact Z.at9 | exact Z.at10 | exact Z.at11 | exact Z.at12) (by first | decide | (simp; done) | (simp; omega)) ?_
  clear hs; intro ws hs
  simp only [Nat.zero_add, Nat.add_zero, Nat.reduceAdd, Int.reduceToNat, Nat.reduceMul, List.set_cons_zero, List.set_cons_succ, List.setIfInBounds_toArray] at hs
  try simp only [Z.putL, Nat.zero_add] at hs
  refine Z.lb 1 rfl ?_
  refine Z.lnil ?_
  refine Z.only [0, 5, 6] rfl ?_
  refine Z.nthen ?_
  refine Z.seq ?_
  refine Z.region ?_
  refine Z.lb 4 rfl ?_
  refine Z.yes (s := 15) (b := true) rfl ((by simp)) rfl ?_
  refine Z.l rfl rfl (by rfl) (Z.keepS hs) (Z.Yd.fieldA (m := 0) rfl (by kernel_rfl)) ?_
  refine Z.l rfl rfl (by rfl) (Z.keepS hs) (by first | exact Z.Yd.load rfl Try.isAgg3 (fun _ => Z.cellB (by first | ((repeat (first | exact List.mem_cons_self | refine List.mem_cons_of_mem _ ?_ | refine List.mem_append_right _ ?_)); done) | fail) rfl) | exact Z.Yd.load rfl Try.isAgg3 (fun _ => Z.cellO (by assumption) (by simp) (by assumption)) | fail "load 2.5") ?_
  refine Z.lb 1 rfl ?_
  refine Z.yes (s := 15) (b := true) rfl rfl rfl ?_
  refine Z.l rfl rfl (by rfl) (Z.keepS hs) (Z.Yd.pickT rfl rfl) ?_
  refine Z.lb 1 rfl ?_
  refine Z.yes (s := 20) (b := true) rfl ((by simp)) rfl ?_
  refine Z.l rfl rfl (by rfl) (Z.keepS hs) (Z.Yd.fieldA (m := 1) rfl (by kernel_rfl)) ?_
  refine Z.l rfl rfl (by rfl) (Z.keepS hs) (by first | exact Z.Yd.load rfl Try.isAgg22 (fun _ => Z.cellB (by first | ((repeat (first | exact List.mem_cons_self | refine List.mem_cons_of_mem _ ?_ | refine List.mem_append_right _ ?_)); done) | fail) rfl) | exact Z.Yd.load rfl Try.isAgg22 (fun _ => Z.cellO (by assumption) (by simp) (by assumption)) | fail "load 2.10") ?_
  refine Z.l rfl rfl (by rfl) (Z.keepS hs) (Z.Yd.lenS rfl Try.underlying22) ?_
  refine Z.lb 1 rfl ?_
  refine Z.yes (s := 20) (b := true) rfl rfl rfl ?_
  refine Z.l rfl rfl (by rfl) (Z.keepS hs) (Z.Yd.pickT rfl rfl) ?_
  refine Z.lb 1 rfl ?_
  refine Z.lnil ?_
  refine Z.only [4] rfl ?_
  refine Z.nthen ?_
  refine Z.ret ?_
  -- ret#0
  refine Z.out1 (by exact ⟨rfl, trivial⟩) ?_
  first | exact ⟨_, rfl, rfl, hs⟩ | exact ⟨_, rfl, rfl, hs.sub (List.nil_sublist _)⟩
end Go.Proofs.Ytcieclifabbkjaa

/- Status reports: the examples hold. -/
namespace Go.Proofs.Ytcieclifabbkjaa
open Go.RowKit
set_option linter.unusedSimpArgs false
set_option linter.unusedVariables false
--newlaws

def ex1 : NkV := ⟨3, false, 0, 0⟩
def ex2 : NkV := ⟨4, true, 2, 9⟩
theorem by8 {l : List Int} (h : l.all (fun x => decide (0 ≤ x ∧ x < 256)) = true) : ∀ x ∈ l, 0 ≤ x ∧ x < 256 := fun x hx => by simpa using List.all_eq_true.1 h x hx
theorem sl_nil {w : World} {A : Option Addr} : Sl w A [] := fun h => absurd h (by decide)
set_option maxHeartbeats 1000000 in
set_option maxRecDepth 100000 in
theorem works34 (w : World) : Calls Try.prog 9 #[] w (SX.Ret fun v w' => v = .bool true ∧ SX.St w [] w' []) := by
  have hs := SX.St.start w
  have v1 : vldB 5 [] = true := by decide +kernel
  have v2 : vldB 5 [ex1, ex2] = true := by decide +kernel
  have e1 : encE 5 [] = 0 := by decide +kernel
  have e2 : encE 5 [ex1, ex2] = 0 := by decide +kernel
  have l1 : encL 5 [] = [0, 20] := by decide +kernel
  have l2 : encL 5 [ex1, ex2] = [0, 22, 1, 192, 34, 0, 8, 0, 72] := by decide +kernel
  have f1 : fitK [ex1, ex2] 5 4 = (4, 1) := by decide +kernel
  have s1 : sizeV 5 [ex1, ex2] = 9 := by decide +kernel
  have d1 : decE [0] = 5 := by decide +kernel
  have d2 : decE [128, 20] = 9 := by decide +kernel
  have d3 : decE [0, 21] = 9 := by decide +kernel
  refine Z.enter Try.func9 rfl Try.ntmps9 rfl rfl ?_
  refine Z.seq ?_
  refine Z.region ?_
  refine Z.lb 1 rfl ?_
  refine Z.lnil ?_
  refine Z.only [] rfl ?_
  refine Z.nthen ?_
  refine Z.seq ?_
  refine Z.region ?_
  refine Z.l rfl rfl (by rfl) (Z.keepS hs) (Z.Yd.buildL [(0, 1), (1, 1)] [.int .i64 0, .slice none 0 0] rfl rfl (by intro w; kernel_rfl)) ?_
  refine Z.le rfl trivial ?_
  refine Z.ZO.call rfl rfl (by rfl) rfl rfl Try.call10 rfl (encode_any 5 none 0 0 [] _ sl_nil rfl (by decide)) ?_
  rintro v1_1 w1_1 ⟨B1, c1, co1, rfl, hy⟩
  replace hs := hs.call hy
  clear hy
  try simp only [List.cons_append, List.nil_append, List.append_nil] at hs
  rw [e1, l1]
  rw [l1] at hs
  refine Z.lb 5 rfl ?_
  refine Z.lnil ?_
  refine Z.only [1, 2] rfl ?_
  refine Z.nthen ?_
  refine Z.seq ?_
  refine Z.region ?_
  refine Z.l rfl rfl (by rfl) (Z.keepS hs) (Z.Yd.buildL [(0, 1), (1, 1), (2, 1), (3, 1)] [.int .i64 0, .bool false, .int .i64 0, .int .i64 0] rfl rfl (by intro w; kernel_rfl)) ?_
  refine Z.l rfl rfl (by rfl) (Z.keepS hs) (Z.Yd.buildL [(0, 1), (1, 1), (2, 1), (3, 1)] [.int .i64 0, .bool false, .int .i64 0, .int .i64 0] rfl rfl (by intro w; kernel_rfl)) ?_
  refine Z.le rfl trivial ?_
  refine Z.ZO.litL (T' := 45) [(0, 4), (4, 4)] [.int .i64 0, .bool false, .int .i64 0, .int .i64 0, .int .i64 0, .bool false, .int .i64 0, .int .i64 0] rfl rfl (by rfl) rfl rfl (by intro W; kernel_rfl) hs ?_
  clear hs; intro g17 w17 hs
  refine Z.l rfl rfl (by rfl) (Z.keepS hs) (Z.Yd.buildL [(0, 1), (1, 1)] [.int .i64 0, .slice none 0 0] rfl rfl (by intro w; kernel_rfl)) ?_
  refine Z.le rfl trivial ?_
  refine Z.ZO.alloc rfl rfl (by rfl) Try.zeroValue24 rfl hs ?_
  clear hs; intro g3 w3 hs
  refine Z.le rfl trivial ?_
  first | refine Z.ZO.storeA rfl rfl hs rfl rfl (by kernel_rfl) (by first | (simp [Value.oneCell']; done) | (refine Z.all_one ?_; assumption)) (by first | exact SX.at0 | exact SX.at1 | exact SX.at2 | exact SX.at3 | exact SX.at4 | exact SX.at5 | exact Z.at6 | exact Z.at7 | exact Z.at8 | exact Z.at9 | exact Z.at10 | exact Z.at11 | exact Z.at12) (by rfl) ?_ | refine Z.ZO.storeP rfl rfl hs rfl rfl (by kernel_rfl) (by first | (simp [Value.oneCell']; done) | (refine Z.all_one ?_; assumption)) (by first | exact SX.at0 | exact SX.at1 | exact SX.at2 | exact SX.at3 | exact SX.at4 | exact SX.at5 | exact Z.at6 | exact Z.at7 | exact Z.at8 | exact Z.at9 | exact Z.at10 | exact Z.at11 | exact Z.at12) (by first | decide | (simp; done) | (simp; omega)) ?_ | refine Z.ZO.storePR rfl rfl hs rfl rfl (by kernel_rfl) (by first | (simp [Value.oneCell']; done) | (refine Z.all_one ?_; assumption)) (by first | exact SX.at0 | exact SX.at1 | exact SX.at2 | exact SX.at3 | exact SX.at4 | exact SX.at5 | exact Z.at6 | exact Z.at7 | exact Z.at8 | exact Z.at9 | exact Z.at10 | exact Z.at11 | exact Z.at12) (by first | decide | (simp; done) | (simp; omega)) ?_
  clear hs; intro ws hs
  simp only [Nat.zero_add, Nat.add_zero, Nat.reduceAdd, Int.reduceToNat, Nat.reduceMul, List.set_cons_zero, List.set_cons_succ, List.setIfInBounds_toArray] at hs
  try simp only [Z.putL, Nat.zero_add] at hs
  refine Z.lnil ?_
  refine Z.only [1, 2, 3] rfl ?_
  refine Z.nthen ?_
  refine Z.seq ?_
  refine Z.region ?_
  refine Z.l rfl rfl (by rfl) (Z.keepS hs) (by first | exact Z.Yd.loadA _ rfl Try.isAgg24 (fun _ => Z.cellsB (by first | ((repeat (first | exact List.mem_cons_self | refine List.mem_cons_of_mem _ ?_ | refine List.mem_append_right _ ?_)); done) | fail)) (by exact Try.sizeOf24) | fail "load 3.0") ?_
  refine Z.le rfl trivial ?_
  refine Z.ZO.call rfl rfl (by rfl) rfl rfl Try.call10 rfl (encode_any 5 (some ⟨g17, 0, none⟩) 2 2 [ex1, ex2] _ (by have h0 := hs.blkSl (g := g17) (by first | ((repeat (first | exact List.mem_cons_self | refine List.mem_cons_of_mem _ ?_ | refine List.mem_append_right _ ?_)); done) | fail); exact h0) rfl (by decide)) ?_
  rintro v3_1 w3_1 ⟨B2, c2, co2, rfl, hy⟩
  replace hs := hs.call hy
  clear hy
  try simp only [List.cons_append, List.nil_append, List.append_nil] at hs
  rw [e2, l2]
  rw [l2] at hs
  refine Z.lb 5 rfl ?_
  refine Z.lnil ?_
  refine Z.only [1, 2, 3, 4, 5] rfl ?_
  refine Z.nthen ?_
  refine Z.seq ?_
  refine Z.region ?_
  refine Z.l rfl rfl (by rfl) (Z.keepS hs) (by first | exact Z.Yd.loadA _ rfl Try.isAgg24 (fun _ => Z.cellsB (by first | ((repeat (first | exact List.mem_cons_self | refine List.mem_cons_of_mem _ ?_ | refine List.mem_append_right _ ?_)); done) | fail)) (by exact Try.sizeOf24) | fail "load 4.0") ?_
  refine Z.le rfl trivial ?_
  refine Z.ZO.call rfl rfl (by rfl) rfl rfl Try.call20 rfl (fit_ok 5 4 (some ⟨g17, 0, none⟩) 2 2 [ex1, ex2] _ (by have h0 := hs.blkSl (g := g17) (by first | ((repeat (first | exact List.mem_cons_self | refine List.mem_cons_of_mem _ ?_ | refine List.mem_append_right _ ?_)); done) | fail); exact h0) rfl (by decide) v2 (by decide)) ?_
  rintro v4_1 w4_1 ⟨B3, co3, c3, rfl, hc3, hy⟩
  replace hs := hs.call hy
  clear hy
  try simp only [List.cons_append, List.nil_append, List.append_nil] at hs
  rw [f1]
  rw [f1] at hc3
  refine Z.lb 3 rfl ?_
  refine Z.le rfl trivial ?_
  refine Z.ZO.alloc rfl rfl (by rfl) Try.zeroValue24 rfl hs ?_
  clear hs; intro g6 w6 hs
  refine Z.le rfl trivial ?_
  first | refine Z.ZO.storeA rfl rfl hs rfl rfl (by kernel_rfl) (by first | (simp [Value.oneCell']; done) | (refine Z.all_one ?_; assumption)) (by first | exact SX.at0 | exact SX.at1 | exact SX.at2 | exact SX.at3 | exact SX.at4 | exact SX.at5 | exact Z.at6 | exact Z.at7 | exact Z.at8 | exact Z.at9 | exact Z.at10 | exact Z.at11 | exact Z.at12) (by rfl) ?_ | refine Z.ZO.storeP rfl rfl hs rfl rfl (by kernel_rfl) (by first | (simp [Value.oneCell']; done) | (refine Z.all_one ?_; assumption)) (by first | exact SX.at0 | exact SX.at1 | exact SX.at2 | exact SX.at3 | exact SX.at4 | exact SX.at5 | exact Z.at6 | exact Z.at7 | exact Z.at8 | exact Z.at9 | exact Z.at10 | exact Z.at11 | exact Z.at12) (by first | decide | (simp; done) | (simp; omega)) ?_ | refine Z.ZO.storePR rfl rfl hs rfl rfl (by kernel_rfl) (by first | (simp [Value.oneCell']; done) | (refine Z.all_one ?_; assumption)) (by first | exact SX.at0 | exact SX.at1 | exact SX.at2 | exact SX.at3 | exact SX.at4 | exact SX.at5 | exact Z.at6 | exact Z.at7 | exact Z.at8 | exact Z.at9 | exact Z.at10 | exact Z.at11 | exact Z.at12) (by first | decide | (simp; done) | (simp; omega)) ?_
  clear hs; intro ws hs
  simp only [Nat.zero_add, Nat.add_zero, Nat.reduceAdd, Int.reduceToNat, Nat.reduceMul, List.set_cons_zero, List.set_cons_succ, List.setIfInBounds_toArray] at hs
  try simp only [Z.putL, Nat.zero_add] at hs
  refine Z.lb 1 rfl ?_
  refine Z.lnil ?_
  refine Z.only [1, 2, 3, 4, 5, 6, 7] rfl ?_
  refine Z.nthen ?_
  refine Z.seq ?_
  refine Z.region ?_
  refine Z.l rfl rfl (by rfl) (Z.keepS hs) (by first | exact Z.Yd.loadA _ rfl Try.isAgg24 (fun _ => Z.cellsB (by first | ((repeat (first | exact List.mem_cons_self | refine List.mem_cons_of_mem _ ?_ | refine List.mem_append_right _ ?_)); done) | fail)) (by exact Try.sizeOf24) | fail "load 5.0") ?_
  refine Z.le rfl trivial ?_
  refine Z.ZO.call rfl rfl (by rfl) rfl rfl Try.call20 rfl (fit_short 5 1 (some ⟨g17, 0, none⟩) 2 2 [ex1, ex2] _ (by have h0 := hs.blkSl (g := g17) (by first | ((repeat (first | exact List.mem_cons_self | refine List.mem_cons_of_mem _ ?_ | refine List.mem_append_right _ ?_)); done) | fail); exact h0) rfl (by decide) v2 (by decide)) ?_
  rintro v5_1 w5_1 ⟨rfl, hy⟩
  replace hs := hs.call hy
  clear hy
  try simp only [List.cons_append, List.nil_append, List.append_nil] at hs
  refine Z.lb 3 rfl ?_
  refine Z.le rfl trivial ?_
  refine Z.ZO.alloc rfl rfl (by rfl) Try.zeroValue24 rfl hs ?_
  clear hs; intro g8 w8 hs
  refine Z.le rfl trivial ?_
  first | refine Z.ZO.storeA rfl rfl hs rfl rfl (by kernel_rfl) (by first | (simp [Value.oneCell']; done) | (refine Z.all_one ?_; assumption)) (by first | exact SX.at0 | exact SX.at1 | exact SX.at2 | exact SX.at3 | exact SX.at4 | exact SX.at5 | exact Z.at6 | exact Z.at7 | exact Z.at8 | exact Z.at9 | exact Z.at10 | exact Z.at11 | exact Z.at12) (by rfl) ?_ | refine Z.ZO.storeP rfl rfl hs rfl rfl (by kernel_rfl) (by first | (simp [Value.oneCell']; done) | (refine Z.all_one ?_; assumption)) (by first | exact SX.at0 | exact SX.at1 | exact SX.at2 | exact SX.at3 | exact SX.at4 | exact SX.at5 | exact Z.at6 | exact Z.at7 | exact Z.at8 | exact Z.at9 | exact Z.at10 | exact Z.at11 | exact Z.at12) (by first | decide | (simp; done) | (simp; omega)) ?_ | refine Z.ZO.storePR rfl rfl hs rfl rfl (by kernel_rfl) (by first | (simp [Value.oneCell']; done) | (refine Z.all_one ?_; assumption)) (by first | exact SX.at0 | exact SX.at1 | exact SX.at2 | exact SX.at3 | exact SX.at4 | exact SX.at5 | exact Z.at6 | exact Z.at7 | exact Z.at8 | exact Z.at9 | exact Z.at10 | exact Z.at11 | exact Z.at12) (by first | decide | (simp; done) | (simp; omega)) ?_
  clear hs; intro ws hs
  simp only [Nat.zero_add, Nat.add_zero, Nat.reduceAdd, Int.reduceToNat, Nat.reduceMul, List.set_cons_zero, List.set_cons_succ, List.setIfInBounds_toArray] at hs
  try simp only [Z.putL, Nat.zero_add] at hs
  refine Z.lb 1 rfl ?_
  refine Z.lnil ?_
  refine Z.only [1, 2, 3, 4, 5, 6, 7, 9] rfl ?_
  refine Z.nthen ?_
  refine Z.seq ?_
  refine Z.region ?_
  refine Z.lb 1 rfl ?_
  refine Z.le rfl trivial ?_
  refine Z.ZO.call rfl rfl (by rfl) rfl rfl Try.call13 rfl (num34 _ _) ?_
  rintro v6_1 w6_1 ⟨rfl, hy⟩
  replace hs := hs.call hy
  clear hy
  try simp only [List.cons_append, List.nil_append, List.append_nil] at hs
  refine Z.lb 1 rfl ?_
  refine Z.le rfl trivial ?_
  refine Z.ZO.call rfl rfl (by rfl) rfl rfl Try.call13 rfl (num34 _ _) ?_
  rintro v6_3 w6_3 ⟨rfl, hy⟩
  replace hs := hs.call hy
  clear hy
  try simp only [List.cons_append, List.nil_append, List.append_nil] at hs
  refine Z.l rfl rfl (by rfl) (Z.keepS hs) (Z.Yd.add rfl rfl (fun hG => Z.wi64 (by first | omega | (have hG' := Z.gh rfl hG; simp at hG'; omega)))) ?_
  refine Z.lb 1 rfl ?_
  refine Z.le rfl trivial ?_
  refine Z.ZO.call rfl rfl (by rfl) rfl rfl Try.call13 rfl (num34 _ _) ?_
  rintro v6_6 w6_6 ⟨rfl, hy⟩
  replace hs := hs.call hy
  clear hy
  try simp only [List.cons_append, List.nil_append, List.append_nil] at hs
  refine Z.l rfl rfl (by rfl) (Z.keepS hs) (Z.Yd.add rfl rfl (fun hG => Z.wi64 (by first | omega | (have hG' := Z.gh rfl hG; simp at hG'; omega)))) ?_
  refine Z.lb 2 rfl ?_
  refine Z.yes (s := 43) (b := true) rfl ((by simp)) rfl ?_
  refine Z.lb 1 rfl ?_
  refine Z.yes (s := 43) (b := true) rfl rfl rfl ?_
  refine Z.le rfl (by exact ⟨rfl, trivial⟩) ?_
  refine Z.ZO.litL (T' := 5) [(0, 1), (1, 1)] [.int .u8 0, .int .u8 0] rfl rfl (by rfl) rfl rfl (by intro W; kernel_rfl) hs ?_
  clear hs; intro g45 w45 hs
  refine Z.le rfl (by exact ⟨rfl, trivial⟩) ?_
  refine Z.ZO.call rfl rfl (by rfl) rfl rfl Try.call12 rfl (same34 B1 _ _ _ _ _ [0, 20] [0, 20] _ (hs.slm (by first | ((repeat (first | exact List.mem_cons_self | refine List.mem_cons_of_mem _ ?_ | refine List.mem_append_right _ ?_)); done) | fail)) (by have h0 := hs.blkSl (List.mem_cons_self); exact h0) rfl rfl (by8 (by decide)) (by8 (by decide))) ?_
  rintro v6_12 w6_12 ⟨rfl, hy⟩
  replace hs := hs.call hy
  clear hy
  try simp only [List.cons_append, List.nil_append, List.append_nil] at hs
  refine Z.l rfl rfl (by rfl) (Z.keepS hs) (Z.Yd.pickT rfl rfl) ?_
  refine Z.lb 1 rfl ?_
  refine Z.yes (s := 48) (b := true) rfl ((by simp)) rfl ?_
  refine Z.lb 1 rfl ?_
  refine Z.yes (s := 48) (b := true) rfl rfl rfl ?_
  refine Z.le rfl (by exact ⟨rfl, trivial⟩) ?_
  refine Z.ZO.litL (T' := 5) [(0, 1), (1, 1), (2, 1), (3, 1), (4, 1), (5, 1), (6, 1), (7, 1), (8, 1)] [.int .u8 0, .int .u8 0, .int .u8 0, .int .u8 0, .int .u8 0, .int .u8 0, .int .u8 0, .int .u8 0, .int .u8 0] rfl rfl (by rfl) rfl rfl (by intro W; kernel_rfl) hs ?_
  clear hs; intro g50 w50 hs
  refine Z.le rfl (by exact ⟨rfl, trivial⟩) ?_
  refine Z.ZO.call rfl rfl (by rfl) rfl rfl Try.call12 rfl (same34 B2 _ _ _ _ _ [0, 22, 1, 192, 34, 0, 8, 0, 72] [0, 22, 1, 192, 34, 0, 8, 0, 72] _ (hs.slm (by first | ((repeat (first | exact List.mem_cons_self | refine List.mem_cons_of_mem _ ?_ | refine List.mem_append_right _ ?_)); done) | fail)) (by have h0 := hs.blkSl (List.mem_cons_self); exact h0) rfl rfl (by8 (by decide)) (by8 (by decide))) ?_
  rintro v6_17 w6_17 ⟨rfl, hy⟩
  replace hs := hs.call hy
  clear hy
  try simp only [List.cons_append, List.nil_append, List.append_nil] at hs
  refine Z.l rfl rfl (by rfl) (Z.keepS hs) (Z.Yd.pickT rfl rfl) ?_
  refine Z.lb 1 rfl ?_
  refine Z.yes (s := 53) (b := true) rfl ((by simp)) rfl ?_
  refine Z.l rfl rfl (by rfl) (Z.keepS hs) (by first | exact Z.Yd.loadA _ rfl Try.isAgg24 (fun _ => Z.cellsB (by first | ((repeat (first | exact List.mem_cons_self | refine List.mem_cons_of_mem _ ?_ | refine List.mem_append_right _ ?_)); done) | fail)) (by exact Try.sizeOf24) | fail "load 6.20") ?_
  refine Z.yes (s := 53) (b := true) rfl rfl rfl ?_
  refine Z.le rfl (by exact ⟨rfl, trivial⟩) ?_
  refine Z.ZO.call rfl rfl (by rfl) rfl rfl Try.call16 rfl (Size_any 5 (some ⟨g17, 0, none⟩) 2 2 [ex1, ex2] _ (by have h0 := hs.blkSl (g := g17) (by first | ((repeat (first | exact List.mem_cons_self | refine List.mem_cons_of_mem _ ?_ | refine List.mem_append_right _ ?_)); done) | fail); exact h0) rfl (by decide)) ?_
  rintro v6_21 w6_21 ⟨rfl, hy⟩
  replace hs := hs.call hy
  clear hy
  try simp only [List.cons_append, List.nil_append, List.append_nil] at hs
  rw [s1]
  refine Z.lb 1 rfl ?_
  refine Z.yes (s := 53) (b := true) rfl rfl rfl ?_
  refine Z.l rfl rfl (by rfl) (Z.keepS hs) (Z.Yd.pickT rfl rfl) ?_
  refine Z.lb 1 rfl ?_
  refine Z.yes (s := 58) (b := true) rfl ((by simp)) rfl ?_
  refine Z.l rfl rfl (by rfl) (Z.keepS hs) (by first | exact Z.Yd.loadA _ rfl Try.isAgg24 (fun _ => Z.cellsB (by first | ((repeat (first | exact List.mem_cons_self | refine List.mem_cons_of_mem _ ?_ | refine List.mem_append_right _ ?_)); done) | fail)) (by exact Try.sizeOf24) | fail "load 6.25") ?_
  refine Z.l rfl rfl (by rfl) (Z.keepS hs) (Z.Yd.buildL [(0, 1), (1, 1), (2, 1), (3, 1)] [.int .i64 0, .bool false, .int .i64 0, .int .i64 0] rfl rfl (by intro w; kernel_rfl)) ?_
  refine Z.yes (s := 58) (b := true) rfl rfl rfl ?_
  refine Z.le rfl (by exact ⟨rfl, trivial⟩) ?_
  refine Z.ZO.litL (T' := 45) [(0, 4)] [.int .i64 0, .bool false, .int .i64 0, .int .i64 0] rfl rfl (by rfl) rfl rfl (by intro W; kernel_rfl) hs ?_
  clear hs; intro g61 w61 hs
  refine Z.l rfl rfl (by rfl) (Z.keepS hs) (Z.Yd.buildL [(0, 1), (1, 1)] [.int .i64 0, .slice none 0 0] rfl rfl (by intro w; kernel_rfl)) ?_
  refine Z.yes (s := 58) (b := true) rfl rfl rfl ?_
  refine Z.le rfl (by exact ⟨rfl, trivial⟩) ?_
  refine Z.ZO.call rfl rfl (by rfl) rfl rfl Try.call19 rfl (rsame34 4 4 B3 _ 1 _ 1 1 [ex1] [ex1] _ (Sl.pre (hs.slm (A := B3) (by first | ((repeat (first | exact List.mem_cons_self | refine List.mem_cons_of_mem _ ?_ | refine List.mem_append_right _ ?_)); done) | fail)) (nk_pre [ex1, ex2] 1)) (by have h0 := hs.blkSl (List.mem_cons_self); exact h0) rfl rfl (by decide)) ?_
  rintro v6_29 w6_29 ⟨rfl, hy⟩
  replace hs := hs.call hy
  clear hy
  try simp only [List.cons_append, List.nil_append, List.append_nil] at hs
  refine Z.l rfl rfl (by rfl) (Z.keepS hs) (Z.Yd.pickT rfl rfl) ?_
  refine Z.lb 1 rfl ?_
  refine Z.yes (s := 65) (b := true) rfl ((by simp)) rfl ?_
  refine Z.lb 2 rfl ?_
  refine Z.yes (s := 65) (b := true) rfl rfl rfl ?_
  refine Z.l rfl rfl (by rfl) (Z.keepS hs) (Z.Yd.pickT rfl rfl) ?_
  refine Z.lb 1 rfl ?_
  refine Z.yes (s := 69) (b := true) rfl ((by simp)) rfl ?_
  refine Z.le rfl (by exact ⟨rfl, trivial⟩) ?_
  refine Z.ZO.litL (T' := 5) [(0, 1)] [.int .u8 0] rfl rfl (by rfl) rfl rfl (by intro W; kernel_rfl) hs ?_
  clear hs; intro g70 w70 hs
  refine Z.le rfl (by exact ⟨rfl, trivial⟩) ?_
  refine Z.ZO.call rfl rfl (by rfl) rfl rfl Try.call26 rfl (fails34 5 _ 1 1 [0] _ (by have h0 := hs.blkSl (List.mem_cons_self); exact h0) rfl (by decide) (by8 (by decide)) d1 (by decide)) ?_
  rintro v6_37 w6_37 ⟨rfl, hy⟩
  replace hs := hs.call hy
  clear hy
  try simp only [List.cons_append, List.nil_append, List.append_nil] at hs
  refine Z.l rfl rfl (by rfl) (Z.keepS hs) (Z.Yd.pickT rfl rfl) ?_
  refine Z.lb 1 rfl ?_
  refine Z.yes (s := 73) (b := true) rfl ((by simp)) rfl ?_
  refine Z.le rfl (by exact ⟨rfl, trivial⟩) ?_
  refine Z.ZO.litL (T' := 5) [(0, 1), (1, 1)] [.int .u8 0, .int .u8 0] rfl rfl (by rfl) rfl rfl (by intro W; kernel_rfl) hs ?_
  clear hs; intro g74 w74 hs
  refine Z.le rfl (by exact ⟨rfl, trivial⟩) ?_
  refine Z.ZO.call rfl rfl (by rfl) rfl rfl Try.call26 rfl (fails34 9 _ 2 2 [128, 20] _ (by have h0 := hs.blkSl (List.mem_cons_self); exact h0) rfl (by decide) (by8 (by decide)) d2 (by decide)) ?_
  rintro v6_41 w6_41 ⟨rfl, hy⟩
  replace hs := hs.call hy
  clear hy
  try simp only [List.cons_append, List.nil_append, List.append_nil] at hs
  refine Z.l rfl rfl (by rfl) (Z.keepS hs) (Z.Yd.pickT rfl rfl) ?_
  refine Z.lb 1 rfl ?_
  refine Z.yes (s := 77) (b := true) rfl ((by simp)) rfl ?_
  refine Z.le rfl (by exact ⟨rfl, trivial⟩) ?_
  refine Z.ZO.litL (T' := 5) [(0, 1), (1, 1)] [.int .u8 0, .int .u8 0] rfl rfl (by rfl) rfl rfl (by intro W; kernel_rfl) hs ?_
  clear hs; intro g78 w78 hs
  refine Z.le rfl (by exact ⟨rfl, trivial⟩) ?_
  refine Z.ZO.call rfl rfl (by rfl) rfl rfl Try.call26 rfl (fails34 9 _ 2 2 [0, 21] _ (by have h0 := hs.blkSl (List.mem_cons_self); exact h0) rfl (by decide) (by8 (by decide)) d3 (by decide)) ?_
  rintro v6_45 w6_45 ⟨rfl, hy⟩
  replace hs := hs.call hy
  clear hy
  try simp only [List.cons_append, List.nil_append, List.append_nil] at hs
  refine Z.l rfl rfl (by rfl) (Z.keepS hs) (Z.Yd.pickT rfl rfl) ?_
  refine Z.lb 1 rfl ?_
  refine Z.lnil ?_
  refine Z.only [0] rfl ?_
  refine Z.nthen ?_
  refine Z.ret ?_
  -- ret#0
  refine Z.out1 (by exact ⟨rfl, trivial⟩) ?_
  first | exact ⟨_, rfl, rfl, hs⟩ | exact ⟨_, rfl, rfl, hs.sub (List.nil_sublist _)⟩
end Go.Proofs.Ytcieclifabbkjaa

/- Status reports: Encode against the document. -/
namespace Go.Proofs.Ytcieclifabbkjaa
open Go.RowKit
set_option linter.unusedSimpArgs false
set_option linter.unusedVariables false
--newlaws

theorem encL_by (ack : Int) (l : List NkV) : ∀ x ∈ encL ack l, 0 ≤ x ∧ x < 256 := by
  unfold encL
  split
  · exact pk_bytes
  · intro x hx; cases hx
theorem encL_size (ack : Int) (l : List NkV) : (if encE ack l = 0 then ((encL ack l).length : Int) else 0) = sizeV ack l := by
  unfold encE encL sizeV
  by_cases hv : vldB ack l = true
  · rw [if_pos hv, if_pos hv, if_pos hv, if_pos rfl, pk_length, encS_len]
  · rw [if_neg hv, if_neg hv, if_neg hv, if_neg (by decide)]
set_option maxHeartbeats 1000000 in
set_option maxRecDepth 100000 in
theorem statusEncodes_walk (ack : Int) (A : Option Addr) (n c : Nat) (l : List NkV) (w : World) (hx : Sl w A (l.flatMap NkV.cells)) (hl : l.length = n) (hn : n ≤ maxLen) :
    Calls Try.prog 3 #[.agg #[.int .i64 ack, .slice A n c]] w (SX.Ret fun v w' => v = .bool true ∧ SX.St w [] w' []) := by
  have hs := SX.St.start w
  have hsz := encL_size ack l
  by_cases h520 : n ≤ 520
  · skip
    refine Z.enter Try.func3 rfl Try.ntmps3 rfl rfl ?_
    refine Z.seq ?_
    refine Z.region ?_
    refine Z.le rfl trivial ?_
    refine Z.ZO.box rfl rfl (by rfl) rfl rfl hs ?_
    clear hs; intro g1 w1 hs
    refine Z.lb 1 rfl ?_
    refine Z.lnil ?_
    refine Z.only [1] rfl ?_
    refine Z.nthen ?_
    refine Z.seq ?_
    refine Z.seq ?_
    refine Z.region ?_
    refine Z.l rfl rfl (by rfl) (Z.keepS hs) (Z.Yd.fieldA (m := 1) rfl (by kernel_rfl)) ?_
    refine Z.l rfl rfl (by rfl) (Z.keepS hs) (by first | exact Z.Yd.load rfl Try.isAgg22 (fun _ => Z.cellB (by first | ((repeat (first | exact List.mem_cons_self | refine List.mem_cons_of_mem _ ?_ | refine List.mem_append_right _ ?_)); done) | fail) rfl) | exact Z.Yd.load rfl Try.isAgg22 (fun _ => Z.cellO (by assumption) (by simp) (by assumption)) | fail "load 1.1") ?_
    refine Z.l rfl rfl (by rfl) (Z.keepS hs) (Z.Yd.lenS rfl Try.underlying22) ?_
    refine Z.lb 1 rfl ?_
    refine Z.lnil ?_
    refine Z.only [1, 11] rfl ?_
    refine Z.nthen ?_
    refine Z.cond rfl (fun h => absurd h (by simp; omega)) (fun hc1 => ?_)
    refine Z.skip ?_
    refine Z.nthen ?_
    refine Z.seq ?_
    refine Z.region ?_
    refine Z.l rfl rfl (by rfl) (Z.keepS hs) (by first | exact Z.Yd.loadA _ rfl Try.isAgg24 (fun _ => Z.cellsB (by first | ((repeat (first | exact List.mem_cons_self | refine List.mem_cons_of_mem _ ?_ | refine List.mem_append_right _ ?_)); done) | fail)) (by exact Try.sizeOf24) | fail "load 3.0") ?_
    refine Z.le rfl trivial ?_
    refine Z.ZO.call rfl rfl (by rfl) rfl rfl Try.call10 rfl (encode_any ack A n c l _ (hx.st (hs.sub (List.nil_sublist _))) hl (by omega)) ?_
    rintro v3_1 w3_1 ⟨B1, c1, co1, rfl, hy⟩
    replace hs := hs.call hy
    clear hy
    try simp only [List.cons_append, List.nil_append, List.append_nil] at hs
    refine Z.lb 5 rfl ?_
    refine Z.lnil ?_
    refine Z.only [1, 3, 4] rfl ?_
    refine Z.nthen ?_
    refine Z.seq ?_
    refine Z.region ?_
    refine Z.l rfl rfl (by rfl) (Z.keepS hs) (by first | exact Z.Yd.loadA _ rfl Try.isAgg24 (fun _ => Z.cellsB (by first | ((repeat (first | exact List.mem_cons_self | refine List.mem_cons_of_mem _ ?_ | refine List.mem_append_right _ ?_)); done) | fail)) (by exact Try.sizeOf24) | fail "load 4.0") ?_
    refine Z.le rfl trivial ?_
    refine Z.ZO.call rfl rfl (by rfl) rfl rfl Try.call11 rfl (rencode_any ack A n c l _ (hx.st (hs.sub (List.nil_sublist _))) hl (by omega)) ?_
    rintro v4_1 w4_1 ⟨B2, c2, co2, rfl, hy⟩
    replace hs := hs.call hy
    clear hy
    try simp only [List.cons_append, List.nil_append, List.append_nil] at hs
    refine Z.lb 5 rfl ?_
    refine Z.lnil ?_
    refine Z.only [1, 3, 4, 5, 6] rfl ?_
    refine Z.nthen ?_
    refine Z.seq ?_
    refine Z.region ?_
    refine Z.lb 1 rfl ?_
    refine Z.lnil ?_
    refine Z.only [1, 3, 4, 5, 6, 7] rfl ?_
    refine Z.nthen ?_
    refine Z.seq ?_
    refine Z.seq ?_
    refine Z.region ?_
    refine Z.lb 2 rfl ?_
    refine Z.lnil ?_
    refine Z.only [1, 3, 4, 5, 6, 7, 24] rfl ?_
    refine Z.nthen ?_
    refine Z.cutt (ι := Nat) [1, 3, 4, 5, 6] rfl (fun _ => [(7, [], .int .i64 (sizeV ack l))]) (fun _ wr => SX.St w [] wr [SX.Ent.row (.slice B2 (encL ack l).length co2) 5 1 (encL ack l).length (ints .u8 (encL ack l)), SX.Ent.row (.slice B1 (encL ack l).length co1) 5 1 (encL ack l).length (ints .u8 (encL ack l)), SX.Ent.blk g1 24 #[.int .i64 ack, .slice A n c]]) ?_ ?_
    · skip
      refine Z.cond rfl (fun hc6 => ?_) (fun hc6 => ?_)
      · first
          | (exfalso; simp at hc6 <;> omega)
          | (
            (try simp at hc6)
            rw [if_pos (by assumption)] at hsz
            rw [← hsz]
            refine Z.region ?_
            refine Z.lb 1 rfl ?_
            refine Z.l rfl rfl (by rfl) (Z.keepS hs) (Z.Yd.lenS rfl Try.underlying26) ?_
            refine Z.lb 1 rfl ?_
            refine Z.lnil ?_
            refine Z.only [1, 3, 4, 5, 6, 7] rfl ?_
            refine Z.nthen ?_
            exact Z.meet 0 (by refine ⟨?_, ?_, ?_, ?_, ?_, ?_, trivial⟩ <;> (first | rfl | (refine Z.lookv rfl ?_; simp; done) | (refine Z.lookv rfl ?_; simp; omega))) hs
            )
      · first
          | (exfalso; simp at hc6 <;> omega)
          | (
            (try simp at hc6)
            rw [if_neg (by assumption)] at hsz
            rw [← hsz]
            refine Z.skip ?_
            refine Z.nthen ?_
            exact Z.meet 0 (by refine ⟨?_, ?_, ?_, ?_, ?_, ?_, trivial⟩ <;> (first | rfl | (refine Z.lookv rfl ?_; simp; done) | (refine Z.lookv rfl ?_; simp; omega))) hs
            )
    · clear hs
      rintro _ w6 hs
      refine Z.only [1, 3, 4, 5, 6, 7] rfl ?_
      refine Z.seq ?_
      refine Z.drawK (fun _ => true) mixed hs ?_
      clear hs; intro wd8 hs
      refine Z.tb [0, 1] (by kernel_rfl) rfl ⟨_, hs, by first | (simp; done) | exact fun e he => List.mem_append_right _ he⟩ rfl ?_
      refine Z.tn 2 rfl rfl (by kernel_rfl) rfl trivial ?_
      refine Z.ZO.call rfl rfl (by rfl) rfl rfl Try.call12 rfl (same34 B1 B2 _ _ _ _ (encL ack l) (encL ack l) _ (hs.slm (by first | ((repeat (first | exact List.mem_cons_self | refine List.mem_cons_of_mem _ ?_ | refine List.mem_append_right _ ?_)); done) | fail)) (hs.slm (by first | ((repeat (first | exact List.mem_cons_self | refine List.mem_cons_of_mem _ ?_ | refine List.mem_append_right _ ?_)); done) | fail)) rfl rfl (encL_by _ _) (encL_by _ _)) ?_
      rintro v8_2 w8_2 ⟨rfl, hy⟩
      replace hs := hs.call hy
      clear hy
      try simp only [List.cons_append, List.nil_append, List.append_nil] at hs
      refine Z.tk (Dn := fun _ => true) (i := 2) (fun _ => ⟨_, hs, by first | (simp; done) | exact fun e he => List.mem_append_right _ he⟩) ?_
      refine Z.tb [3] (by kernel_rfl) rfl ⟨_, hs, by first | (simp; done) | exact fun e he => List.mem_append_right _ he⟩ rfl ?_
      refine Z.split (s := 30) rfl (fun hsp30 => ?_) (fun hsp30 => ?_)
      · first
          | (exfalso; simp at hsp30 <;> omega)
          | (
            refine Z.yes (s := 30) (b := true) rfl hsp30 rfl ?_
            (try simp at hsp30)
            refine Z.tb [4, 6] (by kernel_rfl) rfl ⟨_, hs, by first | (simp; done) | exact fun e he => List.mem_append_right _ he⟩ rfl ?_
            refine Z.yes (s := 30) (b := true) rfl rfl rfl ?_
            refine Z.tn 5 rfl rfl (by kernel_rfl) rfl (by exact ⟨rfl, trivial⟩) ?_
            refine Z.ZO.call rfl rfl (by rfl) rfl rfl Try.call13 rfl (num34 _ _) ?_
            rintro v8_5 w8_5 ⟨rfl, hy⟩
            replace hs := hs.call hy
            clear hy
            try simp only [List.cons_append, List.nil_append, List.append_nil] at hs
            refine Z.tk (Dn := fun _ => true) (i := 5) (fun _ => ⟨_, hs, by first | (simp; done) | exact fun e he => List.mem_append_right _ he⟩) ?_
            refine Z.tb [7] (by kernel_rfl) rfl ⟨_, hs, by first | (simp; done) | exact fun e he => List.mem_append_right _ he⟩ rfl ?_
            refine Z.yes (s := 30) (b := true) rfl rfl rfl ?_
            refine Z.t 8 rfl rfl rfl (by rfl) (by kernel_rfl) ⟨_, hs, by first | (simp; done) | exact fun e he => List.mem_append_right _ he⟩ (Z.Yd.pickT rfl rfl) ?_
            refine Z.tb [9] (by kernel_rfl) rfl ⟨_, hs, by first | (simp; done) | exact fun e he => List.mem_append_right _ he⟩ rfl ?_
            refine Z.split (s := 36) rfl (fun hsp36 => ?_) (fun hsp36 => ?_)
            · first
                | (exfalso; simp at hsp36 <;> omega)
                | (
                  refine Z.yes (s := 36) (b := true) rfl hsp36 rfl ?_
                  (try simp at hsp36)
                  refine Z.yes (s := 30) (b := true) rfl rfl rfl ?_
                  refine Z.t 10 rfl rfl rfl (by rfl) (by kernel_rfl) ⟨_, hs, by first | (simp; done) | exact fun e he => List.mem_append_right _ he⟩ (by first | exact Z.Yd.loadA _ rfl Try.isAgg24 (fun _ => Z.cellsB (by first | ((repeat (first | exact List.mem_cons_self | refine List.mem_cons_of_mem _ ?_ | refine List.mem_append_right _ ?_)); done) | fail)) (by exact Try.sizeOf24) | fail "load 8.10") ?_
                  refine Z.t 12 rfl rfl rfl (by rfl) (by kernel_rfl) ⟨_, hs, by first | (simp; done) | exact fun e he => List.mem_append_right _ he⟩ (by first | exact Z.Yd.loadA _ rfl Try.isAgg24 (fun _ => Z.cellsB (by first | ((repeat (first | exact List.mem_cons_self | refine List.mem_cons_of_mem _ ?_ | refine List.mem_append_right _ ?_)); done) | fail)) (by exact Try.sizeOf24) | fail "load 8.12") ?_
                  refine Z.yes (s := 30) (b := true) rfl rfl rfl ?_
                  refine Z.yes (s := 36) (b := true) rfl rfl rfl ?_
                  refine Z.tn 11 rfl rfl (by kernel_rfl) rfl (by exact ⟨rfl, trivial⟩) ?_
                  refine Z.ZO.call rfl rfl (by rfl) rfl rfl Try.call14 rfl (svalid_any ack A n c l _ (hx.st (hs.sub (List.nil_sublist _))) hl (by omega)) ?_
                  rintro v8_11 w8_11 ⟨rfl, hy⟩
                  replace hs := hs.call hy
                  clear hy
                  try simp only [List.cons_append, List.nil_append, List.append_nil] at hs
                  refine Z.tk (Dn := fun _ => true) (i := 11) (fun _ => ⟨_, hs, by first | (simp; done) | exact fun e he => List.mem_append_right _ he⟩) ?_
                  refine Z.tn 13 rfl rfl (by kernel_rfl) rfl (by exact ⟨rfl, trivial⟩) ?_
                  refine Z.ZO.call rfl rfl (by rfl) rfl rfl Try.call15 rfl (rsvalid_any ack A n c l _ (hx.st (hs.sub (List.nil_sublist _))) hl (by omega)) ?_
                  rintro v8_13 w8_13 ⟨rfl, hy⟩
                  replace hs := hs.call hy
                  clear hy
                  try simp only [List.cons_append, List.nil_append, List.append_nil] at hs
                  refine Z.tk (Dn := fun _ => true) (i := 13) (fun _ => ⟨_, hs, by first | (simp; done) | exact fun e he => List.mem_append_right _ he⟩) ?_
                  refine Z.t 14 rfl rfl rfl (by rfl) (by kernel_rfl) ⟨_, hs, by first | (simp; done) | exact fun e he => List.mem_append_right _ he⟩ (Z.Yd.bin rfl rfl (by intro _ w; go_simp; try rfl)) ?_
                  refine Z.yes (s := 30) (b := true) rfl rfl rfl ?_
                  refine Z.yes (s := 36) (b := true) rfl rfl rfl ?_
                  refine Z.t 15 rfl rfl rfl (by rfl) (by kernel_rfl) ⟨_, hs, by first | (simp; done) | exact fun e he => List.mem_append_right _ he⟩ (Z.Yd.pickT rfl rfl) ?_
                  refine Z.tb [16] (by kernel_rfl) rfl ⟨_, hs, by first | (simp; done) | exact fun e he => List.mem_append_right _ he⟩ rfl ?_
                  refine Z.split (s := 43) rfl (fun hsp43 => ?_) (fun hsp43 => ?_)
                  · first
                      | (exfalso; simp at hsp43 <;> omega)
                      | (
                        refine Z.yes (s := 43) (b := true) rfl hsp43 rfl ?_
                        (try simp at hsp43)
                        refine Z.yes (s := 30) (b := true) rfl rfl rfl ?_
                        refine Z.yes (s := 36) (b := true) rfl rfl rfl ?_
                        refine Z.t 17 rfl rfl rfl (by rfl) (by kernel_rfl) ⟨_, hs, by first | (simp; done) | exact fun e he => List.mem_append_right _ he⟩ (by first | exact Z.Yd.loadA _ rfl Try.isAgg24 (fun _ => Z.cellsB (by first | ((repeat (first | exact List.mem_cons_self | refine List.mem_cons_of_mem _ ?_ | refine List.mem_append_right _ ?_)); done) | fail)) (by exact Try.sizeOf24) | fail "load 8.17") ?_
                        refine Z.tb [19] (by kernel_rfl) rfl ⟨_, hs, by first | (simp; done) | exact fun e he => List.mem_append_right _ he⟩ rfl ?_
                        refine Z.yes (s := 30) (b := true) rfl rfl rfl ?_
                        refine Z.yes (s := 36) (b := true) rfl rfl rfl ?_
                        refine Z.yes (s := 43) (b := true) rfl rfl rfl ?_
                        refine Z.tn 18 rfl rfl (by kernel_rfl) rfl (by exact ⟨rfl, trivial⟩) ?_
                        refine Z.ZO.call rfl rfl (by rfl) rfl rfl Try.call16 rfl (Size_any ack A n c l _ (hx.st (hs.sub (List.nil_sublist _))) hl (by omega)) ?_
                        rintro v8_18 w8_18 ⟨rfl, hy⟩
                        replace hs := hs.call hy
                        clear hy
                        try simp only [List.cons_append, List.nil_append, List.append_nil] at hs
                        refine Z.tk (Dn := fun _ => true) (i := 18) (fun _ => ⟨_, hs, by first | (simp; done) | exact fun e he => List.mem_append_right _ he⟩) ?_
                        refine Z.tb [20] (by kernel_rfl) rfl ⟨_, hs, by first | (simp; done) | exact fun e he => List.mem_append_right _ he⟩ rfl ?_
                        refine Z.yes (s := 30) (b := true) rfl rfl rfl ?_
                        refine Z.yes (s := 36) (b := true) rfl rfl rfl ?_
                        refine Z.yes (s := 43) (b := true) rfl rfl rfl ?_
                        refine Z.t 21 rfl rfl rfl (by rfl) (by kernel_rfl) ⟨_, hs, by first | (simp; done) | exact fun e he => List.mem_append_right _ he⟩ (Z.Yd.pickT rfl rfl) ?_
                        refine Z.tb [22] (by kernel_rfl) rfl ⟨_, hs, by first | (simp; done) | exact fun e he => List.mem_append_right _ he⟩ rfl ?_
                        refine Z.split (s := 49) rfl (fun hsp49 => ?_) (fun hsp49 => ?_)
                        · first
                            | (exfalso; simp at hsp49 <;> omega)
                            | (
                              refine Z.yes (s := 49) (b := true) rfl hsp49 rfl ?_
                              (try simp at hsp49)
                              refine Z.yes (s := 30) (b := true) rfl rfl rfl ?_
                              refine Z.yes (s := 36) (b := true) rfl rfl rfl ?_
                              refine Z.yes (s := 43) (b := true) rfl rfl rfl ?_
                              refine Z.tn 23 rfl rfl (by kernel_rfl) rfl (by exact ⟨rfl, trivial⟩) ?_
                              refine Z.ZO.call rfl rfl (by rfl) rfl rfl Try.call9 rfl (works34 _) ?_
                              rintro v8_23 w8_23 ⟨rfl, hy⟩
                              replace hs := hs.call hy
                              clear hy
                              try simp only [List.cons_append, List.nil_append, List.append_nil] at hs
                              refine Z.tk (Dn := fun _ => true) (i := 23) (fun _ => ⟨_, hs, by first | (simp; done) | exact fun e he => List.mem_append_right _ he⟩) ?_
                              refine Z.t 24 rfl rfl rfl (by rfl) (by kernel_rfl) ⟨_, hs, by first | (simp; done) | exact fun e he => List.mem_append_right _ he⟩ (Z.Yd.pickT rfl rfl) ?_
                              refine Z.tb [25] (by kernel_rfl) rfl ⟨_, hs, by first | (simp; done) | exact fun e he => List.mem_append_right _ he⟩ rfl ?_
                              refine Z.td (by rfl) (by kernel_rfl) ?_
                              refine Z.only [2] rfl ?_
                              refine Z.nthen ?_
                              refine Z.ret ?_
                              -- ret#0
                              refine Z.out1 (by exact ⟨rfl, trivial⟩) ?_
                              first | exact ⟨_, rfl, rfl, hs⟩ | exact ⟨_, rfl, rfl, hs.sub (List.nil_sublist _)⟩
                              )
                        · first
                            | (exfalso; simp at hsp49 <;> omega)
                            | (
                              refine Z.yes (s := 49) (b := false) rfl hsp49 rfl ?_
                              (try simp at hsp49)
                              refine Z.yes (s := 30) (b := true) rfl rfl rfl ?_
                              refine Z.yes (s := 36) (b := true) rfl rfl rfl ?_
                              refine Z.yes (s := 43) (b := true) rfl rfl rfl ?_
                              refine Z.tnS 49 true 23 rfl rfl (by kernel_rfl) rfl rfl (by simp) rfl (by rfl) (fun _ => ⟨_, hs, by first | (simp; done) | exact fun e he => List.mem_append_right _ he⟩) ?_
                              refine Z.t 24 rfl rfl rfl (by rfl) (by kernel_rfl) ⟨_, hs, by first | (simp; done) | exact fun e he => List.mem_append_right _ he⟩ (Z.Yd.pickF rfl rfl) ?_
                              refine Z.tb [25] (by kernel_rfl) rfl ⟨_, hs, by first | (simp; done) | exact fun e he => List.mem_append_right _ he⟩ rfl ?_
                              refine Z.td (by rfl) (by kernel_rfl) ?_
                              refine Z.only [2] rfl ?_
                              refine Z.nthen ?_
                              refine Z.ret ?_
                              -- ret#1
                              refine Z.out1 (by exact ⟨rfl, trivial⟩) ?_
                              first | exact ⟨_, rfl, rfl, hs⟩ | exact ⟨_, rfl, rfl, hs.sub (List.nil_sublist _)⟩
                              )
                        )
                  · first
                      | (exfalso; simp at hsp43 <;> omega)
                      | (
                        refine Z.yes (s := 43) (b := false) rfl hsp43 rfl ?_
                        (try simp at hsp43)
                        refine Z.yes (s := 30) (b := true) rfl rfl rfl ?_
                        refine Z.yes (s := 36) (b := true) rfl rfl rfl ?_
                        refine Z.t 17 rfl rfl rfl (by rfl) (by kernel_rfl) ⟨_, hs, by first | (simp; done) | exact fun e he => List.mem_append_right _ he⟩ (Z.Yd.off (v := undef) 43 true rfl (by first | (simp; done) | (simp_all; done)) (by intro c h; cases h)) ?_
                        refine Z.t 19 rfl rfl rfl (by rfl) (by kernel_rfl) ⟨_, hs, by first | (simp; done) | exact fun e he => List.mem_append_right _ he⟩ (Z.Yd.off (v := undef) 43 true rfl (by first | (simp; done) | (simp_all; done)) (by intro c h; cases h)) ?_
                        refine Z.yes (s := 30) (b := true) rfl rfl rfl ?_
                        refine Z.yes (s := 36) (b := true) rfl rfl rfl ?_
                        refine Z.yes (s := 43) (b := false) rfl rfl rfl ?_
                        refine Z.tnS 43 true 18 rfl rfl (by kernel_rfl) rfl rfl (by simp) rfl (by rfl) (fun _ => ⟨_, hs, by first | (simp; done) | exact fun e he => List.mem_append_right _ he⟩) ?_
                        refine Z.t 20 rfl rfl rfl (by rfl) (by kernel_rfl) ⟨_, hs, by first | (simp; done) | exact fun e he => List.mem_append_right _ he⟩ (Z.Yd.off (v := undef) 43 true rfl (by first | (simp; done) | (simp_all; done)) (by intro c h; cases h)) ?_
                        refine Z.yes (s := 30) (b := true) rfl rfl rfl ?_
                        refine Z.yes (s := 36) (b := true) rfl rfl rfl ?_
                        refine Z.yes (s := 43) (b := false) rfl rfl rfl ?_
                        refine Z.t 21 rfl rfl rfl (by rfl) (by kernel_rfl) ⟨_, hs, by first | (simp; done) | exact fun e he => List.mem_append_right _ he⟩ (Z.Yd.pickF rfl rfl) ?_
                        refine Z.tb [22] (by kernel_rfl) rfl ⟨_, hs, by first | (simp; done) | exact fun e he => List.mem_append_right _ he⟩ rfl ?_
                        refine Z.split (s := 49) rfl (fun hsp49 => ?_) (fun hsp49 => ?_)
                        · first
                            | (exfalso; simp at hsp49 <;> omega)
                            | (
                              refine Z.yes (s := 49) (b := true) rfl hsp49 rfl ?_
                              (try simp at hsp49)
                              refine Z.yes (s := 30) (b := true) rfl rfl rfl ?_
                              refine Z.yes (s := 36) (b := true) rfl rfl rfl ?_
                              refine Z.yes (s := 43) (b := false) rfl rfl rfl ?_
                              refine Z.tn 23 rfl rfl (by kernel_rfl) rfl (by exact ⟨rfl, trivial⟩) ?_
                              refine Z.ZO.call rfl rfl (by rfl) rfl rfl Try.call9 rfl (works34 _) ?_
                              rintro v8_23 w8_23 ⟨rfl, hy⟩
                              replace hs := hs.call hy
                              clear hy
                              try simp only [List.cons_append, List.nil_append, List.append_nil] at hs
                              refine Z.tk (Dn := fun _ => true) (i := 23) (fun _ => ⟨_, hs, by first | (simp; done) | exact fun e he => List.mem_append_right _ he⟩) ?_
                              refine Z.t 24 rfl rfl rfl (by rfl) (by kernel_rfl) ⟨_, hs, by first | (simp; done) | exact fun e he => List.mem_append_right _ he⟩ (Z.Yd.pickT rfl rfl) ?_
                              refine Z.tb [25] (by kernel_rfl) rfl ⟨_, hs, by first | (simp; done) | exact fun e he => List.mem_append_right _ he⟩ rfl ?_
                              refine Z.td (by rfl) (by kernel_rfl) ?_
                              refine Z.only [2] rfl ?_
                              refine Z.nthen ?_
                              refine Z.ret ?_
                              -- ret#2
                              refine Z.out1 (by exact ⟨rfl, trivial⟩) ?_
                              first | exact ⟨_, rfl, rfl, hs⟩ | exact ⟨_, rfl, rfl, hs.sub (List.nil_sublist _)⟩
                              )
                        · first
                            | (exfalso; simp at hsp49 <;> omega)
                            | (
                              refine Z.yes (s := 49) (b := false) rfl hsp49 rfl ?_
                              (try simp at hsp49)
                              refine Z.yes (s := 30) (b := true) rfl rfl rfl ?_
                              refine Z.yes (s := 36) (b := true) rfl rfl rfl ?_
                              refine Z.yes (s := 43) (b := false) rfl rfl rfl ?_
                              refine Z.tnS 49 true 23 rfl rfl (by kernel_rfl) rfl rfl (by simp) rfl (by rfl) (fun _ => ⟨_, hs, by first | (simp; done) | exact fun e he => List.mem_append_right _ he⟩) ?_
                              refine Z.t 24 rfl rfl rfl (by rfl) (by kernel_rfl) ⟨_, hs, by first | (simp; done) | exact fun e he => List.mem_append_right _ he⟩ (Z.Yd.pickF rfl rfl) ?_
                              refine Z.tb [25] (by kernel_rfl) rfl ⟨_, hs, by first | (simp; done) | exact fun e he => List.mem_append_right _ he⟩ rfl ?_
                              refine Z.td (by rfl) (by kernel_rfl) ?_
                              refine Z.only [2] rfl ?_
                              refine Z.nthen ?_
                              refine Z.ret ?_
                              -- ret#3
                              refine Z.out1 (by exact ⟨rfl, trivial⟩) ?_
                              first | exact ⟨_, rfl, rfl, hs⟩ | exact ⟨_, rfl, rfl, hs.sub (List.nil_sublist _)⟩
                              )
                        )
                  )
            · first
                | (exfalso; simp at hsp36 <;> omega)
                | (
                  refine Z.yes (s := 36) (b := false) rfl hsp36 rfl ?_
                  (try simp at hsp36)
                  refine Z.yes (s := 30) (b := true) rfl rfl rfl ?_
                  refine Z.t 10 rfl rfl rfl (by rfl) (by kernel_rfl) ⟨_, hs, by first | (simp; done) | exact fun e he => List.mem_append_right _ he⟩ (Z.Yd.off (v := undef) 36 true rfl (by first | (simp; done) | (simp_all; done)) (by intro c h; cases h)) ?_
                  refine Z.t 12 rfl rfl rfl (by rfl) (by kernel_rfl) ⟨_, hs, by first | (simp; done) | exact fun e he => List.mem_append_right _ he⟩ (Z.Yd.off (v := undef) 36 true rfl (by first | (simp; done) | (simp_all; done)) (by intro c h; cases h)) ?_
                  refine Z.yes (s := 30) (b := true) rfl rfl rfl ?_
                  refine Z.yes (s := 36) (b := false) rfl rfl rfl ?_
                  refine Z.tnS 36 true 11 rfl rfl (by kernel_rfl) rfl rfl (by simp) rfl (by rfl) (fun _ => ⟨_, hs, by first | (simp; done) | exact fun e he => List.mem_append_right _ he⟩) ?_
                  refine Z.tnS 36 true 13 rfl rfl (by kernel_rfl) rfl rfl (by simp) rfl (by rfl) (fun _ => ⟨_, hs, by first | (simp; done) | exact fun e he => List.mem_append_right _ he⟩) ?_
                  refine Z.t 14 rfl rfl rfl (by rfl) (by kernel_rfl) ⟨_, hs, by first | (simp; done) | exact fun e he => List.mem_append_right _ he⟩ (Z.Yd.off (v := undef) 36 true rfl (by first | (simp; done) | (simp_all; done)) (by intro c h; cases h)) ?_
                  refine Z.yes (s := 30) (b := true) rfl rfl rfl ?_
                  refine Z.yes (s := 36) (b := false) rfl rfl rfl ?_
                  refine Z.t 15 rfl rfl rfl (by rfl) (by kernel_rfl) ⟨_, hs, by first | (simp; done) | exact fun e he => List.mem_append_right _ he⟩ (Z.Yd.pickF rfl rfl) ?_
                  refine Z.tb [16] (by kernel_rfl) rfl ⟨_, hs, by first | (simp; done) | exact fun e he => List.mem_append_right _ he⟩ rfl ?_
                  refine Z.split (s := 43) rfl (fun hsp43 => ?_) (fun hsp43 => ?_)
                  · first
                      | (exfalso; simp at hsp43 <;> omega)
                      | (
                        refine Z.yes (s := 43) (b := true) rfl hsp43 rfl ?_
                        (try simp at hsp43)
                        refine Z.yes (s := 30) (b := true) rfl rfl rfl ?_
                        refine Z.yes (s := 36) (b := false) rfl rfl rfl ?_
                        refine Z.t 17 rfl rfl rfl (by rfl) (by kernel_rfl) ⟨_, hs, by first | (simp; done) | exact fun e he => List.mem_append_right _ he⟩ (by first | exact Z.Yd.loadA _ rfl Try.isAgg24 (fun _ => Z.cellsB (by first | ((repeat (first | exact List.mem_cons_self | refine List.mem_cons_of_mem _ ?_ | refine List.mem_append_right _ ?_)); done) | fail)) (by exact Try.sizeOf24) | fail "load 8.17") ?_
                        refine Z.tb [19] (by kernel_rfl) rfl ⟨_, hs, by first | (simp; done) | exact fun e he => List.mem_append_right _ he⟩ rfl ?_
                        refine Z.yes (s := 30) (b := true) rfl rfl rfl ?_
                        refine Z.yes (s := 36) (b := false) rfl rfl rfl ?_
                        refine Z.yes (s := 43) (b := true) rfl rfl rfl ?_
                        refine Z.tn 18 rfl rfl (by kernel_rfl) rfl (by exact ⟨rfl, trivial⟩) ?_
                        refine Z.ZO.call rfl rfl (by rfl) rfl rfl Try.call16 rfl (Size_any ack A n c l _ (hx.st (hs.sub (List.nil_sublist _))) hl (by omega)) ?_
                        rintro v8_18 w8_18 ⟨rfl, hy⟩
                        replace hs := hs.call hy
                        clear hy
                        try simp only [List.cons_append, List.nil_append, List.append_nil] at hs
                        refine Z.tk (Dn := fun _ => true) (i := 18) (fun _ => ⟨_, hs, by first | (simp; done) | exact fun e he => List.mem_append_right _ he⟩) ?_
                        refine Z.tb [20] (by kernel_rfl) rfl ⟨_, hs, by first | (simp; done) | exact fun e he => List.mem_append_right _ he⟩ rfl ?_
                        refine Z.yes (s := 30) (b := true) rfl rfl rfl ?_
                        refine Z.yes (s := 36) (b := false) rfl rfl rfl ?_
                        refine Z.yes (s := 43) (b := true) rfl rfl rfl ?_
                        refine Z.t 21 rfl rfl rfl (by rfl) (by kernel_rfl) ⟨_, hs, by first | (simp; done) | exact fun e he => List.mem_append_right _ he⟩ (Z.Yd.pickT rfl rfl) ?_
                        refine Z.tb [22] (by kernel_rfl) rfl ⟨_, hs, by first | (simp; done) | exact fun e he => List.mem_append_right _ he⟩ rfl ?_
                        refine Z.split (s := 49) rfl (fun hsp49 => ?_) (fun hsp49 => ?_)
                        · first
                            | (exfalso; simp at hsp49 <;> omega)
                            | (
                              refine Z.yes (s := 49) (b := true) rfl hsp49 rfl ?_
                              (try simp at hsp49)
                              refine Z.yes (s := 30) (b := true) rfl rfl rfl ?_
                              refine Z.yes (s := 36) (b := false) rfl rfl rfl ?_
                              refine Z.yes (s := 43) (b := true) rfl rfl rfl ?_
                              refine Z.tn 23 rfl rfl (by kernel_rfl) rfl (by exact ⟨rfl, trivial⟩) ?_
                              refine Z.ZO.call rfl rfl (by rfl) rfl rfl Try.call9 rfl (works34 _) ?_
                              rintro v8_23 w8_23 ⟨rfl, hy⟩
                              replace hs := hs.call hy
                              clear hy
                              try simp only [List.cons_append, List.nil_append, List.append_nil] at hs
                              refine Z.tk (Dn := fun _ => true) (i := 23) (fun _ => ⟨_, hs, by first | (simp; done) | exact fun e he => List.mem_append_right _ he⟩) ?_
                              refine Z.t 24 rfl rfl rfl (by rfl) (by kernel_rfl) ⟨_, hs, by first | (simp; done) | exact fun e he => List.mem_append_right _ he⟩ (Z.Yd.pickT rfl rfl) ?_
                              refine Z.tb [25] (by kernel_rfl) rfl ⟨_, hs, by first | (simp; done) | exact fun e he => List.mem_append_right _ he⟩ rfl ?_
                              refine Z.td (by rfl) (by kernel_rfl) ?_
                              refine Z.only [2] rfl ?_
                              refine Z.nthen ?_
                              refine Z.ret ?_
                              -- ret#4
                              refine Z.out1 (by exact ⟨rfl, trivial⟩) ?_
                              first | exact ⟨_, rfl, rfl, hs⟩ | exact ⟨_, rfl, rfl, hs.sub (List.nil_sublist _)⟩
                              )
                        · first
                            | (exfalso; simp at hsp49 <;> omega)
                            | (
                              refine Z.yes (s := 49) (b := false) rfl hsp49 rfl ?_
                              (try simp at hsp49)
                              refine Z.yes (s := 30) (b := true) rfl rfl rfl ?_
                              refine Z.yes (s := 36) (b := false) rfl rfl rfl ?_
                              refine Z.yes (s := 43) (b := true) rfl rfl rfl ?_
                              refine Z.tnS 49 true 23 rfl rfl (by kernel_rfl) rfl rfl (by simp) rfl (by rfl) (fun _ => ⟨_, hs, by first | (simp; done) | exact fun e he => List.mem_append_right _ he⟩) ?_
                              refine Z.t 24 rfl rfl rfl (by rfl) (by kernel_rfl) ⟨_, hs, by first | (simp; done) | exact fun e he => List.mem_append_right _ he⟩ (Z.Yd.pickF rfl rfl) ?_
                              refine Z.tb [25] (by kernel_rfl) rfl ⟨_, hs, by first | (simp; done) | exact fun e he => List.mem_append_right _ he⟩ rfl ?_
                              refine Z.td (by rfl) (by kernel_rfl) ?_
                              refine Z.only [2] rfl ?_
                              refine Z.nthen ?_
                              refine Z.ret ?_
                              -- ret#5
                              refine Z.out1 (by exact ⟨rfl, trivial⟩) ?_
                              first | exact ⟨_, rfl, rfl, hs⟩ | exact ⟨_, rfl, rfl, hs.sub (List.nil_sublist _)⟩
                              )
                        )
                  · first
                      | (exfalso; simp at hsp43 <;> omega)
                      | (
                        refine Z.yes (s := 43) (b := false) rfl hsp43 rfl ?_
                        (try simp at hsp43)
                        refine Z.yes (s := 30) (b := true) rfl rfl rfl ?_
                        refine Z.yes (s := 36) (b := false) rfl rfl rfl ?_
                        refine Z.t 17 rfl rfl rfl (by rfl) (by kernel_rfl) ⟨_, hs, by first | (simp; done) | exact fun e he => List.mem_append_right _ he⟩ (Z.Yd.off (v := undef) 43 true rfl (by first | (simp; done) | (simp_all; done)) (by intro c h; cases h)) ?_
                        refine Z.t 19 rfl rfl rfl (by rfl) (by kernel_rfl) ⟨_, hs, by first | (simp; done) | exact fun e he => List.mem_append_right _ he⟩ (Z.Yd.off (v := undef) 43 true rfl (by first | (simp; done) | (simp_all; done)) (by intro c h; cases h)) ?_
                        refine Z.yes (s := 30) (b := true) rfl rfl rfl ?_
                        refine Z.yes (s := 36) (b := false) rfl rfl rfl ?_
                        refine Z.yes (s := 43) (b := false) rfl rfl rfl ?_
                        refine Z.tnS 43 true 18 rfl rfl (by kernel_rfl) rfl rfl (by simp) rfl (by rfl) (fun _ => ⟨_, hs, by first | (simp; done) | exact fun e he => List.mem_append_right _ he⟩) ?_
                        refine Z.t 20 rfl rfl rfl (by rfl) (by kernel_rfl) ⟨_, hs, by first | (simp; done) | exact fun e he => List.mem_append_right _ he⟩ (Z.Yd.off (v := undef) 43 true rfl (by first | (simp; done) | (simp_all; done)) (by intro c h; cases h)) ?_
                        refine Z.yes (s := 30) (b := true) rfl rfl rfl ?_
                        refine Z.yes (s := 36) (b := false) rfl rfl rfl ?_
                        refine Z.yes (s := 43) (b := false) rfl rfl rfl ?_
                        refine Z.t 21 rfl rfl rfl (by rfl) (by kernel_rfl) ⟨_, hs, by first | (simp; done) | exact fun e he => List.mem_append_right _ he⟩ (Z.Yd.pickF rfl rfl) ?_
                        refine Z.tb [22] (by kernel_rfl) rfl ⟨_, hs, by first | (simp; done) | exact fun e he => List.mem_append_right _ he⟩ rfl ?_
                        refine Z.split (s := 49) rfl (fun hsp49 => ?_) (fun hsp49 => ?_)
                        · first
                            | (exfalso; simp at hsp49 <;> omega)
                            | (
                              refine Z.yes (s := 49) (b := true) rfl hsp49 rfl ?_
                              (try simp at hsp49)
                              refine Z.yes (s := 30) (b := true) rfl rfl rfl ?_
                              refine Z.yes (s := 36) (b := false) rfl rfl rfl ?_
                              refine Z.yes (s := 43) (b := false) rfl rfl rfl ?_
                              refine Z.tn 23 rfl rfl (by kernel_rfl) rfl (by exact ⟨rfl, trivial⟩) ?_
                              refine Z.ZO.call rfl rfl (by rfl) rfl rfl Try.call9 rfl (works34 _) ?_
                              rintro v8_23 w8_23 ⟨rfl, hy⟩
                              replace hs := hs.call hy
                              clear hy
                              try simp only [List.cons_append, List.nil_append, List.append_nil] at hs
                              refine Z.tk (Dn := fun _ => true) (i := 23) (fun _ => ⟨_, hs, by first | (simp; done) | exact fun e he => List.mem_append_right _ he⟩) ?_
                              refine Z.t 24 rfl rfl rfl (by rfl) (by kernel_rfl) ⟨_, hs, by first | (simp; done) | exact fun e he => List.mem_append_right _ he⟩ (Z.Yd.pickT rfl rfl) ?_
                              refine Z.tb [25] (by kernel_rfl) rfl ⟨_, hs, by first | (simp; done) | exact fun e he => List.mem_append_right _ he⟩ rfl ?_
                              refine Z.td (by rfl) (by kernel_rfl) ?_
                              refine Z.only [2] rfl ?_
                              refine Z.nthen ?_
                              refine Z.ret ?_
                              -- ret#6
                              refine Z.out1 (by exact ⟨rfl, trivial⟩) ?_
                              first | exact ⟨_, rfl, rfl, hs⟩ | exact ⟨_, rfl, rfl, hs.sub (List.nil_sublist _)⟩
                              )
                        · first
                            | (exfalso; simp at hsp49 <;> omega)
                            | (
                              refine Z.yes (s := 49) (b := false) rfl hsp49 rfl ?_
                              (try simp at hsp49)
                              refine Z.yes (s := 30) (b := true) rfl rfl rfl ?_
                              refine Z.yes (s := 36) (b := false) rfl rfl rfl ?_
                              refine Z.yes (s := 43) (b := false) rfl rfl rfl ?_
                              refine Z.tnS 49 true 23 rfl rfl (by kernel_rfl) rfl rfl (by simp) rfl (by rfl) (fun _ => ⟨_, hs, by first | (simp; done) | exact fun e he => List.mem_append_right _ he⟩) ?_
                              refine Z.t 24 rfl rfl rfl (by rfl) (by kernel_rfl) ⟨_, hs, by first | (simp; done) | exact fun e he => List.mem_append_right _ he⟩ (Z.Yd.pickF rfl rfl) ?_
                              refine Z.tb [25] (by kernel_rfl) rfl ⟨_, hs, by first | (simp; done) | exact fun e he => List.mem_append_right _ he⟩ rfl ?_
                              refine Z.td (by rfl) (by kernel_rfl) ?_
                              refine Z.only [2] rfl ?_
                              refine Z.nthen ?_
                              refine Z.ret ?_
                              -- ret#7
                              refine Z.out1 (by exact ⟨rfl, trivial⟩) ?_
                              first | exact ⟨_, rfl, rfl, hs⟩ | exact ⟨_, rfl, rfl, hs.sub (List.nil_sublist _)⟩
                              )
                        )
                  )
            )
      · first
          | (exfalso; simp at hsp30 <;> omega)
          | (
            refine Z.yes (s := 30) (b := false) rfl hsp30 rfl ?_
            (try simp at hsp30)
            refine Z.t 4 rfl rfl rfl (by rfl) (by kernel_rfl) ⟨_, hs, by first | (simp; done) | exact fun e he => List.mem_append_right _ he⟩ (Z.Yd.off (v := undef) 30 true rfl (by first | (simp; done) | (simp_all; done)) (by intro c h; cases h)) ?_
            refine Z.t 6 rfl rfl rfl (by rfl) (by kernel_rfl) ⟨_, hs, by first | (simp; done) | exact fun e he => List.mem_append_right _ he⟩ (Z.Yd.off (v := undef) 30 true rfl (by first | (simp; done) | (simp_all; done)) (by intro c h; cases h)) ?_
            refine Z.yes (s := 30) (b := false) rfl rfl rfl ?_
            refine Z.tnS 30 true 5 rfl rfl (by kernel_rfl) rfl rfl (by simp) rfl (by rfl) (fun _ => ⟨_, hs, by first | (simp; done) | exact fun e he => List.mem_append_right _ he⟩) ?_
            refine Z.t 7 rfl rfl rfl (by rfl) (by kernel_rfl) ⟨_, hs, by first | (simp; done) | exact fun e he => List.mem_append_right _ he⟩ (Z.Yd.off (v := undef) 30 true rfl (by first | (simp; done) | (simp_all; done)) (by intro c h; cases h)) ?_
            refine Z.yes (s := 30) (b := false) rfl rfl rfl ?_
            refine Z.t 8 rfl rfl rfl (by rfl) (by kernel_rfl) ⟨_, hs, by first | (simp; done) | exact fun e he => List.mem_append_right _ he⟩ (Z.Yd.pickF rfl rfl) ?_
            refine Z.tb [9] (by kernel_rfl) rfl ⟨_, hs, by first | (simp; done) | exact fun e he => List.mem_append_right _ he⟩ rfl ?_
            refine Z.split (s := 36) rfl (fun hsp36 => ?_) (fun hsp36 => ?_)
            · first
                | (exfalso; simp at hsp36 <;> omega)
                | (
                  refine Z.yes (s := 36) (b := true) rfl hsp36 rfl ?_
                  (try simp at hsp36)
                  refine Z.yes (s := 30) (b := false) rfl rfl rfl ?_
                  refine Z.t 10 rfl rfl rfl (by rfl) (by kernel_rfl) ⟨_, hs, by first | (simp; done) | exact fun e he => List.mem_append_right _ he⟩ (by first | exact Z.Yd.loadA _ rfl Try.isAgg24 (fun _ => Z.cellsB (by first | ((repeat (first | exact List.mem_cons_self | refine List.mem_cons_of_mem _ ?_ | refine List.mem_append_right _ ?_)); done) | fail)) (by exact Try.sizeOf24) | fail "load 8.10") ?_
                  refine Z.t 12 rfl rfl rfl (by rfl) (by kernel_rfl) ⟨_, hs, by first | (simp; done) | exact fun e he => List.mem_append_right _ he⟩ (by first | exact Z.Yd.loadA _ rfl Try.isAgg24 (fun _ => Z.cellsB (by first | ((repeat (first | exact List.mem_cons_self | refine List.mem_cons_of_mem _ ?_ | refine List.mem_append_right _ ?_)); done) | fail)) (by exact Try.sizeOf24) | fail "load 8.12") ?_
                  refine Z.yes (s := 30) (b := false) rfl rfl rfl ?_
                  refine Z.yes (s := 36) (b := true) rfl rfl rfl ?_
                  refine Z.tn 11 rfl rfl (by kernel_rfl) rfl (by exact ⟨rfl, trivial⟩) ?_
                  refine Z.ZO.call rfl rfl (by rfl) rfl rfl Try.call14 rfl (svalid_any ack A n c l _ (hx.st (hs.sub (List.nil_sublist _))) hl (by omega)) ?_
                  rintro v8_11 w8_11 ⟨rfl, hy⟩
                  replace hs := hs.call hy
                  clear hy
                  try simp only [List.cons_append, List.nil_append, List.append_nil] at hs
                  refine Z.tk (Dn := fun _ => true) (i := 11) (fun _ => ⟨_, hs, by first | (simp; done) | exact fun e he => List.mem_append_right _ he⟩) ?_
                  refine Z.tn 13 rfl rfl (by kernel_rfl) rfl (by exact ⟨rfl, trivial⟩) ?_
                  refine Z.ZO.call rfl rfl (by rfl) rfl rfl Try.call15 rfl (rsvalid_any ack A n c l _ (hx.st (hs.sub (List.nil_sublist _))) hl (by omega)) ?_
                  rintro v8_13 w8_13 ⟨rfl, hy⟩
                  replace hs := hs.call hy
                  clear hy
                  try simp only [List.cons_append, List.nil_append, List.append_nil] at hs
                  refine Z.tk (Dn := fun _ => true) (i := 13) (fun _ => ⟨_, hs, by first | (simp; done) | exact fun e he => List.mem_append_right _ he⟩) ?_
                  refine Z.t 14 rfl rfl rfl (by rfl) (by kernel_rfl) ⟨_, hs, by first | (simp; done) | exact fun e he => List.mem_append_right _ he⟩ (Z.Yd.bin rfl rfl (by intro _ w; go_simp; try rfl)) ?_
                  refine Z.yes (s := 30) (b := false) rfl rfl rfl ?_
                  refine Z.yes (s := 36) (b := true) rfl rfl rfl ?_
                  refine Z.t 15 rfl rfl rfl (by rfl) (by kernel_rfl) ⟨_, hs, by first | (simp; done) | exact fun e he => List.mem_append_right _ he⟩ (Z.Yd.pickT rfl rfl) ?_
                  refine Z.tb [16] (by kernel_rfl) rfl ⟨_, hs, by first | (simp; done) | exact fun e he => List.mem_append_right _ he⟩ rfl ?_
                  refine Z.split (s := 43) rfl (fun hsp43 => ?_) (fun hsp43 => ?_)
                  · first
                      | (exfalso; simp at hsp43 <;> omega)
                      | (
                        refine Z.yes (s := 43) (b := true) rfl hsp43 rfl ?_
                        (try simp at hsp43)
                        refine Z.yes (s := 30) (b := false) rfl rfl rfl ?_
                        refine Z.yes (s := 36) (b := true) rfl rfl rfl ?_
                        refine Z.t 17 rfl rfl rfl (by rfl) (by kernel_rfl) ⟨_, hs, by first | (simp; done) | exact fun e he => List.mem_append_right _ he⟩ (by first | exact Z.Yd.loadA _ rfl Try.isAgg24 (fun _ => Z.cellsB (by first | ((repeat (first | exact List.mem_cons_self | refine List.mem_cons_of_mem _ ?_ | refine List.mem_append_right _ ?_)); done) | fail)) (by exact Try.sizeOf24) | fail "load 8.17") ?_
                        refine Z.tb [19] (by kernel_rfl) rfl ⟨_, hs, by first | (simp; done) | exact fun e he => List.mem_append_right _ he⟩ rfl ?_
                        refine Z.yes (s := 30) (b := false) rfl rfl rfl ?_
                        refine Z.yes (s := 36) (b := true) rfl rfl rfl ?_
                        refine Z.yes (s := 43) (b := true) rfl rfl rfl ?_
                        refine Z.tn 18 rfl rfl (by kernel_rfl) rfl (by exact ⟨rfl, trivial⟩) ?_
                        refine Z.ZO.call rfl rfl (by rfl) rfl rfl Try.call16 rfl (Size_any ack A n c l _ (hx.st (hs.sub (List.nil_sublist _))) hl (by omega)) ?_
                        rintro v8_18 w8_18 ⟨rfl, hy⟩
                        replace hs := hs.call hy
                        clear hy
                        try simp only [List.cons_append, List.nil_append, List.append_nil] at hs
                        refine Z.tk (Dn := fun _ => true) (i := 18) (fun _ => ⟨_, hs, by first | (simp; done) | exact fun e he => List.mem_append_right _ he⟩) ?_
                        refine Z.tb [20] (by kernel_rfl) rfl ⟨_, hs, by first | (simp; done) | exact fun e he => List.mem_append_right _ he⟩ rfl ?_
                        refine Z.yes (s := 30) (b := false) rfl rfl rfl ?_
                        refine Z.yes (s := 36) (b := true) rfl rfl rfl ?_
                        refine Z.yes (s := 43) (b := true) rfl rfl rfl ?_
                        refine Z.t 21 rfl rfl rfl (by rfl) (by kernel_rfl) ⟨_, hs, by first | (simp; done) | exact fun e he => List.mem_append_right _ he⟩ (Z.Yd.pickT rfl rfl) ?_
                        refine Z.tb [22] (by kernel_rfl) rfl ⟨_, hs, by first | (simp; done) | exact fun e he => List.mem_append_right _ he⟩ rfl ?_
                        refine Z.split (s := 49) rfl (fun hsp49 => ?_) (fun hsp49 => ?_)
                        · first
                            | (exfalso; simp at hsp49 <;> omega)
                            | (
                              refine Z.yes (s := 49) (b := true) rfl hsp49 rfl ?_
                              (try simp at hsp49)
                              refine Z.yes (s := 30) (b := false) rfl rfl rfl ?_
                              refine Z.yes (s := 36) (b := true) rfl rfl rfl ?_
                              refine Z.yes (s := 43) (b := true) rfl rfl rfl ?_
                              refine Z.tn 23 rfl rfl (by kernel_rfl) rfl (by exact ⟨rfl, trivial⟩) ?_
                              refine Z.ZO.call rfl rfl (by rfl) rfl rfl Try.call9 rfl (works34 _) ?_
                              rintro v8_23 w8_23 ⟨rfl, hy⟩
                              replace hs := hs.call hy
                              clear hy
                              try simp only [List.cons_append, List.nil_append, List.append_nil] at hs
                              refine Z.tk (Dn := fun _ => true) (i := 23) (fun _ => ⟨_, hs, by first | (simp; done) | exact fun e he => List.mem_append_right _ he⟩) ?_
                              refine Z.t 24 rfl rfl rfl (by rfl) (by kernel_rfl) ⟨_, hs, by first | (simp; done) | exact fun e he => List.mem_append_right _ he⟩ (Z.Yd.pickT rfl rfl) ?_
                              refine Z.tb [25] (by kernel_rfl) rfl ⟨_, hs, by first | (simp; done) | exact fun e he => List.mem_append_right _ he⟩ rfl ?_
                              refine Z.td (by rfl) (by kernel_rfl) ?_
                              refine Z.only [2] rfl ?_
                              refine Z.nthen ?_
                              refine Z.ret ?_
                              -- ret#8
                              refine Z.out1 (by exact ⟨rfl, trivial⟩) ?_
                              first | exact ⟨_, rfl, rfl, hs⟩ | exact ⟨_, rfl, rfl, hs.sub (List.nil_sublist _)⟩
                              )
                        · first
                            | (exfalso; simp at hsp49 <;> omega)
                            | (
                              refine Z.yes (s := 49) (b := false) rfl hsp49 rfl ?_
                              (try simp at hsp49)
                              refine Z.yes (s := 30) (b := false) rfl rfl rfl ?_
                              refine Z.yes (s := 36) (b := true) rfl rfl rfl ?_
                              refine Z.yes (s := 43) (b := true) rfl rfl rfl ?_
                              refine Z.tnS 49 true 23 rfl rfl (by kernel_rfl) rfl rfl (by simp) rfl (by rfl) (fun _ => ⟨_, hs, by first | (simp; done) | exact fun e he => List.mem_append_right _ he⟩) ?_
                              refine Z.t 24 rfl rfl rfl (by rfl) (by kernel_rfl) ⟨_, hs, by first | (simp; done) | exact fun e he => List.mem_append_right _ he⟩ (Z.Yd.pickF rfl rfl) ?_
                              refine Z.tb [25] (by kernel_rfl) rfl ⟨_, hs, by first | (simp; done) | exact fun e he => List.mem_append_right _ he⟩ rfl ?_
                              refine Z.td (by rfl) (by kernel_rfl) ?_
                              refine Z.only [2] rfl ?_
                              refine Z.nthen ?_
                              refine Z.ret ?_
                              -- ret#9
                              refine Z.out1 (by exact ⟨rfl, trivial⟩) ?_
                              first | exact ⟨_, rfl, rfl, hs⟩ | exact ⟨_, rfl, rfl, hs.sub (List.nil_sublist _)⟩
                              )
                        )
                  · first
                      | (exfalso; simp at hsp43 <;> omega)
                      | (
                        refine Z.yes (s := 43) (b := false) rfl hsp43 rfl ?_
                        (try simp at hsp43)
                        refine Z.yes (s := 30) (b := false) rfl rfl rfl ?_
                        refine Z.yes (s := 36) (b := true) rfl rfl rfl ?_
                        refine Z.t 17 rfl rfl rfl (by rfl) (by kernel_rfl) ⟨_, hs, by first | (simp; done) | exact fun e he => List.mem_append_right _ he⟩ (Z.Yd.off (v := undef) 43 true rfl (by first | (simp; done) | (simp_all; done)) (by intro c h; cases h)) ?_
                        refine Z.t 19 rfl rfl rfl (by rfl) (by kernel_rfl) ⟨_, hs, by first | (simp; done) | exact fun e he => List.mem_append_right _ he⟩ (Z.Yd.off (v := undef) 43 true rfl (by first | (simp; done) | (simp_all; done)) (by intro c h; cases h)) ?_
                        refine Z.yes (s := 30) (b := false) rfl rfl rfl ?_
                        refine Z.yes (s := 36) (b := true) rfl rfl rfl ?_
                        refine Z.yes (s := 43) (b := false) rfl rfl rfl ?_
                        refine Z.tnS 43 true 18 rfl rfl (by kernel_rfl) rfl rfl (by simp) rfl (by rfl) (fun _ => ⟨_, hs, by first | (simp; done) | exact fun e he => List.mem_append_right _ he⟩) ?_
                        refine Z.t 20 rfl rfl rfl (by rfl) (by kernel_rfl) ⟨_, hs, by first | (simp; done) | exact fun e he => List.mem_append_right _ he⟩ (Z.Yd.off (v := undef) 43 true rfl (by first | (simp; done) | (simp_all; done)) (by intro c h; cases h)) ?_
                        refine Z.yes (s := 30) (b := false) rfl rfl rfl ?_
                        refine Z.yes (s := 36) (b := true) rfl rfl rfl ?_
                        refine Z.yes (s := 43) (b := false) rfl rfl rfl ?_
                        refine Z.t 21 rfl rfl rfl (by rfl) (by kernel_rfl) ⟨_, hs, by first | (simp; done) | exact fun e he => List.mem_append_right _ he⟩ (Z.Yd.pickF rfl rfl) ?_
                        refine Z.tb [22] (by kernel_rfl) rfl ⟨_, hs, by first | (simp; done) | exact fun e he => List.mem_append_right _ he⟩ rfl ?_
                        refine Z.split (s := 49) rfl (fun hsp49 => ?_) (fun hsp49 => ?_)
                        · first
                            | (exfalso; simp at hsp49 <;> omega)
                            | (
                              refine Z.yes (s := 49) (b := true) rfl hsp49 rfl ?_
                              (try simp at hsp49)
                              refine Z.yes (s := 30) (b := false) rfl rfl rfl ?_
                              refine Z.yes (s := 36) (b := true) rfl rfl rfl ?_
                              refine Z.yes (s := 43) (b := false) rfl rfl rfl ?_
                              refine Z.tn 23 rfl rfl (by kernel_rfl) rfl (by exact ⟨rfl, trivial⟩) ?_
                              refine Z.ZO.call rfl rfl (by rfl) rfl rfl Try.call9 rfl (works34 _) ?_
                              rintro v8_23 w8_23 ⟨rfl, hy⟩
                              replace hs := hs.call hy
                              clear hy
                              try simp only [List.cons_append, List.nil_append, List.append_nil] at hs
                              refine Z.tk (Dn := fun _ => true) (i := 23) (fun _ => ⟨_, hs, by first | (simp; done) | exact fun e he => List.mem_append_right _ he⟩) ?_
                              refine Z.t 24 rfl rfl rfl (by rfl) (by kernel_rfl) ⟨_, hs, by first | (simp; done) | exact fun e he => List.mem_append_right _ he⟩ (Z.Yd.pickT rfl rfl) ?_
                              refine Z.tb [25] (by kernel_rfl) rfl ⟨_, hs, by first | (simp; done) | exact fun e he => List.mem_append_right _ he⟩ rfl ?_
                              refine Z.td (by rfl) (by kernel_rfl) ?_
                              refine Z.only [2] rfl ?_
                              refine Z.nthen ?_
                              refine Z.ret ?_
                              -- ret#10
                              refine Z.out1 (by exact ⟨rfl, trivial⟩) ?_
                              first | exact ⟨_, rfl, rfl, hs⟩ | exact ⟨_, rfl, rfl, hs.sub (List.nil_sublist _)⟩
                              )
                        · first
                            | (exfalso; simp at hsp49 <;> omega)
                            | (
                              refine Z.yes (s := 49) (b := false) rfl hsp49 rfl ?_
                              (try simp at hsp49)
                              refine Z.yes (s := 30) (b := false) rfl rfl rfl ?_
                              refine Z.yes (s := 36) (b := true) rfl rfl rfl ?_
                              refine Z.yes (s := 43) (b := false) rfl rfl rfl ?_
                              refine Z.tnS 49 true 23 rfl rfl (by kernel_rfl) rfl rfl (by simp) rfl (by rfl) (fun _ => ⟨_, hs, by first | (simp; done) | exact fun e he => List.mem_append_right _ he⟩) ?_
                              refine Z.t 24 rfl rfl rfl (by rfl) (by kernel_rfl) ⟨_, hs, by first | (simp; done) | exact fun e he => List.mem_append_right _ he⟩ (Z.Yd.pickF rfl rfl) ?_
                              refine Z.tb [25] (by kernel_rfl) rfl ⟨_, hs, by first | (simp; done) | exact fun e he => List.mem_append_right _ he⟩ rfl ?_
                              refine Z.td (by rfl) (by kernel_rfl) ?_
                              refine Z.only [2] rfl ?_
                              refine Z.nthen ?_
                              refine Z.ret ?_
                              -- ret#11
                              refine Z.out1 (by exact ⟨rfl, trivial⟩) ?_
                              first | exact ⟨_, rfl, rfl, hs⟩ | exact ⟨_, rfl, rfl, hs.sub (List.nil_sublist _)⟩
                              )
                        )
                  )
            · first
                | (exfalso; simp at hsp36 <;> omega)
                | (
                  refine Z.yes (s := 36) (b := false) rfl hsp36 rfl ?_
                  (try simp at hsp36)
                  refine Z.yes (s := 30) (b := false) rfl rfl rfl ?_
                  refine Z.t 10 rfl rfl rfl (by rfl) (by kernel_rfl) ⟨_, hs, by first | (simp; done) | exact fun e he => List.mem_append_right _ he⟩ (Z.Yd.off (v := undef) 36 true rfl (by first | (simp; done) | (simp_all; done)) (by intro c h; cases h)) ?_
                  refine Z.t 12 rfl rfl rfl (by rfl) (by kernel_rfl) ⟨_, hs, by first | (simp; done) | exact fun e he => List.mem_append_right _ he⟩ (Z.Yd.off (v := undef) 36 true rfl (by first | (simp; done) | (simp_all; done)) (by intro c h; cases h)) ?_
                  refine Z.yes (s := 30) (b := false) rfl rfl rfl ?_
                  refine Z.yes (s := 36) (b := false) rfl rfl rfl ?_
                  refine Z.tnS 36 true 11 rfl rfl (by kernel_rfl) rfl rfl (by simp) rfl (by rfl) (fun _ => ⟨_, hs, by first | (simp; done) | exact fun e he => List.mem_append_right _ he⟩) ?_
                  refine Z.tnS 36 true 13 rfl rfl (by kernel_rfl) rfl rfl (by simp) rfl (by rfl) (fun _ => ⟨_, hs, by first | (simp; done) | exact fun e he => List.mem_append_right _ he⟩) ?_
                  refine Z.t 14 rfl rfl rfl (by rfl) (by kernel_rfl) ⟨_, hs, by first | (simp; done) | exact fun e he => List.mem_append_right _ he⟩ (Z.Yd.off (v := undef) 36 true rfl (by first | (simp; done) | (simp_all; done)) (by intro c h; cases h)) ?_
                  refine Z.yes (s := 30) (b := false) rfl rfl rfl ?_
                  refine Z.yes (s := 36) (b := false) rfl rfl rfl ?_
                  refine Z.t 15 rfl rfl rfl (by rfl) (by kernel_rfl) ⟨_, hs, by first | (simp; done) | exact fun e he => List.mem_append_right _ he⟩ (Z.Yd.pickF rfl rfl) ?_
                  refine Z.tb [16] (by kernel_rfl) rfl ⟨_, hs, by first | (simp; done) | exact fun e he => List.mem_append_right _ he⟩ rfl ?_
                  refine Z.split (s := 43) rfl (fun hsp43 => ?_) (fun hsp43 => ?_)
                  · first
                      | (exfalso; simp at hsp43 <;> omega)
                      | (
                        refine Z.yes (s := 43) (b := true) rfl hsp43 rfl ?_
                        (try simp at hsp43)
                        refine Z.yes (s := 30) (b := false) rfl rfl rfl ?_
                        refine Z.yes (s := 36) (b := false) rfl rfl rfl ?_
                        refine Z.t 17 rfl rfl rfl (by rfl) (by kernel_rfl) ⟨_, hs, by first | (simp; done) | exact fun e he => List.mem_append_right _ he⟩ (by first | exact Z.Yd.loadA _ rfl Try.isAgg24 (fun _ => Z.cellsB (by first | ((repeat (first | exact List.mem_cons_self | refine List.mem_cons_of_mem _ ?_ | refine List.mem_append_right _ ?_)); done) | fail)) (by exact Try.sizeOf24) | fail "load 8.17") ?_
                        refine Z.tb [19] (by kernel_rfl) rfl ⟨_, hs, by first | (simp; done) | exact fun e he => List.mem_append_right _ he⟩ rfl ?_
                        refine Z.yes (s := 30) (b := false) rfl rfl rfl ?_
                        refine Z.yes (s := 36) (b := false) rfl rfl rfl ?_
                        refine Z.yes (s := 43) (b := true) rfl rfl rfl ?_
                        refine Z.tn 18 rfl rfl (by kernel_rfl) rfl (by exact ⟨rfl, trivial⟩) ?_
                        refine Z.ZO.call rfl rfl (by rfl) rfl rfl Try.call16 rfl (Size_any ack A n c l _ (hx.st (hs.sub (List.nil_sublist _))) hl (by omega)) ?_
                        rintro v8_18 w8_18 ⟨rfl, hy⟩
                        replace hs := hs.call hy
                        clear hy
                        try simp only [List.cons_append, List.nil_append, List.append_nil] at hs
                        refine Z.tk (Dn := fun _ => true) (i := 18) (fun _ => ⟨_, hs, by first | (simp; done) | exact fun e he => List.mem_append_right _ he⟩) ?_
                        refine Z.tb [20] (by kernel_rfl) rfl ⟨_, hs, by first | (simp; done) | exact fun e he => List.mem_append_right _ he⟩ rfl ?_
                        refine Z.yes (s := 30) (b := false) rfl rfl rfl ?_
                        refine Z.yes (s := 36) (b := false) rfl rfl rfl ?_
                        refine Z.yes (s := 43) (b := true) rfl rfl rfl ?_
                        refine Z.t 21 rfl rfl rfl (by rfl) (by kernel_rfl) ⟨_, hs, by first | (simp; done) | exact fun e he => List.mem_append_right _ he⟩ (Z.Yd.pickT rfl rfl) ?_
                        refine Z.tb [22] (by kernel_rfl) rfl ⟨_, hs, by first | (simp; done) | exact fun e he => List.mem_append_right _ he⟩ rfl ?_
                        refine Z.split (s := 49) rfl (fun hsp49 => ?_) (fun hsp49 => ?_)
                        · first
                            | (exfalso; simp at hsp49 <;> omega)
                            | (
                              refine Z.yes (s := 49) (b := true) rfl hsp49 rfl ?_
                              (try simp at hsp49)
                              refine Z.yes (s := 30) (b := false) rfl rfl rfl ?_
                              refine Z.yes (s := 36) (b := false) rfl rfl rfl ?_
                              refine Z.yes (s := 43) (b := true) rfl rfl rfl ?_
                              refine Z.tn 23 rfl rfl (by kernel_rfl) rfl (by exact ⟨rfl, trivial⟩) ?_
                              refine Z.ZO.call rfl rfl (by rfl) rfl rfl Try.call9 rfl (works34 _) ?_
                              rintro v8_23 w8_23 ⟨rfl, hy⟩
                              replace hs := hs.call hy
                              clear hy
                              try simp only [List.cons_append, List.nil_append, List.append_nil] at hs
                              refine Z.tk (Dn := fun _ => true) (i := 23) (fun _ => ⟨_, hs, by first | (simp; done) | exact fun e he => List.mem_append_right _ he⟩) ?_
                              refine Z.t 24 rfl rfl rfl (by rfl) (by kernel_rfl) ⟨_, hs, by first | (simp; done) | exact fun e he => List.mem_append_right _ he⟩ (Z.Yd.pickT rfl rfl) ?_
                              refine Z.tb [25] (by kernel_rfl) rfl ⟨_, hs, by first | (simp; done) | exact fun e he => List.mem_append_right _ he⟩ rfl ?_
                              refine Z.td (by rfl) (by kernel_rfl) ?_
                              refine Z.only [2] rfl ?_
                              refine Z.nthen ?_
                              refine Z.ret ?_
                              -- ret#12
                              refine Z.out1 (by exact ⟨rfl, trivial⟩) ?_
                              first | exact ⟨_, rfl, rfl, hs⟩ | exact ⟨_, rfl, rfl, hs.sub (List.nil_sublist _)⟩
                              )
                        · first
                            | (exfalso; simp at hsp49 <;> omega)
                            | (
                              refine Z.yes (s := 49) (b := false) rfl hsp49 rfl ?_
                              (try simp at hsp49)
                              refine Z.yes (s := 30) (b := false) rfl rfl rfl ?_
                              refine Z.yes (s := 36) (b := false) rfl rfl rfl ?_
                              refine Z.yes (s := 43) (b := true) rfl rfl rfl ?_
                              refine Z.tnS 49 true 23 rfl rfl (by kernel_rfl) rfl rfl (by simp) rfl (by rfl) (fun _ => ⟨_, hs, by first | (simp; done) | exact fun e he => List.mem_append_right _ he⟩) ?_
                              refine Z.t 24 rfl rfl rfl (by rfl) (by kernel_rfl) ⟨_, hs, by first | (simp; done) | exact fun e he => List.mem_append_right _ he⟩ (Z.Yd.pickF rfl rfl) ?_
                              refine Z.tb [25] (by kernel_rfl) rfl ⟨_, hs, by first | (simp; done) | exact fun e he => List.mem_append_right _ he⟩ rfl ?_
                              refine Z.td (by rfl) (by kernel_rfl) ?_
                              refine Z.only [2] rfl ?_
                              refine Z.nthen ?_
                              refine Z.ret ?_
                              -- ret#13
                              refine Z.out1 (by exact ⟨rfl, trivial⟩) ?_
                              first | exact ⟨_, rfl, rfl, hs⟩ | exact ⟨_, rfl, rfl, hs.sub (List.nil_sublist _)⟩
                              )
                        )
                  · first
                      | (exfalso; simp at hsp43 <;> omega)
                      | (
                        refine Z.yes (s := 43) (b := false) rfl hsp43 rfl ?_
                        (try simp at hsp43)
                        refine Z.yes (s := 30) (b := false) rfl rfl rfl ?_
                        refine Z.yes (s := 36) (b := false) rfl rfl rfl ?_
                        refine Z.t 17 rfl rfl rfl (by rfl) (by kernel_rfl) ⟨_, hs, by first | (simp; done) | exact fun e he => List.mem_append_right _ he⟩ (Z.Yd.off (v := undef) 43 true rfl (by first | (simp; done) | (simp_all; done)) (by intro c h; cases h)) ?_
                        refine Z.t 19 rfl rfl rfl (by rfl) (by kernel_rfl) ⟨_, hs, by first | (simp; done) | exact fun e he => List.mem_append_right _ he⟩ (Z.Yd.off (v := undef) 43 true rfl (by first | (simp; done) | (simp_all; done)) (by intro c h; cases h)) ?_
                        refine Z.yes (s := 30) (b := false) rfl rfl rfl ?_
                        refine Z.yes (s := 36) (b := false) rfl rfl rfl ?_
                        refine Z.yes (s := 43) (b := false) rfl rfl rfl ?_
                        refine Z.tnS 43 true 18 rfl rfl (by kernel_rfl) rfl rfl (by simp) rfl (by rfl) (fun _ => ⟨_, hs, by first | (simp; done) | exact fun e he => List.mem_append_right _ he⟩) ?_
                        refine Z.t 20 rfl rfl rfl (by rfl) (by kernel_rfl) ⟨_, hs, by first | (simp; done) | exact fun e he => List.mem_append_right _ he⟩ (Z.Yd.off (v := undef) 43 true rfl (by first | (simp; done) | (simp_all; done)) (by intro c h; cases h)) ?_
                        refine Z.yes (s := 30) (b := false) rfl rfl rfl ?_
                        refine Z.yes (s := 36) (b := false) rfl rfl rfl ?_
                        refine Z.yes (s := 43) (b := false) rfl rfl rfl ?_
                        refine Z.t 21 rfl rfl rfl (by rfl) (by kernel_rfl) ⟨_, hs, by first | (simp; done) | exact fun e he => List.mem_append_right _ he⟩ (Z.Yd.pickF rfl rfl) ?_
                        refine Z.tb [22] (by kernel_rfl) rfl ⟨_, hs, by first | (simp; done) | exact fun e he => List.mem_append_right _ he⟩ rfl ?_
                        refine Z.split (s := 49) rfl (fun hsp49 => ?_) (fun hsp49 => ?_)
                        · first
                            | (exfalso; simp at hsp49 <;> omega)
                            | (
                              refine Z.yes (s := 49) (b := true) rfl hsp49 rfl ?_
                              (try simp at hsp49)
                              refine Z.yes (s := 30) (b := false) rfl rfl rfl ?_
                              refine Z.yes (s := 36) (b := false) rfl rfl rfl ?_
                              refine Z.yes (s := 43) (b := false) rfl rfl rfl ?_
                              refine Z.tn 23 rfl rfl (by kernel_rfl) rfl (by exact ⟨rfl, trivial⟩) ?_
                              refine Z.ZO.call rfl rfl (by rfl) rfl rfl Try.call9 rfl (works34 _) ?_
                              rintro v8_23 w8_23 ⟨rfl, hy⟩
                              replace hs := hs.call hy
                              clear hy
                              try simp only [List.cons_append, List.nil_append, List.append_nil] at hs
                              refine Z.tk (Dn := fun _ => true) (i := 23) (fun _ => ⟨_, hs, by first | (simp; done) | exact fun e he => List.mem_append_right _ he⟩) ?_
                              refine Z.t 24 rfl rfl rfl (by rfl) (by kernel_rfl) ⟨_, hs, by first | (simp; done) | exact fun e he => List.mem_append_right _ he⟩ (Z.Yd.pickT rfl rfl) ?_
                              refine Z.tb [25] (by kernel_rfl) rfl ⟨_, hs, by first | (simp; done) | exact fun e he => List.mem_append_right _ he⟩ rfl ?_
                              refine Z.td (by rfl) (by kernel_rfl) ?_
                              refine Z.only [2] rfl ?_
                              refine Z.nthen ?_
                              refine Z.ret ?_
                              -- ret#14
                              refine Z.out1 (by exact ⟨rfl, trivial⟩) ?_
                              first | exact ⟨_, rfl, rfl, hs⟩ | exact ⟨_, rfl, rfl, hs.sub (List.nil_sublist _)⟩
                              )
                        · first
                            | (exfalso; simp at hsp49 <;> omega)
                            | (
                              refine Z.yes (s := 49) (b := false) rfl hsp49 rfl ?_
                              (try simp at hsp49)
                              refine Z.yes (s := 30) (b := false) rfl rfl rfl ?_
                              refine Z.yes (s := 36) (b := false) rfl rfl rfl ?_
                              refine Z.yes (s := 43) (b := false) rfl rfl rfl ?_
                              refine Z.tnS 49 true 23 rfl rfl (by kernel_rfl) rfl rfl (by simp) rfl (by rfl) (fun _ => ⟨_, hs, by first | (simp; done) | exact fun e he => List.mem_append_right _ he⟩) ?_
                              refine Z.t 24 rfl rfl rfl (by rfl) (by kernel_rfl) ⟨_, hs, by first | (simp; done) | exact fun e he => List.mem_append_right _ he⟩ (Z.Yd.pickF rfl rfl) ?_
                              refine Z.tb [25] (by kernel_rfl) rfl ⟨_, hs, by first | (simp; done) | exact fun e he => List.mem_append_right _ he⟩ rfl ?_
                              refine Z.td (by rfl) (by kernel_rfl) ?_
                              refine Z.only [2] rfl ?_
                              refine Z.nthen ?_
                              refine Z.ret ?_
                              -- ret#15
                              refine Z.out1 (by exact ⟨rfl, trivial⟩) ?_
                              first | exact ⟨_, rfl, rfl, hs⟩ | exact ⟨_, rfl, rfl, hs.sub (List.nil_sublist _)⟩
                              )
                        )
                  )
            )
  · skip
    refine Z.enter Try.func3 rfl Try.ntmps3 rfl rfl ?_
    refine Z.seq ?_
    refine Z.region ?_
    refine Z.le rfl trivial ?_
    refine Z.ZO.box rfl rfl (by rfl) rfl rfl hs ?_
    clear hs; intro g1 w1 hs
    refine Z.lb 1 rfl ?_
    refine Z.lnil ?_
    refine Z.only [1] rfl ?_
    refine Z.nthen ?_
    refine Z.seq ?_
    refine Z.seq ?_
    refine Z.region ?_
    refine Z.l rfl rfl (by rfl) (Z.keepS hs) (Z.Yd.fieldA (m := 1) rfl (by kernel_rfl)) ?_
    refine Z.l rfl rfl (by rfl) (Z.keepS hs) (by first | exact Z.Yd.load rfl Try.isAgg22 (fun _ => Z.cellB (by first | ((repeat (first | exact List.mem_cons_self | refine List.mem_cons_of_mem _ ?_ | refine List.mem_append_right _ ?_)); done) | fail) rfl) | exact Z.Yd.load rfl Try.isAgg22 (fun _ => Z.cellO (by assumption) (by simp) (by assumption)) | fail "load 1.1") ?_
    refine Z.l rfl rfl (by rfl) (Z.keepS hs) (Z.Yd.lenS rfl Try.underlying22) ?_
    refine Z.lb 1 rfl ?_
    refine Z.lnil ?_
    refine Z.only [1, 11] rfl ?_
    refine Z.nthen ?_
    refine Z.cond rfl (fun hc1 => ?_) (fun h => absurd h (by simp; omega))
    refine Z.seq ?_
    refine Z.region ?_
    refine Z.le rfl trivial ?_
    refine Z.ZO.call rfl rfl (by rfl) rfl rfl Try.call9 rfl (works34 _) ?_
    rintro v2_0 w2_0 ⟨rfl, hy⟩
    replace hs := hs.call hy
    clear hy
    try simp only [List.cons_append, List.nil_append, List.append_nil] at hs
    refine Z.lb 1 rfl ?_
    refine Z.lnil ?_
    refine Z.only [2] rfl ?_
    refine Z.nthen ?_
    refine Z.ret ?_
    repeat (first | refine Z.rthen ?_ | refine Z.rblock ?_ | refine Z.rscope ?_)
    -- ret#0
    refine Z.out1 (by exact ⟨rfl, trivial⟩) ?_
    first | exact ⟨_, rfl, rfl, hs⟩ | exact ⟨_, rfl, rfl, hs.sub (List.nil_sublist _)⟩
theorem rd_nack {W : World} {cs : List Value} (z : Rd Try.prog W 45 cs) : ∃ x : NkV, cs = x.cells ∧ True := by
  obtain ⟨hl, hf⟩ := Rd.field Try.underlying45 z
  have c4 : Try.prog.cellsOf 45 = 4 := by kernel_rfl
  have c1 : Try.prog.cellsOf 3 = 1 := by kernel_rfl
  have cb : Try.prog.cellsOf 4 = 1 := by kernel_rfl
  rw [c4] at hl
  obtain ⟨x0, x1, x2, x3, rfl⟩ := list4 hl
  obtain ⟨a, ha, -⟩ := Rd.int Try.underlying3 (hf 0 _ rfl)
  obtain ⟨b, hb⟩ := Rd.bool Try.underlying4 (hf 1 _ rfl)
  obtain ⟨p, hp, -⟩ := Rd.int Try.underlying3 (hf 2 _ rfl)
  obtain ⟨q, hq, -⟩ := Rd.int Try.underlying3 (hf 3 _ rfl)
  simp [c1, cb] at ha hb hp hq
  subst ha hb hp hq
  exact ⟨⟨a, b, p, q⟩, rfl, trivial⟩
theorem rd_nacks {W : World} {A : Option Addr} {n c : Nat} (z : Rd Try.prog W 22 [.slice A n c]) : ∃ l : List NkV, l.length = n ∧ n ≤ c ∧ c ≤ maxLen ∧ Sl W A (l.flatMap NkV.cells) := by
  have c4 : Try.prog.cellsOf 45 = 4 := by kernel_rfl
  obtain ⟨xs, h1, h2, h3, h4, h5⟩ := Rd.rows NkV.cells (fun _ => True) Try.underlying22 (by rw [c4]; decide) (fun r hr => rd_nack hr) (fun x => c4.symm) z
  exact ⟨xs, h1, h2, h3, h5⟩
theorem rd_status {W : World} {cs : List Value} (z : Rd Try.prog W 24 cs) : ∃ (ack : Int) (A : Option Addr) (n c : Nat) (l : List NkV), cs = [.int .i64 ack, .slice A n c] ∧ l.length = n ∧ n ≤ c ∧ c ≤ maxLen ∧ Sl W A (l.flatMap NkV.cells) := by
  obtain ⟨hl, hf⟩ := Rd.field Try.underlying24 z
  have c2 : Try.prog.cellsOf 24 = 2 := by kernel_rfl
  have c1 : Try.prog.cellsOf 3 = 1 := by kernel_rfl
  have c0 : Try.prog.cellsOf 22 = 1 := by kernel_rfl
  rw [c2] at hl
  obtain ⟨x0, x1, rfl⟩ := list2 hl
  obtain ⟨ack, hlc, -⟩ := Rd.int Try.underlying3 (hf 0 _ rfl)
  have zb := hf 1 _ rfl
  obtain ⟨A, n, c, hb⟩ := Rd.sliceV Try.underlying22 zb
  rw [hb] at zb
  simp [c1, c0] at hlc hb
  subst hlc hb
  obtain ⟨l, h1, h2, h3, h4⟩ := rd_nacks zb
  exact ⟨ack, A, n, c, l, rfl, h1, h2, h3, h4⟩
theorem statusEncodes_rd (cs0 : Array Value) (w : World) (z0 : Rd Try.prog w 24 (Value.agg cs0).cells.toList) :
    Calls Try.prog 3 #[.agg cs0] w fun e w' => e = .returned (.bool true) ∧ Below w.heap.size w w' := by
  obtain ⟨ack, A, n, c, l, hr, h1, h2, h3, h4⟩ := rd_status z0
  have e : cs0 = #[.int .i64 ack, .slice A n c] := by
    have : cs0.toList = [.int .i64 ack, .slice A n c] := by simpa [Value.cells] using hr
    exact Array.toList_inj.1 this
  rw [e]
  refine (statusEncodes_walk ack A n c l w h4 h1 (Nat.le_trans h2 h3)).mono ?_
  rintro e w' ⟨v, rfl, rfl, h⟩
  exact ⟨rfl, h.below⟩
end Go.Proofs.Ytcieclifabbkjaa

/- Status reports: Decode against the document. -/
namespace Go.Proofs.Ytcieclifabbkjaa
open Go.RowKit
set_option linter.unusedSimpArgs false
set_option linter.unusedVariables false
--newlaws

theorem rdecode_any (A : Option Addr) (m c : Nat) (l : List Int) (w : World) (hx : Sl w A (ints .u8 l)) (hl : l.length = m) (hm : m ≤ 1000000) (hb : ∀ x ∈ l, 0 ≤ x ∧ x < 256) :
    Calls Try.prog 18 #[.slice A m c] w (SX.Ret fun v w' => Dec (decE l) (decA l) (decL l) v w w') := by
  by_cases h15 : 15 ≤ 8 * l.length
  · by_cases h4 : gv l 0 4 = 0
    · have e1 : decE l = (decGo l (gv l 4 10) (8 * l.length + 1) 15 [] (gv l 14 1 == 1)).1 := by unfold decE; rw [if_pos h15, if_pos h4]
      unfold decA decL
      rw [e1]
      exact rdecode_main A m c l w hx hl hm hb h15 h4 _ rfl
    · have e1 : decE l = 9 := by unfold decE; rw [if_pos h15, if_neg h4]
      unfold decA decL
      rw [e1]
      have hg4 := gv04 hb (by omega)
      have he1 : 0 ≤ elt l 0 ∧ elt l 0 < 256 := elt_b8 hb (k := 0) (by omega)
      obtain ⟨bx, ox, rfl, hbx, hx⟩ := Z.Sl.some hx (by simp [ints]; omega)
      have hs := SX.St.start w
      refine Z.enter Try.func18 rfl Try.ntmps18 rfl rfl ?_
      refine Z.seq ?_
      refine Z.region ?_
      refine Z.le rfl trivial ?_
      refine Z.ZO.alloc rfl rfl (by rfl) Try.zeroValue24 rfl hs ?_
      clear hs; intro g2 w2 hs
      refine Z.lb 1 rfl ?_
      refine Z.lnil ?_
      refine Z.only [0, 2] rfl ?_
      refine Z.nthen ?_
      refine Z.seq ?_
      refine Z.seq ?_
      refine Z.region ?_
      refine Z.lb 1 rfl ?_
      refine Z.l rfl rfl (by rfl) (Z.keepS hs) (Z.Yd.lenS rfl Try.underlying26) ?_
      refine Z.lb 1 rfl ?_
      refine Z.lnil ?_
      refine Z.only [0, 2, 19] rfl ?_
      refine Z.nthen ?_
      refine Z.cond rfl (fun h => absurd h (by simp; omega)) (fun hc1 => ?_)
      refine Z.skip ?_
      refine Z.nthen ?_
      refine Z.seq ?_
      refine Z.seq ?_
      refine Z.region ?_
      refine Z.lb 1 rfl ?_
      refine Z.l rfl rfl (by rfl) (Z.keepS hs) (Z.Yd.elem rfl rfl Try.underlying26 Try.sizeOf5 (fun hG => ⟨(by first | omega | (have hG' := Z.gh rfl hG; simp at hG'; omega)), (by first | omega | (have hG' := Z.gh rfl hG; simp at hG'; omega))⟩)) ?_
      refine Z.l rfl rfl (by rfl) (Z.keepS hs) (by first | exact Z.Yd.load rfl Try.isAgg5 (fun _ => Z.cellB (by first | ((repeat (first | exact List.mem_cons_self | refine List.mem_cons_of_mem _ ?_ | refine List.mem_append_right _ ?_)); done) | fail) rfl) | exact Z.Yd.load rfl Try.isAgg5 (fun hG => Z.cellR (by first | ((repeat (first | exact List.mem_cons_self | refine List.mem_cons_of_mem _ ?_ | refine List.mem_append_right _ ?_)); done) | fail) (Z.ints_at (by first | omega | (have hG' := Z.gh rfl hG; simp at hG'; omega)) (by first | omega | (have hG' := Z.gh rfl hG; simp at hG'; omega)))) | exact Z.Yd.load rfl Try.isAgg5 (fun hG => Z.cellXi (by assumption) (by first | omega | (have hG' := Z.gh rfl hG; simp at hG'; omega)) (by first | omega | (have hG' := Z.gh rfl hG; simp at hG'; omega))) | exact Z.Yd.load rfl Try.isAgg5 (fun hG => Z.cellS (by assumption) rfl (by first | omega | (have hG' := Z.gh rfl hG; simp at hG'; omega)) (by first | omega | (have hG' := Z.gh rfl hG; simp at hG'; omega))) | fail "load 3.2") ?_
      refine Z.lb 1 rfl ?_
      refine Z.lnil ?_
      refine Z.only [0, 2, 24] rfl ?_
      refine Z.nthen ?_
      refine Z.cond rfl (fun hc3 => ?_) (fun h => absurd h (by simp; omega))
      refine Z.seq ?_
      refine Z.region ?_
      refine Z.l rfl rfl (by rfl) (Z.keepS hs) (Z.Yd.buildL [(0, 1), (1, 1)] [.int .i64 0, .slice none 0 0] rfl rfl (by intro w; kernel_rfl)) ?_
      refine Z.le rfl trivial ?_
      first | refine Z.ZO.storeA rfl rfl hs rfl rfl (by kernel_rfl) (by first | (simp [Value.oneCell']; done) | (refine Z.all_one ?_; assumption)) (by first | exact SX.at0 | exact SX.at1 | exact SX.at2 | exact SX.at3 | exact SX.at4 | exact SX.at5 | exact Z.at6 | exact Z.at7 | exact Z.at8 | exact Z.at9 | exact Z.at10 | exact Z.at11 | exact Z.at12) (by rfl) ?_ | refine Z.ZO.storeP rfl rfl hs rfl rfl (by kernel_rfl) (by first | (simp [Value.oneCell']; done) | (refine Z.all_one ?_; assumption)) (by first | exact SX.at0 | exact SX.at1 | exact SX.at2 | exact SX.at3 | exact SX.at4 | exact SX.at5 | exact Z.at6 | exact Z.at7 | exact Z.at8 | exact Z.at9 | exact Z.at10 | exact Z.at11 | exact Z.at12) (by first | decide | (simp; done) | (simp; omega)) ?_ | refine Z.ZO.storePR rfl rfl hs rfl rfl (by kernel_rfl) (by first | (simp [Value.oneCell']; done) | (refine Z.all_one ?_; assumption)) (by first | exact SX.at0 | exact SX.at1 | exact SX.at2 | exact SX.at3 | exact SX.at4 | exact SX.at5 | exact Z.at6 | exact Z.at7 | exact Z.at8 | exact Z.at9 | exact Z.at10 | exact Z.at11 | exact Z.at12) (by first | decide | (simp; done) | (simp; omega)) ?_
      clear hs; intro ws hs
      simp only [Nat.zero_add, Nat.add_zero, Nat.reduceAdd, Int.reduceToNat, Nat.reduceMul, List.set_cons_zero, List.set_cons_succ, List.setIfInBounds_toArray] at hs
      try simp only [Z.putL, Nat.zero_add] at hs
      refine Z.lb 1 rfl ?_
      refine Z.lnil ?_
      refine Z.only [2, 3] rfl ?_
      refine Z.nthen ?_
      refine Z.ret ?_
      repeat (first | refine Z.rthen ?_ | refine Z.rblock ?_ | refine Z.rscope ?_)
      -- ret#0
      refine Z.out2 (by exact ⟨⟨_, rfl, Z.rvcA hs Try.isAgg24 (by first | ((repeat (first | exact List.mem_cons_self | refine List.mem_cons_of_mem _ ?_ | refine List.mem_append_right _ ?_)); done) | fail) (by exact Try.sizeOf24)⟩, rfl, trivial⟩) ?_
      exact ⟨_, rfl, Dec.zero (hs.sub (List.nil_sublist _))⟩
  · have e1 : decE l = 5 := by unfold decE; rw [if_neg h15]
    unfold decA decL
    rw [e1]
    have hs := SX.St.start w
    refine Z.enter Try.func18 rfl Try.ntmps18 rfl rfl ?_
    refine Z.seq ?_
    refine Z.region ?_
    refine Z.le rfl trivial ?_
    refine Z.ZO.alloc rfl rfl (by rfl) Try.zeroValue24 rfl hs ?_
    clear hs; intro g2 w2 hs
    refine Z.lb 1 rfl ?_
    refine Z.lnil ?_
    refine Z.only [0, 2] rfl ?_
    refine Z.nthen ?_
    refine Z.seq ?_
    refine Z.seq ?_
    refine Z.region ?_
    refine Z.lb 1 rfl ?_
    refine Z.l rfl rfl (by rfl) (Z.keepS hs) (Z.Yd.lenS rfl Try.underlying26) ?_
    refine Z.lb 1 rfl ?_
    refine Z.lnil ?_
    refine Z.only [0, 2, 19] rfl ?_
    refine Z.nthen ?_
    refine Z.cond rfl (fun hc1 => ?_) (fun h => absurd h (by simp; omega))
    refine Z.seq ?_
    refine Z.region ?_
    refine Z.l rfl rfl (by rfl) (Z.keepS hs) (Z.Yd.buildL [(0, 1), (1, 1)] [.int .i64 0, .slice none 0 0] rfl rfl (by intro w; kernel_rfl)) ?_
    refine Z.le rfl trivial ?_
    first | refine Z.ZO.storeA rfl rfl hs rfl rfl (by kernel_rfl) (by first | (simp [Value.oneCell']; done) | (refine Z.all_one ?_; assumption)) (by first | exact SX.at0 | exact SX.at1 | exact SX.at2 | exact SX.at3 | exact SX.at4 | exact SX.at5 | exact Z.at6 | exact Z.at7 | exact Z.at8 | exact Z.at9 | exact Z.at10 | exact Z.at11 | exact Z.at12) (by rfl) ?_ | refine Z.ZO.storeP rfl rfl hs rfl rfl (by kernel_rfl) (by first | (simp [Value.oneCell']; done) | (refine Z.all_one ?_; assumption)) (by first | exact SX.at0 | exact SX.at1 | exact SX.at2 | exact SX.at3 | exact SX.at4 | exact SX.at5 | exact Z.at6 | exact Z.at7 | exact Z.at8 | exact Z.at9 | exact Z.at10 | exact Z.at11 | exact Z.at12) (by first | decide | (simp; done) | (simp; omega)) ?_ | refine Z.ZO.storePR rfl rfl hs rfl rfl (by kernel_rfl) (by first | (simp [Value.oneCell']; done) | (refine Z.all_one ?_; assumption)) (by first | exact SX.at0 | exact SX.at1 | exact SX.at2 | exact SX.at3 | exact SX.at4 | exact SX.at5 | exact Z.at6 | exact Z.at7 | exact Z.at8 | exact Z.at9 | exact Z.at10 | exact Z.at11 | exact Z.at12) (by first | decide | (simp; done) | (simp; omega)) ?_
    clear hs; intro ws hs
    simp only [Nat.zero_add, Nat.add_zero, Nat.reduceAdd, Int.reduceToNat, Nat.reduceMul, List.set_cons_zero, List.set_cons_succ, List.setIfInBounds_toArray] at hs
    try simp only [Z.putL, Nat.zero_add] at hs
    refine Z.lb 1 rfl ?_
    refine Z.lnil ?_
    refine Z.only [2, 3] rfl ?_
    refine Z.nthen ?_
    refine Z.ret ?_
    repeat (first | refine Z.rthen ?_ | refine Z.rblock ?_ | refine Z.rscope ?_)
    -- ret#0
    refine Z.out2 (by exact ⟨⟨_, rfl, Z.rvcA hs Try.isAgg24 (by first | ((repeat (first | exact List.mem_cons_self | refine List.mem_cons_of_mem _ ?_ | refine List.mem_append_right _ ?_)); done) | fail) (by exact Try.sizeOf24)⟩, rfl, trivial⟩) ?_
    exact ⟨_, rfl, Dec.zero (hs.sub (List.nil_sublist _))⟩
theorem decL_len (l : List Int) : (decL l).length ≤ 512 := by
  have h : ∀ (f a : Nat) (acc : List NkV) (more : Bool) (ack : Int), acc.length ≤ 512 → (decGo l ack f a acc more).2.length ≤ 512 := by
    intro f
    induction f with
    | zero => intro a acc more ack h; simp [decGo]
    | succ f ih =>
      intro a acc more ack h
      unfold decGo
      split
      · split
        · exact h
        · simp
      · split
        · simp
        · split
          · rename_i hok
            refine ih _ _ _ _ ?_
            unfold okNext at hok
            simp only [Bool.and_eq_true, decide_eq_true_eq] at hok
            simp
            omega
          · simp
  unfold decL
  split
  · exact h _ _ _ _ _ (by simp)
  · simp
theorem statusDecodes_walk (A : Option Addr) (m c : Nat) (l : List Int) (w : World) (hx : Sl w A (ints .u8 l)) (hl : l.length = m) (hm : m ≤ maxLen) (hb : ∀ x ∈ l, 0 ≤ x ∧ x < 256) :
    Calls Try.prog 4 #[.slice A m c] w (SX.Ret fun v w' => v = .bool true ∧ SX.St w [] w' []) := by
  have hs := SX.St.start w
  have hdl := decL_len l
  by_cases h3 : m ≤ 3000
  · skip
    refine Z.enter Try.func4 rfl Try.ntmps4 rfl rfl ?_
    refine Z.seq ?_
    refine Z.region ?_
    refine Z.lb 1 rfl ?_
    refine Z.lnil ?_
    refine Z.only [0] rfl ?_
    refine Z.nthen ?_
    refine Z.seq ?_
    refine Z.seq ?_
    refine Z.region ?_
    refine Z.lb 1 rfl ?_
    refine Z.l rfl rfl (by rfl) (Z.keepS hs) (Z.Yd.lenS rfl Try.underlying26) ?_
    refine Z.lb 1 rfl ?_
    refine Z.lnil ?_
    refine Z.only [0, 9] rfl ?_
    refine Z.nthen ?_
    refine Z.cond rfl (fun h => absurd h (by simp; omega)) (fun hc1 => ?_)
    refine Z.skip ?_
    refine Z.nthen ?_
    refine Z.seq ?_
    refine Z.region ?_
    refine Z.lb 1 rfl ?_
    refine Z.le rfl trivial ?_
    refine Z.ZO.call rfl rfl (by rfl) rfl rfl Try.call17 rfl (decode_any A m c l _ (hx.st (hs.sub (List.nil_sublist _))) hl (by omega) hb) ?_
    rintro v3_1 w3_1 ⟨B1, c1, co1, rfl, hy⟩
    replace hs := hs.call hy
    clear hy
    try simp only [List.cons_append, List.nil_append, List.append_nil] at hs
    refine Z.lb 3 rfl ?_
    refine Z.le rfl trivial ?_
    refine Z.ZO.alloc rfl rfl (by rfl) Try.zeroValue24 rfl hs ?_
    clear hs; intro g3 w3 hs
    refine Z.le rfl trivial ?_
    first | refine Z.ZO.storeA rfl rfl hs rfl rfl (by kernel_rfl) (by first | (simp [Value.oneCell']; done) | (refine Z.all_one ?_; assumption)) (by first | exact SX.at0 | exact SX.at1 | exact SX.at2 | exact SX.at3 | exact SX.at4 | exact SX.at5 | exact Z.at6 | exact Z.at7 | exact Z.at8 | exact Z.at9 | exact Z.at10 | exact Z.at11 | exact Z.at12) (by rfl) ?_ | refine Z.ZO.storeP rfl rfl hs rfl rfl (by kernel_rfl) (by first | (simp [Value.oneCell']; done) | (refine Z.all_one ?_; assumption)) (by first | exact SX.at0 | exact SX.at1 | exact SX.at2 | exact SX.at3 | exact SX.at4 | exact SX.at5 | exact Z.at6 | exact Z.at7 | exact Z.at8 | exact Z.at9 | exact Z.at10 | exact Z.at11 | exact Z.at12) (by first | decide | (simp; done) | (simp; omega)) ?_ | refine Z.ZO.storePR rfl rfl hs rfl rfl (by kernel_rfl) (by first | (simp [Value.oneCell']; done) | (refine Z.all_one ?_; assumption)) (by first | exact SX.at0 | exact SX.at1 | exact SX.at2 | exact SX.at3 | exact SX.at4 | exact SX.at5 | exact Z.at6 | exact Z.at7 | exact Z.at8 | exact Z.at9 | exact Z.at10 | exact Z.at11 | exact Z.at12) (by first | decide | (simp; done) | (simp; omega)) ?_
    clear hs; intro ws hs
    simp only [Nat.zero_add, Nat.add_zero, Nat.reduceAdd, Int.reduceToNat, Nat.reduceMul, List.set_cons_zero, List.set_cons_succ, List.setIfInBounds_toArray] at hs
    try simp only [Z.putL, Nat.zero_add] at hs
    refine Z.lb 1 rfl ?_
    refine Z.lnil ?_
    refine Z.only [0, 3, 4] rfl ?_
    refine Z.nthen ?_
    refine Z.seq ?_
    refine Z.region ?_
    refine Z.lb 1 rfl ?_
    refine Z.le rfl trivial ?_
    refine Z.ZO.call rfl rfl (by rfl) rfl rfl Try.call18 rfl (rdecode_any A m c l _ (hx.st (hs.sub (List.nil_sublist _))) hl (by omega) hb) ?_
    rintro v4_1 w4_1 ⟨B2, c2, co2, rfl, hy⟩
    replace hs := hs.call hy
    clear hy
    try simp only [List.cons_append, List.nil_append, List.append_nil] at hs
    refine Z.lb 3 rfl ?_
    refine Z.le rfl trivial ?_
    refine Z.ZO.alloc rfl rfl (by rfl) Try.zeroValue24 rfl hs ?_
    clear hs; intro g5 w5 hs
    refine Z.le rfl trivial ?_
    first | refine Z.ZO.storeA rfl rfl hs rfl rfl (by kernel_rfl) (by first | (simp [Value.oneCell']; done) | (refine Z.all_one ?_; assumption)) (by first | exact SX.at0 | exact SX.at1 | exact SX.at2 | exact SX.at3 | exact SX.at4 | exact SX.at5 | exact Z.at6 | exact Z.at7 | exact Z.at8 | exact Z.at9 | exact Z.at10 | exact Z.at11 | exact Z.at12) (by rfl) ?_ | refine Z.ZO.storeP rfl rfl hs rfl rfl (by kernel_rfl) (by first | (simp [Value.oneCell']; done) | (refine Z.all_one ?_; assumption)) (by first | exact SX.at0 | exact SX.at1 | exact SX.at2 | exact SX.at3 | exact SX.at4 | exact SX.at5 | exact Z.at6 | exact Z.at7 | exact Z.at8 | exact Z.at9 | exact Z.at10 | exact Z.at11 | exact Z.at12) (by first | decide | (simp; done) | (simp; omega)) ?_ | refine Z.ZO.storePR rfl rfl hs rfl rfl (by kernel_rfl) (by first | (simp [Value.oneCell']; done) | (refine Z.all_one ?_; assumption)) (by first | exact SX.at0 | exact SX.at1 | exact SX.at2 | exact SX.at3 | exact SX.at4 | exact SX.at5 | exact Z.at6 | exact Z.at7 | exact Z.at8 | exact Z.at9 | exact Z.at10 | exact Z.at11 | exact Z.at12) (by first | decide | (simp; done) | (simp; omega)) ?_
    clear hs; intro ws hs
    simp only [Nat.zero_add, Nat.add_zero, Nat.reduceAdd, Int.reduceToNat, Nat.reduceMul, List.set_cons_zero, List.set_cons_succ, List.setIfInBounds_toArray] at hs
    try simp only [Z.putL, Nat.zero_add] at hs
    refine Z.lb 1 rfl ?_
    refine Z.lnil ?_
    refine Z.only [3, 4, 5, 6] rfl ?_
    refine Z.nthen ?_
    refine Z.seq ?_
    refine Z.region ?_
    refine Z.l rfl rfl (by rfl) (Z.keepS hs) (by first | exact Z.Yd.loadA _ rfl Try.isAgg24 (fun _ => Z.cellsB (by first | ((repeat (first | exact List.mem_cons_self | refine List.mem_cons_of_mem _ ?_ | refine List.mem_append_right _ ?_)); done) | fail)) (by exact Try.sizeOf24) | fail "load 5.0") ?_
    refine Z.l rfl rfl (by rfl) (Z.keepS hs) (by first | exact Z.Yd.loadA _ rfl Try.isAgg24 (fun _ => Z.cellsB (by first | ((repeat (first | exact List.mem_cons_self | refine List.mem_cons_of_mem _ ?_ | refine List.mem_append_right _ ?_)); done) | fail)) (by exact Try.sizeOf24) | fail "load 5.1") ?_
    refine Z.le rfl trivial ?_
    refine Z.ZO.call rfl rfl (by rfl) rfl rfl Try.call19 rfl (rsame34 (decA l) (decA l) B1 B2 _ _ _ _ (decL l) (decL l) _ (hs.slm (by first | ((repeat (first | exact List.mem_cons_self | refine List.mem_cons_of_mem _ ?_ | refine List.mem_append_right _ ?_)); done) | fail)) (hs.slm (by first | ((repeat (first | exact List.mem_cons_self | refine List.mem_cons_of_mem _ ?_ | refine List.mem_append_right _ ?_)); done) | fail)) rfl rfl (by omega)) ?_
    rintro v5_2 w5_2 ⟨rfl, hy⟩
    replace hs := hs.call hy
    clear hy
    try simp only [List.cons_append, List.nil_append, List.append_nil] at hs
    refine Z.lb 1 rfl ?_
    refine Z.yes (s := 24) (b := true) rfl ((by simp)) rfl ?_
    refine Z.lb 1 rfl ?_
    refine Z.yes (s := 24) (b := true) rfl rfl rfl ?_
    refine Z.le rfl (by exact ⟨rfl, trivial⟩) ?_
    refine Z.ZO.call rfl rfl (by rfl) rfl rfl Try.call13 rfl (num34 _ _) ?_
    rintro v5_5 w5_5 ⟨rfl, hy⟩
    replace hs := hs.call hy
    clear hy
    try simp only [List.cons_append, List.nil_append, List.append_nil] at hs
    refine Z.lb 2 rfl ?_
    refine Z.yes (s := 24) (b := true) rfl rfl rfl ?_
    refine Z.l rfl rfl (by rfl) (Z.keepS hs) (Z.Yd.pickT rfl rfl) ?_
    refine Z.lb 1 rfl ?_
    refine Z.yes (s := 30) (b := true) rfl ((by simp)) rfl ?_
    refine Z.le rfl (by exact ⟨rfl, trivial⟩) ?_
    refine Z.ZO.call rfl rfl (by rfl) rfl rfl Try.call9 rfl (works34 _) ?_
    rintro v5_10 w5_10 ⟨rfl, hy⟩
    replace hs := hs.call hy
    clear hy
    try simp only [List.cons_append, List.nil_append, List.append_nil] at hs
    refine Z.l rfl rfl (by rfl) (Z.keepS hs) (Z.Yd.pickT rfl rfl) ?_
    refine Z.lb 1 rfl ?_
    refine Z.lnil ?_
    refine Z.only [2] rfl ?_
    refine Z.nthen ?_
    refine Z.ret ?_
    -- ret#0
    refine Z.out1 (by exact ⟨rfl, trivial⟩) ?_
    first | exact ⟨_, rfl, rfl, hs⟩ | exact ⟨_, rfl, rfl, hs.sub (List.nil_sublist _)⟩
  · skip
    refine Z.enter Try.func4 rfl Try.ntmps4 rfl rfl ?_
    refine Z.seq ?_
    refine Z.region ?_
    refine Z.lb 1 rfl ?_
    refine Z.lnil ?_
    refine Z.only [0] rfl ?_
    refine Z.nthen ?_
    refine Z.seq ?_
    refine Z.seq ?_
    refine Z.region ?_
    refine Z.lb 1 rfl ?_
    refine Z.l rfl rfl (by rfl) (Z.keepS hs) (Z.Yd.lenS rfl Try.underlying26) ?_
    refine Z.lb 1 rfl ?_
    refine Z.lnil ?_
    refine Z.only [0, 9] rfl ?_
    refine Z.nthen ?_
    refine Z.cond rfl (fun hc1 => ?_) (fun h => absurd h (by simp; omega))
    refine Z.seq ?_
    refine Z.region ?_
    refine Z.le rfl trivial ?_
    refine Z.ZO.call rfl rfl (by rfl) rfl rfl Try.call9 rfl (works34 _) ?_
    rintro v2_0 w2_0 ⟨rfl, hy⟩
    replace hs := hs.call hy
    clear hy
    try simp only [List.cons_append, List.nil_append, List.append_nil] at hs
    refine Z.lb 1 rfl ?_
    refine Z.lnil ?_
    refine Z.only [2] rfl ?_
    refine Z.nthen ?_
    refine Z.ret ?_
    repeat (first | refine Z.rthen ?_ | refine Z.rblock ?_ | refine Z.rscope ?_)
    -- ret#0
    refine Z.out1 (by exact ⟨rfl, trivial⟩) ?_
    first | exact ⟨_, rfl, rfl, hs⟩ | exact ⟨_, rfl, rfl, hs.sub (List.nil_sublist _)⟩
theorem statusDecodes_rd (a0 : Option Addr) (len0 cap0 : Nat) (w : World) (z0 : Rd Try.prog w 26 (Value.slice a0 len0 cap0).cells.toList) :
    Calls Try.prog 4 #[.slice a0 len0 cap0] w fun e w' => e = .returned (.bool true) ∧ Below w.heap.size w w' := by
  have z : Rd Try.prog w 26 [.slice a0 len0 cap0] := by simpa [Value.cells] using z0
  obtain ⟨l, h1, h2, h4, h5⟩ := rd_bytes z
  refine (statusDecodes_walk a0 len0 cap0 l w h5 h1 h2 h4).mono ?_
  rintro e w' ⟨v, rfl, rfl, h⟩
  exact ⟨rfl, h.below⟩
end Go.Proofs.Ytcieclifabbkjaa

/- Status reports: Fit against the document. -/
namespace Go.Proofs.Ytcieclifabbkjaa
open Go.RowKit
set_option linter.unusedSimpArgs false
set_option linter.unusedVariables false
--newlaws

def fitA (l : List NkV) (ack n : Int) : Int := if fitE l ack n = 0 then (fitK l ack n).1 else 0
def fitJ (l : List NkV) (ack n : Int) : Nat := if fitE l ack n = 0 then (fitK l ack n).2 else 0
theorem fitJ_le (l : List NkV) (ack n : Int) : fitJ l ack n ≤ l.length := by
  unfold fitJ
  split
  · exact fitK_le l ack n
  · exact Nat.zero_le _
/-- what Fit returns: a part of a row of its own -/
def FitO (l : List NkV) (ack n : Int) (v : Value) (w w' : World) : Prop := ∃ (B : Option Addr) (co cc lc : Nat) (xs : List Value), v = .tuple #[.agg #[.int .i64 (fitA l ack n), .slice B (fitJ l ack n) cc], .int .i64 (fitE l ack n)] ∧ fitJ l ack n ≤ lc ∧ fitJ l ack n ≤ cc ∧ xs.length = lc * 4 ∧ (l.take (fitJ l ack n)).flatMap NkV.cells <+: xs ∧ SX.St w [] w' [SX.Ent.row (.slice B lc co) 45 4 lc xs]
theorem fit_any (ack n : Int) (A : Option Addr) (m c : Nat) (l : List NkV) (w : World) (hx : Sl w A (l.flatMap NkV.cells)) (hl : l.length = m) (hm : m ≤ 9223372036854775807) :
    Calls Try.prog 20 #[.agg #[.int .i64 ack, .slice A m c], .int .i64 n] w (SX.Ret fun v w' => FitO l ack n v w w') := by
  by_cases h1 : vldB ack l = true ∧ 0 ≤ n
  · by_cases h2 : n < 2
    · have hE : fitE l ack n = 5 := by unfold fitE; rw [if_pos h1, if_pos h2]
      have hA : fitA l ack n = 0 := by unfold fitA; rw [hE]; rfl
      have hJ : fitJ l ack n = 0 := by unfold fitJ; rw [hE]; rfl
      refine (fit_short ack n A m c l w hx hl hm h1.1 ⟨h1.2, h2⟩).mono ?_
      rintro e w' ⟨v, rfl, rfl, hs⟩
      refine ⟨_, rfl, none, 0, 0, 0, [], ?_, ?_, ?_, rfl, ?_, hs.nil _ 4⟩
      · rw [hE, hA, hJ]
      · rw [hJ]; exact Nat.le_refl _
      · rw [hJ]; exact Nat.le_refl _
      · rw [hJ]; exact List.nil_prefix
    · have hE : fitE l ack n = 0 := by unfold fitE; rw [if_pos h1, if_neg h2]
      have hA : fitA l ack n = (fitK l ack n).1 := by unfold fitA; rw [if_pos hE]
      have hJ : fitJ l ack n = (fitK l ack n).2 := by unfold fitJ; rw [if_pos hE]
      refine (fit_ok ack n A m c l w hx hl hm h1.1 (by omega)).mono ?_
      rintro e w' ⟨v, rfl, B, co, cc, rfl, hc, hs⟩
      refine ⟨_, rfl, B, co, cc, m, l.flatMap NkV.cells, ?_, ?_, ?_, ?_, nk_pre _ _, hs⟩
      · rw [hE, hA, hJ]
      · rw [← hl]; exact fitJ_le l ack n
      · rw [hJ]; exact hc
      · rw [nk_flat, hl]
  · have hE : fitE l ack n = 2 := by unfold fitE; rw [if_neg h1]
    have hA : fitA l ack n = 0 := by unfold fitA; rw [hE]; rfl
    have hJ : fitJ l ack n = 0 := by unfold fitJ; rw [hE]; rfl
    refine (fit_arg ack n A m c l w hx hl hm h1).mono ?_
    rintro e w' ⟨v, rfl, rfl, hs⟩
    refine ⟨_, rfl, none, 0, 0, 0, [], ?_, ?_, ?_, rfl, ?_, hs.nil _ 4⟩
    · rw [hE, hA, hJ]
    · rw [hJ]; exact Nat.le_refl _
    · rw [hJ]; exact Nat.le_refl _
    · rw [hJ]; exact List.nil_prefix
theorem rfit_any (ack n : Int) (A : Option Addr) (m c : Nat) (l : List NkV) (w : World) (hx : Sl w A (l.flatMap NkV.cells)) (hl : l.length = m) (hm : m ≤ 9223372036854775807) (hmc : m ≤ c) :
    Calls Try.prog 21 #[.agg #[.int .i64 ack, .slice A m c], .int .i64 n] w (SX.Ret fun v w' => (∃ X cc, v = .tuple #[.agg #[.int .i64 (fitA l ack n), .slice X (fitJ l ack n) cc], .int .i64 (fitE l ack n)] ∧ ∀ W, Sl W A (l.flatMap NkV.cells) → Sl W X ((l.take (fitJ l ack n)).flatMap NkV.cells)) ∧ SX.St w [] w' []) := by
  by_cases h1 : vldB ack l = true ∧ 0 ≤ n
  · by_cases h2 : n < 2
    · have hE : fitE l ack n = 5 := by unfold fitE; rw [if_pos h1, if_pos h2]
      have hA : fitA l ack n = 0 := by unfold fitA; rw [hE]; rfl
      have hJ : fitJ l ack n = 0 := by unfold fitJ; rw [hE]; rfl
      rw [hE, hA, hJ]
      refine (rfit_short ack n A m c l w hx hl hm h1.1 ⟨h1.2, h2⟩).mono ?_
      rintro e w' ⟨v, rfl, rfl, hs⟩
      exact ⟨_, rfl, ⟨none, 0, rfl, fun W hW => sl_nil⟩, hs⟩
    · have hE : fitE l ack n = 0 := by unfold fitE; rw [if_pos h1, if_neg h2]
      have hA : fitA l ack n = (fitK l ack n).1 := by unfold fitA; rw [if_pos hE]
      have hJ : fitJ l ack n = (fitK l ack n).2 := by unfold fitJ; rw [if_pos hE]
      rw [hE, hA, hJ]
      exact rfit_ok ack n A m c l w hx hl hm hmc h1.1 (by omega)
  · have hE : fitE l ack n = 2 := by unfold fitE; rw [if_neg h1]
    have hA : fitA l ack n = 0 := by unfold fitA; rw [hE]; rfl
    have hJ : fitJ l ack n = 0 := by unfold fitJ; rw [hE]; rfl
    rw [hE, hA, hJ]
    refine (rfit_arg ack n A m c l w hx hl hm h1).mono ?_
    rintro e w' ⟨v, rfl, rfl, hs⟩
    exact ⟨_, rfl, ⟨none, 0, rfl, fun W hW => sl_nil⟩, hs⟩
set_option maxHeartbeats 1000000 in
set_option maxRecDepth 100000 in
theorem statusFits_walk (ack n : Int) (A : Option Addr) (m c : Nat) (l : List NkV) (w : World) (hx : Sl w A (l.flatMap NkV.cells)) (hl : l.length = m) (hmc : m ≤ c) (hm : c ≤ maxLen) :
    Calls Try.prog 5 #[.agg #[.int .i64 ack, .slice A m c], .int .i64 n] w (SX.Ret fun v w' => v = .bool true ∧ SX.St w [] w' []) := by
  have hs := SX.St.start w
  by_cases h100 : m ≤ 100
  · have hf : (l.flatMap NkV.cells).length = m * 4 := by rw [nk_flat, hl]
    have hone : ∀ u ∈ l.flatMap NkV.cells, u.oneCell' = true := fun u hu => by
      obtain ⟨x, -, hx⟩ := List.mem_flatMap.1 hu
      exact nk_one x u hx
    have hjl := fitJ_le l ack n
    have htl : (l.take (fitJ l ack n)).length = fitJ l ack n := by rw [List.length_take]; omega
    refine Z.enter Try.func5 rfl Try.ntmps5 rfl rfl ?_
    refine Z.seq ?_
    refine Z.region ?_
    refine Z.le rfl trivial ?_
    refine Z.ZO.box rfl rfl (by rfl) rfl rfl hs ?_
    clear hs; intro g2 w2 hs
    refine Z.lb 1 rfl ?_
    refine Z.lnil ?_
    refine Z.only [1, 2] rfl ?_
    refine Z.nthen ?_
    refine Z.seq ?_
    refine Z.seq ?_
    refine Z.region ?_
    refine Z.l rfl rfl (by rfl) (Z.keepS hs) (Z.Yd.fieldA (m := 1) rfl (by kernel_rfl)) ?_
    refine Z.l rfl rfl (by rfl) (Z.keepS hs) (by first | exact Z.Yd.load rfl Try.isAgg22 (fun _ => Z.cellB (by first | ((repeat (first | exact List.mem_cons_self | refine List.mem_cons_of_mem _ ?_ | refine List.mem_append_right _ ?_)); done) | fail) rfl) | exact Z.Yd.load rfl Try.isAgg22 (fun _ => Z.cellO (by assumption) (by simp) (by assumption)) | fail "load 1.1") ?_
    refine Z.l rfl rfl (by rfl) (Z.keepS hs) (Z.Yd.lenS rfl Try.underlying22) ?_
    refine Z.lb 1 rfl ?_
    refine Z.lnil ?_
    refine Z.only [1, 2, 14] rfl ?_
    refine Z.nthen ?_
    refine Z.cond rfl (fun h => absurd h (by simp; omega)) (fun hc1 => ?_)
    refine Z.skip ?_
    refine Z.nthen ?_
    refine Z.seq ?_
    refine Z.cutt (ι := Nat × Value) [1, 2] rfl (fun x => [(5, [], .pointer (some ⟨x.1, 0, none⟩))]) (fun x wr => SX.St w [] wr [SX.Ent.row x.2 45 4 m (l.flatMap NkV.cells), SX.Ent.blk x.1 24 #[.int .i64 ack, x.2], SX.Ent.blk g2 24 #[.int .i64 ack, .slice A m c]]) ?_ ?_
    · skip
      refine Z.drawK (fun _ => true) mixed hs ?_
      clear hs; intro wd3 hs
      refine Z.t 0 rfl rfl rfl (by rfl) (by kernel_rfl) ⟨_, hs, by first | (simp; done) | exact fun e he => List.mem_append_right _ he⟩ (Z.Yd.fieldA (m := 0) rfl (by kernel_rfl)) ?_
      refine Z.t 1 rfl rfl rfl (by rfl) (by kernel_rfl) ⟨_, hs, by first | (simp; done) | exact fun e he => List.mem_append_right _ he⟩ (by first | exact Z.Yd.load rfl Try.isAgg3 (fun _ => Z.cellB (by first | ((repeat (first | exact List.mem_cons_self | refine List.mem_cons_of_mem _ ?_ | refine List.mem_append_right _ ?_)); done) | fail) rfl) | exact Z.Yd.load rfl Try.isAgg3 (fun _ => Z.cellO (by assumption) (by simp) (by assumption)) | fail "load 3.1") ?_
      refine Z.t 3 rfl rfl rfl (by rfl) (by kernel_rfl) ⟨_, hs, by first | (simp; done) | exact fun e he => List.mem_append_right _ he⟩ (Z.Yd.fieldA (m := 1) rfl (by kernel_rfl)) ?_
      refine Z.t 4 rfl rfl rfl (by rfl) (by kernel_rfl) ⟨_, hs, by first | (simp; done) | exact fun e he => List.mem_append_right _ he⟩ (by first | exact Z.Yd.load rfl Try.isAgg22 (fun _ => Z.cellB (by first | ((repeat (first | exact List.mem_cons_self | refine List.mem_cons_of_mem _ ?_ | refine List.mem_append_right _ ?_)); done) | fail) rfl) | exact Z.Yd.load rfl Try.isAgg22 (fun _ => Z.cellO (by assumption) (by simp) (by assumption)) | fail "load 3.4") ?_
      refine Z.fork2 2 7 rfl rfl rfl (by kernel_rfl) rfl rfl trivial trivial ?_ ?_
      · skip
        refine Z.ZO.empty rfl rfl (by rfl) Try.underlying22 Try.sizeOf45 hs ?_
        clear hs; intro g18 w18 hs
        refine Z.tk (Dn := fun _ => true) (i := 2) (fun _ => ⟨_, hs, by first | (simp; done) | exact fun e he => List.mem_append_right _ he⟩) ?_
        refine Z.fork2 5 7 rfl rfl rfl (by kernel_rfl) rfl rfl trivial trivial ?_ ?_
        · skip
          refine Z.ZO.appendG (i0 := Try.t45) (size := 4) (bytes := 32) rfl rfl (by rfl) hs Try.underlying22 (by kernel_rfl) rfl rfl rfl rfl (by decide) rfl rfl (by first | exact SX.at0 | exact SX.at1 | exact SX.at2 | exact SX.at3 | exact SX.at4 | exact SX.at5 | exact Z.at6 | exact Z.at7 | exact Z.at8 | exact Z.at9 | exact Z.at10 | exact Z.at11 | exact Z.at12) (hx.st (hs.sub (List.nil_sublist _))) (by first | rfl | assumption | (simp [ints_length]; done) | (simp [ints_length]; omega)) (by first | exact Z.ints_one | assumption | simp [Value.oneCell']) (by unfold maxLen; omega) (by omega) ?_
          clear hs; intro v21 w21 hs
          simp only [List.set_cons_zero, List.set_cons_succ] at hs
          obtain ⟨B26, c26, rfl⟩ : ∃ B26 c26, v21 = .slice B26 (0 + m) c26 := by
            first
            | (obtain ⟨B, c, h, -, -, -⟩ := SX.row_slv hs (j := 0) rfl; exact ⟨B, c, h⟩)
            | (obtain ⟨B, c, h, -, -, -⟩ := SX.row_slv hs (j := 1) rfl; exact ⟨B, c, h⟩)
            | (obtain ⟨B, c, h, -, -, -⟩ := SX.row_slv hs (j := 2) rfl; exact ⟨B, c, h⟩)
          rw [Nat.zero_add, List.nil_append] at hs
          refine Z.tk (Dn := fun _ => true) (i := 5) (fun _ => ⟨_, hs, by first | (simp; done) | exact fun e he => List.mem_append_right _ he⟩) ?_
          refine Z.t 6 rfl rfl rfl (by rfl) (by kernel_rfl) ⟨_, hs, by first | (simp; done) | exact fun e he => List.mem_append_right _ he⟩ (Z.Yd.buildL [(0, 1), (1, 1)] [.int .i64 0, .slice none 0 0] rfl rfl (by intro w; kernel_rfl)) ?_
          refine Z.tn 7 rfl rfl (by kernel_rfl) rfl trivial ?_
          refine Z.ZO.alloc rfl rfl (by rfl) Try.zeroValue24 rfl hs ?_
          clear hs; intro g5 w5 hs
          refine Z.tk (Dn := fun _ => true) (i := 7) (fun _ => ⟨_, hs, by first | (simp; done) | exact fun e he => List.mem_append_right _ he⟩) ?_
          refine Z.tn 8 rfl rfl (by kernel_rfl) rfl trivial ?_
          first | refine Z.ZO.storeA rfl rfl hs rfl rfl (by kernel_rfl) (by first | (simp [Value.oneCell']; done) | (refine Z.all_one ?_; assumption)) (by first | exact SX.at0 | exact SX.at1 | exact SX.at2 | exact SX.at3 | exact SX.at4 | exact SX.at5 | exact Z.at6 | exact Z.at7 | exact Z.at8 | exact Z.at9 | exact Z.at10 | exact Z.at11 | exact Z.at12) (by rfl) ?_ | refine Z.ZO.storeP rfl rfl hs rfl rfl (by kernel_rfl) (by first | (simp [Value.oneCell']; done) | (refine Z.all_one ?_; assumption)) (by first | exact SX.at0 | exact SX.at1 | exact SX.at2 | exact SX.at3 | exact SX.at4 | exact SX.at5 | exact Z.at6 | exact Z.at7 | exact Z.at8 | exact Z.at9 | exact Z.at10 | exact Z.at11 | exact Z.at12) (by first | decide | (simp; done) | (simp; omega)) ?_ | refine Z.ZO.storePR rfl rfl hs rfl rfl (by kernel_rfl) (by first | (simp [Value.oneCell']; done) | (refine Z.all_one ?_; assumption)) (by first | exact SX.at0 | exact SX.at1 | exact SX.at2 | exact SX.at3 | exact SX.at4 | exact SX.at5 | exact Z.at6 | exact Z.at7 | exact Z.at8 | exact Z.at9 | exact Z.at10 | exact Z.at11 | exact Z.at12) (by first | decide | (simp; done) | (simp; omega)) ?_
          clear hs; intro ws hs
          simp only [Nat.zero_add, Nat.add_zero, Nat.reduceAdd, Int.reduceToNat, Nat.reduceMul, List.set_cons_zero, List.set_cons_succ, List.setIfInBounds_toArray] at hs
          try simp only [Z.putL, Nat.zero_add] at hs
          refine Z.tk (Dn := fun _ => true) (i := 8) (fun _ => ⟨_, hs, by first | (simp; done) | exact fun e he => List.mem_append_right _ he⟩) ?_
          refine Z.td (by rfl) (by kernel_rfl) ?_
          refine Z.only [1, 2, 5] rfl ?_
          refine Z.nthen ?_
          exact Z.meet (g5, _) (by refine ⟨?_, ?_, ?_, trivial⟩ <;> (first | rfl | (refine Z.lookv rfl ?_; simp; done) | (refine Z.lookv rfl ?_; simp; omega))) (by first | exact hs | exact hs.sel [1, 0, 2] (by decide))
        · skip
          refine Z.ZO.alloc rfl rfl (by rfl) Try.zeroValue24 rfl hs ?_
          clear hs; intro g5 w5 hs
          refine Z.tk (Dn := fun _ => true) (i := 7) (fun _ => ⟨_, hs, by first | (simp; done) | exact fun e he => List.mem_append_right _ he⟩) ?_
          refine Z.tn 5 rfl rfl (by kernel_rfl) rfl trivial ?_
          refine Z.ZO.appendG (i0 := Try.t45) (size := 4) (bytes := 32) rfl rfl (by rfl) hs Try.underlying22 (by kernel_rfl) rfl rfl rfl rfl (by decide) rfl rfl (by first | exact SX.at0 | exact SX.at1 | exact SX.at2 | exact SX.at3 | exact SX.at4 | exact SX.at5 | exact Z.at6 | exact Z.at7 | exact Z.at8 | exact Z.at9 | exact Z.at10 | exact Z.at11 | exact Z.at12) (hx.st (hs.sub (List.nil_sublist _))) (by first | rfl | assumption | (simp [ints_length]; done) | (simp [ints_length]; omega)) (by first | exact Z.ints_one | assumption | simp [Value.oneCell']) (by unfold maxLen; omega) (by omega) ?_
          clear hs; intro v21 w21 hs
          simp only [List.set_cons_zero, List.set_cons_succ] at hs
          obtain ⟨B26, c26, rfl⟩ : ∃ B26 c26, v21 = .slice B26 (0 + m) c26 := by
            first
            | (obtain ⟨B, c, h, -, -, -⟩ := SX.row_slv hs (j := 0) rfl; exact ⟨B, c, h⟩)
            | (obtain ⟨B, c, h, -, -, -⟩ := SX.row_slv hs (j := 1) rfl; exact ⟨B, c, h⟩)
            | (obtain ⟨B, c, h, -, -, -⟩ := SX.row_slv hs (j := 2) rfl; exact ⟨B, c, h⟩)
          rw [Nat.zero_add, List.nil_append] at hs
          refine Z.tk (Dn := fun _ => true) (i := 5) (fun _ => ⟨_, hs, by first | (simp; done) | exact fun e he => List.mem_append_right _ he⟩) ?_
          refine Z.t 6 rfl rfl rfl (by rfl) (by kernel_rfl) ⟨_, hs, by first | (simp; done) | exact fun e he => List.mem_append_right _ he⟩ (Z.Yd.buildL [(0, 1), (1, 1)] [.int .i64 0, .slice none 0 0] rfl rfl (by intro w; kernel_rfl)) ?_
          refine Z.tn 8 rfl rfl (by kernel_rfl) rfl trivial ?_
          first | refine Z.ZO.storeA rfl rfl hs rfl rfl (by kernel_rfl) (by first | (simp [Value.oneCell']; done) | (refine Z.all_one ?_; assumption)) (by first | exact SX.at0 | exact SX.at1 | exact SX.at2 | exact SX.at3 | exact SX.at4 | exact SX.at5 | exact Z.at6 | exact Z.at7 | exact Z.at8 | exact Z.at9 | exact Z.at10 | exact Z.at11 | exact Z.at12) (by rfl) ?_ | refine Z.ZO.storeP rfl rfl hs rfl rfl (by kernel_rfl) (by first | (simp [Value.oneCell']; done) | (refine Z.all_one ?_; assumption)) (by first | exact SX.at0 | exact SX.at1 | exact SX.at2 | exact SX.at3 | exact SX.at4 | exact SX.at5 | exact Z.at6 | exact Z.at7 | exact Z.at8 | exact Z.at9 | exact Z.at10 | exact Z.at11 | exact Z.at12) (by first | decide | (simp; done) | (simp; omega)) ?_ | refine Z.ZO.storePR rfl rfl hs rfl rfl (by kernel_rfl) (by first | (simp [Value.oneCell']; done) | (refine Z.all_one ?_; assumption)) (by first | exact SX.at0 | exact SX.at1 | exact SX.at2 | exact SX.at3 | exact SX.at4 | exact SX.at5 | exact Z.at6 | exact Z.at7 | exact Z.at8 | exact Z.at9 | exact Z.at10 | exact Z.at11 | exact Z.at12) (by first | decide | (simp; done) | (simp; omega)) ?_
          clear hs; intro ws hs
          simp only [Nat.zero_add, Nat.add_zero, Nat.reduceAdd, Int.reduceToNat, Nat.reduceMul, List.set_cons_zero, List.set_cons_succ, List.setIfInBounds_toArray] at hs
          try simp only [Z.putL, Nat.zero_add] at hs
          refine Z.tk (Dn := fun _ => true) (i := 8) (fun _ => ⟨_, hs, by first | (simp; done) | exact fun e he => List.mem_append_right _ he⟩) ?_
          refine Z.td (by rfl) (by kernel_rfl) ?_
          refine Z.only [1, 2, 5] rfl ?_
          refine Z.nthen ?_
          exact Z.meet (g5, _) (by refine ⟨?_, ?_, ?_, trivial⟩ <;> (first | rfl | (refine Z.lookv rfl ?_; simp; done) | (refine Z.lookv rfl ?_; simp; omega))) (by first | exact hs | exact hs.sel [1, 0, 2] (by decide))
      · skip
        refine Z.ZO.alloc rfl rfl (by rfl) Try.zeroValue24 rfl hs ?_
        clear hs; intro g5 w5 hs
        refine Z.tk (Dn := fun _ => true) (i := 7) (fun _ => ⟨_, hs, by first | (simp; done) | exact fun e he => List.mem_append_right _ he⟩) ?_
        refine Z.tn 2 rfl rfl (by kernel_rfl) rfl trivial ?_
        refine Z.ZO.empty rfl rfl (by rfl) Try.underlying22 Try.sizeOf45 hs ?_
        clear hs; intro g18 w18 hs
        refine Z.tk (Dn := fun _ => true) (i := 2) (fun _ => ⟨_, hs, by first | (simp; done) | exact fun e he => List.mem_append_right _ he⟩) ?_
        refine Z.tn 5 rfl rfl (by kernel_rfl) rfl trivial ?_
        refine Z.ZO.appendG (i0 := Try.t45) (size := 4) (bytes := 32) rfl rfl (by rfl) hs Try.underlying22 (by kernel_rfl) rfl rfl rfl rfl (by decide) rfl rfl (by first | exact SX.at0 | exact SX.at1 | exact SX.at2 | exact SX.at3 | exact SX.at4 | exact SX.at5 | exact Z.at6 | exact Z.at7 | exact Z.at8 | exact Z.at9 | exact Z.at10 | exact Z.at11 | exact Z.at12) (hx.st (hs.sub (List.nil_sublist _))) (by first | rfl | assumption | (simp [ints_length]; done) | (simp [ints_length]; omega)) (by first | exact Z.ints_one | assumption | simp [Value.oneCell']) (by unfold maxLen; omega) (by omega) ?_
        clear hs; intro v21 w21 hs
        simp only [List.set_cons_zero, List.set_cons_succ] at hs
        obtain ⟨B26, c26, rfl⟩ : ∃ B26 c26, v21 = .slice B26 (0 + m) c26 := by
          first
          | (obtain ⟨B, c, h, -, -, -⟩ := SX.row_slv hs (j := 0) rfl; exact ⟨B, c, h⟩)
          | (obtain ⟨B, c, h, -, -, -⟩ := SX.row_slv hs (j := 1) rfl; exact ⟨B, c, h⟩)
          | (obtain ⟨B, c, h, -, -, -⟩ := SX.row_slv hs (j := 2) rfl; exact ⟨B, c, h⟩)
        rw [Nat.zero_add, List.nil_append] at hs
        refine Z.tk (Dn := fun _ => true) (i := 5) (fun _ => ⟨_, hs, by first | (simp; done) | exact fun e he => List.mem_append_right _ he⟩) ?_
        refine Z.t 6 rfl rfl rfl (by rfl) (by kernel_rfl) ⟨_, hs, by first | (simp; done) | exact fun e he => List.mem_append_right _ he⟩ (Z.Yd.buildL [(0, 1), (1, 1)] [.int .i64 0, .slice none 0 0] rfl rfl (by intro w; kernel_rfl)) ?_
        refine Z.tn 8 rfl rfl (by kernel_rfl) rfl trivial ?_
        first | refine Z.ZO.storeA rfl rfl hs rfl rfl (by kernel_rfl) (by first | (simp [Value.oneCell']; done) | (refine Z.all_one ?_; assumption)) (by first | exact SX.at0 | exact SX.at1 | exact SX.at2 | exact SX.at3 | exact SX.at4 | exact SX.at5 | exact Z.at6 | exact Z.at7 | exact Z.at8 | exact Z.at9 | exact Z.at10 | exact Z.at11 | exact Z.at12) (by rfl) ?_ | refine Z.ZO.storeP rfl rfl hs rfl rfl (by kernel_rfl) (by first | (simp [Value.oneCell']; done) | (refine Z.all_one ?_; assumption)) (by first | exact SX.at0 | exact SX.at1 | exact SX.at2 | exact SX.at3 | exact SX.at4 | exact SX.at5 | exact Z.at6 | exact Z.at7 | exact Z.at8 | exact Z.at9 | exact Z.at10 | exact Z.at11 | exact Z.at12) (by first | decide | (simp; done) | (simp; omega)) ?_ | refine Z.ZO.storePR rfl rfl hs rfl rfl (by kernel_rfl) (by first | (simp [Value.oneCell']; done) | (refine Z.all_one ?_; assumption)) (by first | exact SX.at0 | exact SX.at1 | exact SX.at2 | exact SX.at3 | exact SX.at4 | exact SX.at5 | exact Z.at6 | exact Z.at7 | exact Z.at8 | exact Z.at9 | exact Z.at10 | exact Z.at11 | exact Z.at12) (by first | decide | (simp; done) | (simp; omega)) ?_
        clear hs; intro ws hs
        simp only [Nat.zero_add, Nat.add_zero, Nat.reduceAdd, Int.reduceToNat, Nat.reduceMul, List.set_cons_zero, List.set_cons_succ, List.setIfInBounds_toArray] at hs
        try simp only [Z.putL, Nat.zero_add] at hs
        refine Z.tk (Dn := fun _ => true) (i := 8) (fun _ => ⟨_, hs, by first | (simp; done) | exact fun e he => List.mem_append_right _ he⟩) ?_
        refine Z.td (by rfl) (by kernel_rfl) ?_
        refine Z.only [1, 2, 5] rfl ?_
        refine Z.nthen ?_
        exact Z.meet (g5, _) (by refine ⟨?_, ?_, ?_, trivial⟩ <;> (first | rfl | (refine Z.lookv rfl ?_; simp; done) | (refine Z.lookv rfl ?_; simp; omega))) (by first | exact hs | exact hs.sel [1, 0, 2] (by decide))
    · clear hs
      rintro ⟨g5, sv⟩ w3 hs
      refine Z.only [1, 2, 5] rfl ?_
      (try dsimp only at hs)
      obtain ⟨B0, d0, rfl, -, -, -⟩ := SX.row_slv hs (j := 0) rfl
      refine Z.seq ?_
      refine Z.region ?_
      refine Z.l rfl rfl (by rfl) (Z.keepS hs) (by first | exact Z.Yd.loadA _ rfl Try.isAgg24 (fun _ => Z.cellsB (by first | ((repeat (first | exact List.mem_cons_self | refine List.mem_cons_of_mem _ ?_ | refine List.mem_append_right _ ?_)); done) | fail)) (by exact Try.sizeOf24) | fail "load 4.0") ?_
      refine Z.lb 1 rfl ?_
      refine Z.le rfl trivial ?_
      refine Z.ZO.call rfl rfl (by rfl) rfl rfl Try.call20 rfl (fit_any ack n B0 m d0 l _ (hs.slm (by first | ((repeat (first | exact List.mem_cons_self | refine List.mem_cons_of_mem _ ?_ | refine List.mem_append_right _ ?_)); done) | fail)) hl (by omega)) ?_
      rintro v4_2 w4_2 ⟨B1, co1, cc1, lc, xs, rfl, hj1, hj2, hxs, hpre, hy⟩
      replace hs := hs.call hy
      clear hy
      try simp only [List.cons_append, List.nil_append, List.append_nil] at hs
      refine Z.lb 3 rfl ?_
      refine Z.le rfl trivial ?_
      refine Z.ZO.alloc rfl rfl (by rfl) Try.zeroValue24 rfl hs ?_
      clear hs; intro g6 w6 hs
      refine Z.le rfl trivial ?_
      first | refine Z.ZO.storeA rfl rfl hs rfl rfl (by kernel_rfl) (by first | (simp [Value.oneCell']; done) | (refine Z.all_one ?_; assumption)) (by first | exact SX.at0 | exact SX.at1 | exact SX.at2 | exact SX.at3 | exact SX.at4 | exact SX.at5 | exact Z.at6 | exact Z.at7 | exact Z.at8 | exact Z.at9 | exact Z.at10 | exact Z.at11 | exact Z.at12) (by rfl) ?_ | refine Z.ZO.storeP rfl rfl hs rfl rfl (by kernel_rfl) (by first | (simp [Value.oneCell']; done) | (refine Z.all_one ?_; assumption)) (by first | exact SX.at0 | exact SX.at1 | exact SX.at2 | exact SX.at3 | exact SX.at4 | exact SX.at5 | exact Z.at6 | exact Z.at7 | exact Z.at8 | exact Z.at9 | exact Z.at10 | exact Z.at11 | exact Z.at12) (by first | decide | (simp; done) | (simp; omega)) ?_ | refine Z.ZO.storePR rfl rfl hs rfl rfl (by kernel_rfl) (by first | (simp [Value.oneCell']; done) | (refine Z.all_one ?_; assumption)) (by first | exact SX.at0 | exact SX.at1 | exact SX.at2 | exact SX.at3 | exact SX.at4 | exact SX.at5 | exact Z.at6 | exact Z.at7 | exact Z.at8 | exact Z.at9 | exact Z.at10 | exact Z.at11 | exact Z.at12) (by first | decide | (simp; done) | (simp; omega)) ?_
      clear hs; intro ws hs
      simp only [Nat.zero_add, Nat.add_zero, Nat.reduceAdd, Int.reduceToNat, Nat.reduceMul, List.set_cons_zero, List.set_cons_succ, List.setIfInBounds_toArray] at hs
      try simp only [Z.putL, Nat.zero_add] at hs
      refine Z.lb 1 rfl ?_
      refine Z.lnil ?_
      refine Z.only [1, 2, 5, 6, 7] rfl ?_
      refine Z.nthen ?_
      refine Z.seq ?_
      refine Z.region ?_
      refine Z.l rfl rfl (by rfl) (Z.keepS hs) (by first | exact Z.Yd.loadA _ rfl Try.isAgg24 (fun _ => Z.cellsB (by first | ((repeat (first | exact List.mem_cons_self | refine List.mem_cons_of_mem _ ?_ | refine List.mem_append_right _ ?_)); done) | fail)) (by exact Try.sizeOf24) | fail "load 5.0") ?_
      refine Z.lb 1 rfl ?_
      refine Z.le rfl trivial ?_
      refine Z.ZO.call rfl rfl (by rfl) rfl rfl Try.call21 rfl (rfit_any ack n A m c l _ (hx.st (hs.sub (List.nil_sublist _))) hl (by omega) hmc) ?_
      rintro v5_2 w5_2 ⟨⟨X, cx, rfl, hX⟩, hy⟩
      replace hs := hs.call hy
      clear hy
      try simp only [List.cons_append, List.nil_append, List.append_nil] at hs
      refine Z.lb 3 rfl ?_
      refine Z.le rfl trivial ?_
      refine Z.ZO.alloc rfl rfl (by rfl) Try.zeroValue24 rfl hs ?_
      clear hs; intro g8 w8 hs
      refine Z.le rfl trivial ?_
      first | refine Z.ZO.storeA rfl rfl hs rfl rfl (by kernel_rfl) (by first | (simp [Value.oneCell']; done) | (refine Z.all_one ?_; assumption)) (by first | exact SX.at0 | exact SX.at1 | exact SX.at2 | exact SX.at3 | exact SX.at4 | exact SX.at5 | exact Z.at6 | exact Z.at7 | exact Z.at8 | exact Z.at9 | exact Z.at10 | exact Z.at11 | exact Z.at12) (by rfl) ?_ | refine Z.ZO.storeP rfl rfl hs rfl rfl (by kernel_rfl) (by first | (simp [Value.oneCell']; done) | (refine Z.all_one ?_; assumption)) (by first | exact SX.at0 | exact SX.at1 | exact SX.at2 | exact SX.at3 | exact SX.at4 | exact SX.at5 | exact Z.at6 | exact Z.at7 | exact Z.at8 | exact Z.at9 | exact Z.at10 | exact Z.at11 | exact Z.at12) (by first | decide | (simp; done) | (simp; omega)) ?_ | refine Z.ZO.storePR rfl rfl hs rfl rfl (by kernel_rfl) (by first | (simp [Value.oneCell']; done) | (refine Z.all_one ?_; assumption)) (by first | exact SX.at0 | exact SX.at1 | exact SX.at2 | exact SX.at3 | exact SX.at4 | exact SX.at5 | exact Z.at6 | exact Z.at7 | exact Z.at8 | exact Z.at9 | exact Z.at10 | exact Z.at11 | exact Z.at12) (by first | decide | (simp; done) | (simp; omega)) ?_
      clear hs; intro ws hs
      simp only [Nat.zero_add, Nat.add_zero, Nat.reduceAdd, Int.reduceToNat, Nat.reduceMul, List.set_cons_zero, List.set_cons_succ, List.setIfInBounds_toArray] at hs
      try simp only [Z.putL, Nat.zero_add] at hs
      refine Z.lb 1 rfl ?_
      refine Z.lnil ?_
      refine Z.only [2, 5, 6, 7, 8, 9] rfl ?_
      refine Z.nthen ?_
      refine Z.seq ?_
      refine Z.seq ?_
      refine Z.region ?_
      refine Z.l rfl rfl (by rfl) (Z.keepS hs) (by first | exact Z.Yd.loadA _ rfl Try.isAgg24 (fun _ => Z.cellsB (by first | ((repeat (first | exact List.mem_cons_self | refine List.mem_cons_of_mem _ ?_ | refine List.mem_append_right _ ?_)); done) | fail)) (by exact Try.sizeOf24) | fail "load 6.0") ?_
      refine Z.l rfl rfl (by rfl) (Z.keepS hs) (by first | exact Z.Yd.loadA _ rfl Try.isAgg24 (fun _ => Z.cellsB (by first | ((repeat (first | exact List.mem_cons_self | refine List.mem_cons_of_mem _ ?_ | refine List.mem_append_right _ ?_)); done) | fail)) (by exact Try.sizeOf24) | fail "load 6.1") ?_
      refine Z.le rfl trivial ?_
      refine Z.ZO.call rfl rfl (by rfl) rfl rfl Try.call19 rfl (rsame34 _ _ B1 X _ _ _ _ (l.take (fitJ l ack n)) (l.take (fitJ l ack n)) _ (Sl.pre (hs.slm (A := B1) (by first | ((repeat (first | exact List.mem_cons_self | refine List.mem_cons_of_mem _ ?_ | refine List.mem_append_right _ ?_)); done) | fail)) hpre) (hX _ (hx.st (hs.sub (List.nil_sublist _)))) htl htl (by omega)) ?_
      rintro v6_2 w6_2 ⟨rfl, hy⟩
      replace hs := hs.call hy
      clear hy
      try simp only [List.cons_append, List.nil_append, List.append_nil] at hs
      refine Z.lb 2 rfl ?_
      refine Z.yes (s := 39) (b := false) rfl ((by simp)) rfl ?_
      refine Z.lb 1 rfl ?_
      refine Z.yes (s := 39) (b := false) rfl rfl rfl ?_
      refine Z.le rfl (by exact ⟨rfl, trivial⟩) ?_
      refine Z.ZO.call rfl rfl (by rfl) rfl rfl Try.call13 rfl (num34 _ _) ?_
      rintro v6_6 w6_6 ⟨rfl, hy⟩
      replace hs := hs.call hy
      clear hy
      try simp only [List.cons_append, List.nil_append, List.append_nil] at hs
      refine Z.lb 2 rfl ?_
      refine Z.yes (s := 39) (b := false) rfl rfl rfl ?_
      refine Z.l rfl rfl (by rfl) (Z.keepS hs) (Z.Yd.pickF rfl rfl) ?_
      refine Z.lnil ?_
      refine Z.only [2, 5, 6, 44] rfl ?_
      refine Z.nthen ?_
      refine Z.cond rfl (fun h => absurd h (by simp)) (fun hc6 => ?_)
      refine Z.skip ?_
      refine Z.nthen ?_
      refine Z.seq ?_
      refine Z.seq ?_
      refine Z.region ?_
      refine Z.lb 1 rfl ?_
      refine Z.lnil ?_
      refine Z.only [2, 5, 6, 10] rfl ?_
      replace hs := hs.sel [2, 1, 3, 4, 5] (by decide)
      refine Z.nthen ?_
      refine Z.block ?_
      refine Z.loopk (ι := Nat × List Value) [2, 5, 6] rfl (fun x => [(10, [], .int .i64 (x.1 : Int))]) (fun x wr => (x.1 ≤ fitJ l ack n ∧ x.2.length = lc * 4) ∧ SX.St w [] wr [SX.Ent.row (.slice B1 lc co1) 45 4 lc x.2, SX.Ent.blk g6 24 #[.int .i64 (fitA l ack n), .slice B1 (fitJ l ack n) cc1], SX.Ent.row (.slice B0 m d0) 45 4 m (l.flatMap NkV.cells), SX.Ent.blk g5 24 #[.int .i64 ack, .slice B0 m d0], SX.Ent.blk g2 24 #[.int .i64 ack, .slice A m c]]) (fun x => fitJ l ack n - x.1) (0, xs) (by refine ⟨?_, trivial⟩ <;> (first | rfl | (refine Z.lookv rfl ?_; simp; done) | (refine Z.lookv rfl ?_; simp; omega))) ⟨⟨Nat.zero_le _, hxs⟩, hs⟩ ?_
      clear hs
      rintro ⟨i, ys⟩ w9 ⟨⟨hi, hys⟩, hs⟩
      refine Z.only [2, 5, 6, 10] rfl ?_
      (try dsimp only at hs)
      dsimp only at hi hys
      refine Z.seq ?_
      refine Z.seq ?_
      refine Z.region ?_
      refine Z.lb 1 rfl ?_
      refine Z.l rfl rfl (by rfl) (Z.keepS hs) (Z.Yd.fieldA (m := 1) rfl (by kernel_rfl)) ?_
      refine Z.l rfl rfl (by rfl) (Z.keepS hs) (by first | exact Z.Yd.load rfl Try.isAgg22 (fun _ => Z.cellB (by first | ((repeat (first | exact List.mem_cons_self | refine List.mem_cons_of_mem _ ?_ | refine List.mem_append_right _ ?_)); done) | fail) rfl) | exact Z.Yd.load rfl Try.isAgg22 (fun _ => Z.cellO (by assumption) (by simp) (by assumption)) | fail "load 9.2") ?_
      refine Z.l rfl rfl (by rfl) (Z.keepS hs) (Z.Yd.lenS rfl Try.underlying22) ?_
      refine Z.lb 1 rfl ?_
      refine Z.lnil ?_
      refine Z.only [2, 5, 6, 10, 49] rfl ?_
      refine Z.nthen ?_
      refine Z.cond rfl (fun hc9 => ?_) (fun hc9 => ?_)
      · first
          | (exfalso; simp at hc9 <;> omega)
          | (
            (try simp at hc9)
            obtain ⟨gB, cB, eB, -, -⟩ := row_form (j := 0) hs rfl (by omega)
            cases eB
            refine Z.skip ?_
            refine Z.nthen ?_
            refine Z.seq ?_
            refine Z.block ?_
            refine Z.region ?_
            refine Z.l rfl rfl (by rfl) (Z.keepS hs) (Z.Yd.fieldA (m := 1) rfl (by kernel_rfl)) ?_
            refine Z.l rfl rfl (by rfl) (Z.keepS hs) (by first | exact Z.Yd.load rfl Try.isAgg22 (fun _ => Z.cellB (by first | ((repeat (first | exact List.mem_cons_self | refine List.mem_cons_of_mem _ ?_ | refine List.mem_append_right _ ?_)); done) | fail) rfl) | exact Z.Yd.load rfl Try.isAgg22 (fun _ => Z.cellO (by assumption) (by simp) (by assumption)) | fail "load 11.1") ?_
            refine Z.lb 1 rfl ?_
            refine Z.l rfl rfl (by rfl) (Z.keepS hs) (Z.Yd.elem rfl rfl Try.underlying22 Try.sizeOf45 (fun hG => ⟨(by first | omega | (have hG' := Z.gh rfl hG; simp at hG'; omega)), (by first | omega | (have hG' := Z.gh rfl hG; simp at hG'; omega))⟩)) ?_
            refine Z.l rfl rfl (by rfl) (Z.keepS hs) (Z.Yd.fieldA (m := 0) rfl (by kernel_rfl)) ?_
            refine Z.le rfl trivial ?_
            first | refine Z.ZO.store rfl rfl hs Try.sizeOf3 rfl rfl rfl (by first | exact SX.at0 | exact SX.at1 | exact SX.at2 | exact SX.at3 | exact SX.at4 | exact SX.at5 | exact Z.at6 | exact Z.at7 | exact Z.at8 | exact Z.at9 | exact Z.at10 | exact Z.at11 | exact Z.at12) (by first | (simp; done) | (simp; omega)) ?_ | refine Z.ZO.storeR rfl rfl hs Try.sizeOf3 rfl rfl rfl (by first | exact SX.at0 | exact SX.at1 | exact SX.at2 | exact SX.at3 | exact SX.at4 | exact SX.at5 | exact Z.at6 | exact Z.at7 | exact Z.at8 | exact Z.at9 | exact Z.at10 | exact Z.at11 | exact Z.at12) (by first | omega | (simp [ints_length]; done) | (simp [ints_length]; omega)) ?_
            clear hs; intro ws hs
            simp only [Nat.zero_add, Nat.add_zero, Nat.reduceAdd, Int.reduceToNat, Nat.reduceMul, List.set_cons_zero, List.set_cons_succ, List.setIfInBounds_toArray] at hs
            refine Z.lnil ?_
            refine Z.only [2, 5, 6, 10] rfl ?_
            refine Z.nblock ?_
            refine Z.nthen ?_
            refine Z.region ?_
            refine Z.lb 1 rfl ?_
            refine Z.l rfl rfl (by rfl) (Z.keepS hs) (Z.Yd.add rfl rfl (fun hG => Z.wi64 (by first | omega | (have hG' := Z.gh rfl hG; simp at hG'; omega)))) ?_
            refine Z.lb 1 rfl ?_
            refine Z.lnil ?_
            refine Z.only [2, 5, 6, 10] rfl ?_
            refine Z.nthen ?_
            exact Z.again (i + 1, _) (by refine ⟨?_, ?_, ?_, ?_, trivial⟩ <;> (first | rfl | (refine Z.lookv rfl ?_; simp; done) | (refine Z.lookv rfl ?_; simp; omega))) ⟨⟨by simp only; omega, by rw [List.length_set]; exact hys⟩, hs⟩ (by simp only; omega)
            )
      · first
          | (exfalso; simp at hc9 <;> omega)
          | (
            (try simp at hc9)
            refine Z.exit ?_
            refine Z.xthen ?_
            refine Z.xthen ?_
            refine Z.xblock ?_
            refine Z.nthen ?_
            refine Z.seq ?_
            refine Z.region ?_
            refine Z.l rfl rfl (by rfl) (Z.keepS hs) (by first | exact Z.Yd.loadA _ rfl Try.isAgg24 (fun _ => Z.cellsB (by first | ((repeat (first | exact List.mem_cons_self | refine List.mem_cons_of_mem _ ?_ | refine List.mem_append_right _ ?_)); done) | fail)) (by exact Try.sizeOf24) | fail "load 12.0") ?_
            refine Z.l rfl rfl (by rfl) (Z.keepS hs) (by first | exact Z.Yd.loadA _ rfl Try.isAgg24 (fun _ => Z.cellsB (by first | ((repeat (first | exact List.mem_cons_self | refine List.mem_cons_of_mem _ ?_ | refine List.mem_append_right _ ?_)); done) | fail)) (by exact Try.sizeOf24) | fail "load 12.1") ?_
            refine Z.le rfl trivial ?_
            refine Z.ZO.call rfl rfl (by rfl) rfl rfl Try.call19 rfl (rsame34 ack ack B0 A m d0 m c l l _ (hs.slm (A := B0) (by first | ((repeat (first | exact List.mem_cons_self | refine List.mem_cons_of_mem _ ?_ | refine List.mem_append_right _ ?_)); done) | fail)) (hx.st (hs.sub (List.nil_sublist _))) hl hl (by omega)) ?_
            rintro v12_2 w12_2 ⟨rfl, hy⟩
            replace hs := hs.call hy
            clear hy
            try simp only [List.cons_append, List.nil_append, List.append_nil] at hs
            refine Z.lb 1 rfl ?_
            refine Z.yes (s := 60) (b := true) rfl ((by simp)) rfl ?_
            refine Z.le rfl (by exact ⟨rfl, trivial⟩) ?_
            refine Z.ZO.call rfl rfl (by rfl) rfl rfl Try.call9 rfl (works34 _) ?_
            rintro v12_4 w12_4 ⟨rfl, hy⟩
            replace hs := hs.call hy
            clear hy
            try simp only [List.cons_append, List.nil_append, List.append_nil] at hs
            refine Z.l rfl rfl (by rfl) (Z.keepS hs) (Z.Yd.pickT rfl rfl) ?_
            refine Z.lb 1 rfl ?_
            refine Z.lnil ?_
            refine Z.only [4] rfl ?_
            refine Z.nthen ?_
            refine Z.ret ?_
            -- ret#0
            refine Z.out1 (by exact ⟨rfl, trivial⟩) ?_
            first | exact ⟨_, rfl, rfl, hs⟩ | exact ⟨_, rfl, rfl, hs.sub (List.nil_sublist _)⟩
            )
  · skip
    refine Z.enter Try.func5 rfl Try.ntmps5 rfl rfl ?_
    refine Z.seq ?_
    refine Z.region ?_
    refine Z.le rfl trivial ?_
    refine Z.ZO.box rfl rfl (by rfl) rfl rfl hs ?_
    clear hs; intro g2 w2 hs
    refine Z.lb 1 rfl ?_
    refine Z.lnil ?_
    refine Z.only [1, 2] rfl ?_
    refine Z.nthen ?_
    refine Z.seq ?_
    refine Z.seq ?_
    refine Z.region ?_
    refine Z.l rfl rfl (by rfl) (Z.keepS hs) (Z.Yd.fieldA (m := 1) rfl (by kernel_rfl)) ?_
    refine Z.l rfl rfl (by rfl) (Z.keepS hs) (by first | exact Z.Yd.load rfl Try.isAgg22 (fun _ => Z.cellB (by first | ((repeat (first | exact List.mem_cons_self | refine List.mem_cons_of_mem _ ?_ | refine List.mem_append_right _ ?_)); done) | fail) rfl) | exact Z.Yd.load rfl Try.isAgg22 (fun _ => Z.cellO (by assumption) (by simp) (by assumption)) | fail "load 1.1") ?_
    refine Z.l rfl rfl (by rfl) (Z.keepS hs) (Z.Yd.lenS rfl Try.underlying22) ?_
    refine Z.lb 1 rfl ?_
    refine Z.lnil ?_
    refine Z.only [1, 2, 14] rfl ?_
    refine Z.nthen ?_
    refine Z.cond rfl (fun hc1 => ?_) (fun h => absurd h (by simp; omega))
    refine Z.seq ?_
    refine Z.region ?_
    refine Z.le rfl trivial ?_
    refine Z.ZO.call rfl rfl (by rfl) rfl rfl Try.call9 rfl (works34 _) ?_
    rintro v2_0 w2_0 ⟨rfl, hy⟩
    replace hs := hs.call hy
    clear hy
    try simp only [List.cons_append, List.nil_append, List.append_nil] at hs
    refine Z.lb 1 rfl ?_
    refine Z.lnil ?_
    refine Z.only [4] rfl ?_
    refine Z.nthen ?_
    refine Z.ret ?_
    repeat (first | refine Z.rthen ?_ | refine Z.rblock ?_ | refine Z.rscope ?_)
    -- ret#0
    refine Z.out1 (by exact ⟨rfl, trivial⟩) ?_
    first | exact ⟨_, rfl, rfl, hs⟩ | exact ⟨_, rfl, rfl, hs.sub (List.nil_sublist _)⟩
theorem statusFits_rd (cs0 : Array Value) (a1 : Int) (w : World) (z0 : Rd Try.prog w 24 (Value.agg cs0).cells.toList) (z1 : Rd Try.prog w 3 (Value.int .i64 a1).cells.toList) :
    Calls Try.prog 5 #[.agg cs0, .int .i64 a1] w fun e w' => e = .returned (.bool true) ∧ Below w.heap.size w w' := by
  obtain ⟨ack, A, n, c, l, hr, h1, h2, h3, h4⟩ := rd_status z0
  have e : cs0 = #[.int .i64 ack, .slice A n c] := by
    have : cs0.toList = [.int .i64 ack, .slice A n c] := by simpa [Value.cells] using hr
    exact Array.toList_inj.1 this
  rw [e]
  refine (statusFits_walk ack a1 A n c l w h4 h1 h2 h3).mono ?_
  rintro e w' ⟨v, rfl, rfl, h⟩
  exact ⟨rfl, h.below⟩
end Go.Proofs.Ytcieclifabbkjaa

/- What every row needs. -/
namespace Go.Proofs.Ytcieclifabbkjaa
open Go.ChangeShapes Go.WideShapes Go.ChangeAt Go.RowKit
theorem pown : ownKnob Try.prog.godebug = none := by kernel_rfl
theorem plaidOut : laidOutB Try.prog = true := by kernel_rfl
end Go.Proofs.Ytcieclifabbkjaa
