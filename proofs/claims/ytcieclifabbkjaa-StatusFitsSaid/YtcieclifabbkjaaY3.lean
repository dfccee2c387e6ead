/- Part 3 of the proofs that lead to the statement. -/
import Derived.Test.YtcieclifabbkjaaY2
/- Status reports: Valid, and the document's. -/
namespace Go.Proofs.Ytcieclifabbkjaa
open Go.RowKit
set_option linter.unusedSimpArgs false
set_option linter.unusedVariables false
--newlaws

theorem follows_any (ack : Int) (a b : NkV) (w : World) : Calls Try.prog 34 #[.int .i64 ack, .agg a.cells.toArray, .agg b.cells.toArray] w (SX.Ret fun v w' => v = .bool (decide (follows ack a b)) ∧ SX.St w [] w' []) := by
  have hs := SX.St.start w
  refine Z.enter Try.func34 rfl Try.ntmps34 rfl rfl ?_
  refine Z.seq ?_
  refine Z.region ?_
  refine Z.le rfl trivial ?_
  refine Z.ZO.box rfl rfl (by rfl) rfl rfl hs ?_
  clear hs; intro g4 w4 hs
  refine Z.le rfl trivial ?_
  refine Z.ZO.box rfl rfl (by rfl) rfl rfl hs ?_
  clear hs; intro g5 w5 hs
  refine Z.lb 1 rfl ?_
  refine Z.lnil ?_
  refine Z.only [0, 4, 5] rfl ?_
  refine Z.nthen ?_
  refine Z.seq ?_
  refine Z.drawK (fun _ => true) mixed hs ?_
  clear hs; intro wd1 hs
  refine Z.tb [0] (by kernel_rfl) rfl ⟨_, hs, by first | (simp; done) | exact fun e he => List.mem_append_right _ he⟩ rfl ?_
  refine Z.t 1 rfl rfl rfl (by rfl) (by kernel_rfl) ⟨_, hs, by first | (simp; done) | exact fun e he => List.mem_append_right _ he⟩ (Z.Yd.fieldA (m := 0) rfl (by kernel_rfl)) ?_
  refine Z.t 2 rfl rfl rfl (by rfl) (by kernel_rfl) ⟨_, hs, by first | (simp; done) | exact fun e he => List.mem_append_right _ he⟩ (Z.Yd.load rfl Try.isAgg3 (fun _ => Z.cellB (cs := b.cells.toArray) (by first | ((repeat (first | exact List.mem_cons_self | refine List.mem_cons_of_mem _ ?_ | refine List.mem_append_right _ ?_)); done) | fail) rfl)) ?_
  refine Z.tb [4] (by kernel_rfl) rfl ⟨_, hs, by first | (simp; done) | exact fun e he => List.mem_append_right _ he⟩ rfl ?_
  refine Z.t 5 rfl rfl rfl (by rfl) (by kernel_rfl) ⟨_, hs, by first | (simp; done) | exact fun e he => List.mem_append_right _ he⟩ (Z.Yd.fieldA (m := 0) rfl (by kernel_rfl)) ?_
  refine Z.t 6 rfl rfl rfl (by rfl) (by kernel_rfl) ⟨_, hs, by first | (simp; done) | exact fun e he => List.mem_append_right _ he⟩ (Z.Yd.load rfl Try.isAgg3 (fun _ => Z.cellB (cs := a.cells.toArray) (by first | ((repeat (first | exact List.mem_cons_self | refine List.mem_cons_of_mem _ ?_ | refine List.mem_append_right _ ?_)); done) | fail) rfl)) ?_
  refine Z.tn 3 rfl rfl (by kernel_rfl) rfl trivial ?_
  refine Z.ZO.call rfl rfl (by rfl) rfl rfl Try.call63 rfl (dist_any _ _ _) ?_
  rintro v1_3 w1_3 ⟨rfl, hy⟩
  replace hs := hs.call hy
  clear hy
  try simp only [List.cons_append, List.nil_append, List.append_nil] at hs
  refine Z.tk (Dn := fun _ => true) (i := 3) (fun _ => ⟨_, hs, by first | (simp; done) | exact fun e he => List.mem_append_right _ he⟩) ?_
  refine Z.tn 7 rfl rfl (by kernel_rfl) rfl trivial ?_
  refine Z.ZO.call rfl rfl (by rfl) rfl rfl Try.call63 rfl (dist_any _ _ _) ?_
  rintro v1_7 w1_7 ⟨rfl, hy⟩
  replace hs := hs.call hy
  clear hy
  try simp only [List.cons_append, List.nil_append, List.append_nil] at hs
  refine Z.tk (Dn := fun _ => true) (i := 7) (fun _ => ⟨_, hs, by first | (simp; done) | exact fun e he => List.mem_append_right _ he⟩) ?_
  refine Z.tb [8, 9] (by kernel_rfl) rfl ⟨_, hs, by first | (simp; done) | exact fun e he => List.mem_append_right _ he⟩ rfl ?_
  refine Z.t 10 rfl rfl rfl (by rfl) (by kernel_rfl) ⟨_, hs, by first | (simp; done) | exact fun e he => List.mem_append_right _ he⟩ (Z.Yd.fieldA (m := 0) rfl (by kernel_rfl)) ?_
  refine Z.t 11 rfl rfl rfl (by rfl) (by kernel_rfl) ⟨_, hs, by first | (simp; done) | exact fun e he => List.mem_append_right _ he⟩ (Z.Yd.load rfl Try.isAgg3 (fun _ => Z.cellB (cs := a.cells.toArray) (by first | ((repeat (first | exact List.mem_cons_self | refine List.mem_cons_of_mem _ ?_ | refine List.mem_append_right _ ?_)); done) | fail) rfl)) ?_
  refine Z.t 12 rfl rfl rfl (by rfl) (by kernel_rfl) ⟨_, hs, by first | (simp; done) | exact fun e he => List.mem_append_right _ he⟩ (Z.Yd.fieldA (m := 0) rfl (by kernel_rfl)) ?_
  refine Z.t 13 rfl rfl rfl (by rfl) (by kernel_rfl) ⟨_, hs, by first | (simp; done) | exact fun e he => List.mem_append_right _ he⟩ (Z.Yd.load rfl Try.isAgg3 (fun _ => Z.cellB (cs := b.cells.toArray) (by first | ((repeat (first | exact List.mem_cons_self | refine List.mem_cons_of_mem _ ?_ | refine List.mem_append_right _ ?_)); done) | fail) rfl)) ?_
  refine Z.tb [14, 15] (by kernel_rfl) rfl ⟨_, hs, by first | (simp; done) | exact fun e he => List.mem_append_right _ he⟩ rfl ?_
  refine Z.t 16 rfl rfl rfl (by rfl) (by kernel_rfl) ⟨_, hs, by first | (simp; done) | exact fun e he => List.mem_append_right _ he⟩ (Z.Yd.fieldA (m := 1) rfl (by kernel_rfl)) ?_
  refine Z.t 17 rfl rfl rfl (by rfl) (by kernel_rfl) ⟨_, hs, by first | (simp; done) | exact fun e he => List.mem_append_right _ he⟩ (Z.Yd.load rfl Try.isAgg4 (fun _ => Z.cellB (cs := a.cells.toArray) (by first | ((repeat (first | exact List.mem_cons_self | refine List.mem_cons_of_mem _ ?_ | refine List.mem_append_right _ ?_)); done) | fail) rfl)) ?_
  refine Z.tb [18, 19] (by kernel_rfl) rfl ⟨_, hs, by first | (simp; done) | exact fun e he => List.mem_append_right _ he⟩ rfl ?_
  refine Z.t 20 rfl rfl rfl (by rfl) (by kernel_rfl) ⟨_, hs, by first | (simp; done) | exact fun e he => List.mem_append_right _ he⟩ (Z.Yd.fieldA (m := 1) rfl (by kernel_rfl)) ?_
  refine Z.t 21 rfl rfl rfl (by rfl) (by kernel_rfl) ⟨_, hs, by first | (simp; done) | exact fun e he => List.mem_append_right _ he⟩ (Z.Yd.load rfl Try.isAgg4 (fun _ => Z.cellB (cs := b.cells.toArray) (by first | ((repeat (first | exact List.mem_cons_self | refine List.mem_cons_of_mem _ ?_ | refine List.mem_append_right _ ?_)); done) | fail) rfl)) ?_
  refine Z.tb [22, 23] (by kernel_rfl) rfl ⟨_, hs, by first | (simp; done) | exact fun e he => List.mem_append_right _ he⟩ rfl ?_
  refine Z.t 24 rfl rfl rfl (by rfl) (by kernel_rfl) ⟨_, hs, by first | (simp; done) | exact fun e he => List.mem_append_right _ he⟩ (Z.Yd.fieldA (m := 3) rfl (by kernel_rfl)) ?_
  refine Z.t 25 rfl rfl rfl (by rfl) (by kernel_rfl) ⟨_, hs, by first | (simp; done) | exact fun e he => List.mem_append_right _ he⟩ (Z.Yd.load rfl Try.isAgg3 (fun _ => Z.cellB (cs := a.cells.toArray) (by first | ((repeat (first | exact List.mem_cons_self | refine List.mem_cons_of_mem _ ?_ | refine List.mem_append_right _ ?_)); done) | fail) rfl)) ?_
  refine Z.t 26 rfl rfl rfl (by rfl) (by kernel_rfl) ⟨_, hs, by first | (simp; done) | exact fun e he => List.mem_append_right _ he⟩ (Z.Yd.fieldA (m := 2) rfl (by kernel_rfl)) ?_
  refine Z.t 27 rfl rfl rfl (by rfl) (by kernel_rfl) ⟨_, hs, by first | (simp; done) | exact fun e he => List.mem_append_right _ he⟩ (Z.Yd.load rfl Try.isAgg3 (fun _ => Z.cellB (cs := b.cells.toArray) (by first | ((repeat (first | exact List.mem_cons_self | refine List.mem_cons_of_mem _ ?_ | refine List.mem_append_right _ ?_)); done) | fail) rfl)) ?_
  refine Z.tb [28, 29, 30, 31] (by kernel_rfl) rfl ⟨_, hs, by first | (simp; done) | exact fun e he => List.mem_append_right _ he⟩ rfl ?_
  refine Z.td (by rfl) (by kernel_rfl) ?_
  refine Z.only [6] rfl ?_
  refine Z.nthen ?_
  refine Z.ret ?_
  -- ret#0
  refine Z.out1 (by exact ⟨rfl, trivial⟩) ?_
  exact ⟨_, rfl, by congr 1; rw [Bool.eq_iff_iff, decide_eq_true_eq]; unfold follows; simp [and_assoc], hs.sub (List.nil_sublist _)⟩
theorem ralone_any (ack : Int) (n : NkV) (w : World) (ha : 0 ≤ ack ∧ ack ≤ 1023) : Calls Try.prog 35 #[.int .i64 ack, .agg n.cells.toArray] w (SX.Ret fun v w' => v = .bool (decide (alone ack n)) ∧ SX.St w [] w' []) := by
  have hs := SX.St.start w
  refine Z.enter Try.func35 rfl Try.ntmps35 rfl rfl ?_
  refine Z.seq ?_
  refine Z.region ?_
  refine Z.le rfl trivial ?_
  refine Z.ZO.box rfl rfl (by rfl) rfl rfl hs ?_
  clear hs; intro g3 w3 hs
  refine Z.lb 1 rfl ?_
  refine Z.lnil ?_
  refine Z.only [0, 3] rfl ?_
  refine Z.nthen ?_
  refine Z.seq ?_
  refine Z.seq ?_
  refine Z.region ?_
  refine Z.l rfl rfl (by rfl) (Z.keepS hs) (Z.Yd.fieldA (m := 0) rfl (by kernel_rfl)) ?_
  refine Z.l rfl rfl (by rfl) (Z.keepS hs) (Z.Yd.load rfl Try.isAgg3 (fun _ => Z.cellB (cs := n.cells.toArray) (by first | ((repeat (first | exact List.mem_cons_self | refine List.mem_cons_of_mem _ ?_ | refine List.mem_append_right _ ?_)); done) | fail) rfl)) ?_
  refine Z.lb 2 rfl ?_
  refine Z.l rfl rfl (by rfl) (Z.keepS hs) (Z.Yd.fieldA (m := 0) rfl (by kernel_rfl)) ?_
  refine Z.l rfl rfl (by rfl) (Z.keepS hs) (Z.Yd.load rfl Try.isAgg3 (fun _ => Z.cellB (cs := n.cells.toArray) (by first | ((repeat (first | exact List.mem_cons_self | refine List.mem_cons_of_mem _ ?_ | refine List.mem_append_right _ ?_)); done) | fail) rfl)) ?_
  refine Z.lb 3 rfl ?_
  refine Z.split (s := 13) rfl (fun hsp13 => ?_) (fun hsp13 => ?_)
  · first
      | (exfalso; simp at hsp13 <;> omega)
      | (
        refine Z.yes (s := 13) (b := true) rfl hsp13 rfl ?_
        (try simp at hsp13)
        refine Z.ls rfl rfl rfl (by rfl) ?_
        refine Z.ls rfl rfl rfl (by rfl) ?_
        refine Z.ls rfl rfl rfl (by rfl) ?_
        refine Z.ls rfl rfl rfl (by rfl) ?_
        refine Z.ls rfl rfl rfl (by rfl) ?_
        refine Z.l rfl rfl (by rfl) (Z.keepS hs) (Z.Yd.pickT rfl rfl) ?_
        refine Z.lb 1 rfl ?_
        refine Z.split (s := 20) rfl (fun hsp20 => ?_) (fun hsp20 => ?_)
        · first
            | (exfalso; simp at hsp20 <;> omega)
            | (
              refine Z.yes (s := 20) (b := true) rfl hsp20 rfl ?_
              (try simp at hsp20)
              refine Z.ls rfl rfl rfl (by rfl) ?_
              refine Z.ls rfl rfl rfl (by rfl) ?_
              refine Z.ls rfl rfl rfl (by rfl) ?_
              refine Z.ls rfl rfl rfl (by rfl) ?_
              refine Z.ls rfl rfl rfl (by rfl) ?_
              refine Z.l rfl rfl (by rfl) (Z.keepS hs) (Z.Yd.pickT rfl rfl) ?_
              refine Z.lnil ?_
              refine Z.only [3, 26] rfl ?_
              refine Z.nthen ?_
              refine Z.cond rfl (fun hc1 => ?_) (fun hc1 => ?_)
              · first
                  | (exfalso; simp at hc1 <;> omega)
                  | (
                    (try simp at hc1)
                    refine Z.seq ?_
                    refine Z.region ?_
                    refine Z.lb 1 rfl ?_
                    refine Z.lnil ?_
                    refine Z.only [4] rfl ?_
                    refine Z.nthen ?_
                    refine Z.ret ?_
                    repeat (first | refine Z.rthen ?_ | refine Z.rblock ?_ | refine Z.rscope ?_)
                    -- ret#0
                    refine Z.out1 (by exact ⟨rfl, trivial⟩) ?_
                    refine ⟨_, rfl, ?_, hs.sub (List.nil_sublist _)⟩
                    congr 1
                    rw [Bool.eq_iff_iff, decide_eq_true_eq]
                    unfold alone
                    by_cases hp : n.part = true <;> simp_all <;> omega
                    )
              · first
                  | (exfalso; simp at hc1 <;> omega)
                  | (
                    (try simp at hc1)
                    refine Z.skip ?_
                    refine Z.nthen ?_
                    refine Z.seq ?_
                    refine Z.seq ?_
                    refine Z.region ?_
                    refine Z.l rfl rfl (by rfl) (Z.keepS hs) (Z.Yd.fieldA (m := 1) rfl (by kernel_rfl)) ?_
                    refine Z.l rfl rfl (by rfl) (Z.keepS hs) (Z.Yd.load rfl Try.isAgg4 (fun _ => Z.cellB (cs := n.cells.toArray) (by first | ((repeat (first | exact List.mem_cons_self | refine List.mem_cons_of_mem _ ?_ | refine List.mem_append_right _ ?_)); done) | fail) rfl)) ?_
                    refine Z.lb 1 rfl ?_
                    refine Z.lnil ?_
                    refine Z.only [3, 29] rfl ?_
                    refine Z.nthen ?_
                    refine Z.cond rfl (fun hc3 => ?_) (fun hc3 => ?_)
                    · first
                        | (exfalso; simp at hc3 <;> omega)
                        | (
                          (try simp at hc3)
                          refine Z.seq ?_
                          refine Z.region ?_
                          refine Z.l rfl rfl (by rfl) (Z.keepS hs) (Z.Yd.fieldA (m := 2) rfl (by kernel_rfl)) ?_
                          refine Z.l rfl rfl (by rfl) (Z.keepS hs) (Z.Yd.load rfl Try.isAgg3 (fun _ => Z.cellB (cs := n.cells.toArray) (by first | ((repeat (first | exact List.mem_cons_self | refine List.mem_cons_of_mem _ ?_ | refine List.mem_append_right _ ?_)); done) | fail) rfl)) ?_
                          refine Z.lb 2 rfl ?_
                          refine Z.l rfl rfl (by rfl) (Z.keepS hs) (Z.Yd.fieldA (m := 3) rfl (by kernel_rfl)) ?_
                          refine Z.l rfl rfl (by rfl) (Z.keepS hs) (Z.Yd.load rfl Try.isAgg3 (fun _ => Z.cellB (cs := n.cells.toArray) (by first | ((repeat (first | exact List.mem_cons_self | refine List.mem_cons_of_mem _ ?_ | refine List.mem_append_right _ ?_)); done) | fail) rfl)) ?_
                          refine Z.lb 3 rfl ?_
                          refine Z.lnil ?_
                          refine Z.only [4] rfl ?_
                          refine Z.nthen ?_
                          refine Z.ret ?_
                          repeat (first | refine Z.rthen ?_ | refine Z.rblock ?_ | refine Z.rscope ?_)
                          -- ret#1
                          refine Z.out1 (by exact ⟨rfl, trivial⟩) ?_
                          refine ⟨_, rfl, ?_, hs.sub (List.nil_sublist _)⟩
                          congr 1
                          rw [Bool.eq_iff_iff, decide_eq_true_eq]
                          unfold alone
                          by_cases hp : n.part = true <;> simp_all <;> omega
                          )
                    · first
                        | (exfalso; simp at hc3 <;> omega)
                        | (
                          (try simp at hc3)
                          refine Z.skip ?_
                          refine Z.nthen ?_
                          refine Z.seq ?_
                          refine Z.region ?_
                          refine Z.l rfl rfl (by rfl) (Z.keepS hs) (Z.Yd.fieldA (m := 2) rfl (by kernel_rfl)) ?_
                          refine Z.l rfl rfl (by rfl) (Z.keepS hs) (Z.Yd.load rfl Try.isAgg3 (fun _ => Z.cellB (cs := n.cells.toArray) (by first | ((repeat (first | exact List.mem_cons_self | refine List.mem_cons_of_mem _ ?_ | refine List.mem_append_right _ ?_)); done) | fail) rfl)) ?_
                          refine Z.lb 2 rfl ?_
                          refine Z.l rfl rfl (by rfl) (Z.keepS hs) (Z.Yd.fieldA (m := 2) rfl (by kernel_rfl)) ?_
                          refine Z.l rfl rfl (by rfl) (Z.keepS hs) (Z.Yd.load rfl Try.isAgg3 (fun _ => Z.cellB (cs := n.cells.toArray) (by first | ((repeat (first | exact List.mem_cons_self | refine List.mem_cons_of_mem _ ?_ | refine List.mem_append_right _ ?_)); done) | fail) rfl)) ?_
                          refine Z.l rfl rfl (by rfl) (Z.keepS hs) (Z.Yd.fieldA (m := 3) rfl (by kernel_rfl)) ?_
                          refine Z.l rfl rfl (by rfl) (Z.keepS hs) (Z.Yd.load rfl Try.isAgg3 (fun _ => Z.cellB (cs := n.cells.toArray) (by first | ((repeat (first | exact List.mem_cons_self | refine List.mem_cons_of_mem _ ?_ | refine List.mem_append_right _ ?_)); done) | fail) rfl)) ?_
                          refine Z.lb 3 rfl ?_
                          refine Z.l rfl rfl (by rfl) (Z.keepS hs) (Z.Yd.fieldA (m := 3) rfl (by kernel_rfl)) ?_
                          refine Z.l rfl rfl (by rfl) (Z.keepS hs) (Z.Yd.load rfl Try.isAgg3 (fun _ => Z.cellB (cs := n.cells.toArray) (by first | ((repeat (first | exact List.mem_cons_self | refine List.mem_cons_of_mem _ ?_ | refine List.mem_append_right _ ?_)); done) | fail) rfl)) ?_
                          refine Z.lb 3 rfl ?_
                          refine Z.lnil ?_
                          refine Z.only [4] rfl ?_
                          refine Z.nthen ?_
                          refine Z.ret ?_
                          -- ret#2
                          refine Z.out1 (by exact ⟨rfl, trivial⟩) ?_
                          refine ⟨_, rfl, ?_, hs.sub (List.nil_sublist _)⟩
                          congr 1
                          rw [Bool.eq_iff_iff, decide_eq_true_eq]
                          unfold alone
                          by_cases hp : n.part = true <;> simp_all <;> omega
                          )
                    )
              )
        · first
            | (exfalso; simp at hsp20 <;> omega)
            | (
              refine Z.yes (s := 20) (b := false) rfl hsp20 rfl ?_
              (try simp at hsp20)
              refine Z.lb 1 rfl ?_
              refine Z.l rfl rfl (by rfl) (Z.keepS hs) (Z.Yd.fieldA (m := 0) rfl (by kernel_rfl)) ?_
              refine Z.l rfl rfl (by rfl) (Z.keepS hs) (Z.Yd.load rfl Try.isAgg3 (fun _ => Z.cellB (cs := n.cells.toArray) (by first | ((repeat (first | exact List.mem_cons_self | refine List.mem_cons_of_mem _ ?_ | refine List.mem_append_right _ ?_)); done) | fail) rfl)) ?_
              refine Z.yes (s := 20) (b := false) rfl rfl rfl ?_
              refine Z.le rfl (by exact ⟨rfl, trivial⟩) ?_
              refine Z.ZO.call rfl rfl (by rfl) rfl rfl Try.call64 rfl (rdist_any _ _ _ ha (by omega)) ?_
              rintro v1_19 w1_19 ⟨rfl, hy⟩
              replace hs := hs.call hy
              clear hy
              try simp only [List.cons_append, List.nil_append, List.append_nil] at hs
              refine Z.lb 1 rfl ?_
              refine Z.yes (s := 20) (b := false) rfl rfl rfl ?_
              refine Z.l rfl rfl (by rfl) (Z.keepS hs) (Z.Yd.pickF rfl rfl) ?_
              refine Z.lnil ?_
              refine Z.only [3, 26] rfl ?_
              refine Z.nthen ?_
              refine Z.cond rfl (fun hc1 => ?_) (fun hc1 => ?_)
              · first
                  | (exfalso; simp at hc1 <;> omega)
                  | (
                    (try simp at hc1)
                    refine Z.seq ?_
                    refine Z.region ?_
                    refine Z.lb 1 rfl ?_
                    refine Z.lnil ?_
                    refine Z.only [4] rfl ?_
                    refine Z.nthen ?_
                    refine Z.ret ?_
                    repeat (first | refine Z.rthen ?_ | refine Z.rblock ?_ | refine Z.rscope ?_)
                    -- ret#3
                    refine Z.out1 (by exact ⟨rfl, trivial⟩) ?_
                    refine ⟨_, rfl, ?_, hs.sub (List.nil_sublist _)⟩
                    congr 1
                    rw [Bool.eq_iff_iff, decide_eq_true_eq]
                    unfold alone
                    by_cases hp : n.part = true <;> simp_all <;> omega
                    )
              · first
                  | (exfalso; simp at hc1 <;> omega)
                  | (
                    (try simp at hc1)
                    refine Z.skip ?_
                    refine Z.nthen ?_
                    refine Z.seq ?_
                    refine Z.seq ?_
                    refine Z.region ?_
                    refine Z.l rfl rfl (by rfl) (Z.keepS hs) (Z.Yd.fieldA (m := 1) rfl (by kernel_rfl)) ?_
                    refine Z.l rfl rfl (by rfl) (Z.keepS hs) (Z.Yd.load rfl Try.isAgg4 (fun _ => Z.cellB (cs := n.cells.toArray) (by first | ((repeat (first | exact List.mem_cons_self | refine List.mem_cons_of_mem _ ?_ | refine List.mem_append_right _ ?_)); done) | fail) rfl)) ?_
                    refine Z.lb 1 rfl ?_
                    refine Z.lnil ?_
                    refine Z.only [3, 29] rfl ?_
                    refine Z.nthen ?_
                    refine Z.cond rfl (fun hc3 => ?_) (fun hc3 => ?_)
                    · first
                        | (exfalso; simp at hc3 <;> omega)
                        | (
                          (try simp at hc3)
                          refine Z.seq ?_
                          refine Z.region ?_
                          refine Z.l rfl rfl (by rfl) (Z.keepS hs) (Z.Yd.fieldA (m := 2) rfl (by kernel_rfl)) ?_
                          refine Z.l rfl rfl (by rfl) (Z.keepS hs) (Z.Yd.load rfl Try.isAgg3 (fun _ => Z.cellB (cs := n.cells.toArray) (by first | ((repeat (first | exact List.mem_cons_self | refine List.mem_cons_of_mem _ ?_ | refine List.mem_append_right _ ?_)); done) | fail) rfl)) ?_
                          refine Z.lb 2 rfl ?_
                          refine Z.l rfl rfl (by rfl) (Z.keepS hs) (Z.Yd.fieldA (m := 3) rfl (by kernel_rfl)) ?_
                          refine Z.l rfl rfl (by rfl) (Z.keepS hs) (Z.Yd.load rfl Try.isAgg3 (fun _ => Z.cellB (cs := n.cells.toArray) (by first | ((repeat (first | exact List.mem_cons_self | refine List.mem_cons_of_mem _ ?_ | refine List.mem_append_right _ ?_)); done) | fail) rfl)) ?_
                          refine Z.lb 3 rfl ?_
                          refine Z.lnil ?_
                          refine Z.only [4] rfl ?_
                          refine Z.nthen ?_
                          refine Z.ret ?_
                          repeat (first | refine Z.rthen ?_ | refine Z.rblock ?_ | refine Z.rscope ?_)
                          -- ret#4
                          refine Z.out1 (by exact ⟨rfl, trivial⟩) ?_
                          refine ⟨_, rfl, ?_, hs.sub (List.nil_sublist _)⟩
                          congr 1
                          rw [Bool.eq_iff_iff, decide_eq_true_eq]
                          unfold alone
                          by_cases hp : n.part = true <;> simp_all <;> omega
                          )
                    · first
                        | (exfalso; simp at hc3 <;> omega)
                        | (
                          (try simp at hc3)
                          refine Z.skip ?_
                          refine Z.nthen ?_
                          refine Z.seq ?_
                          refine Z.region ?_
                          refine Z.l rfl rfl (by rfl) (Z.keepS hs) (Z.Yd.fieldA (m := 2) rfl (by kernel_rfl)) ?_
                          refine Z.l rfl rfl (by rfl) (Z.keepS hs) (Z.Yd.load rfl Try.isAgg3 (fun _ => Z.cellB (cs := n.cells.toArray) (by first | ((repeat (first | exact List.mem_cons_self | refine List.mem_cons_of_mem _ ?_ | refine List.mem_append_right _ ?_)); done) | fail) rfl)) ?_
                          refine Z.lb 2 rfl ?_
                          refine Z.l rfl rfl (by rfl) (Z.keepS hs) (Z.Yd.fieldA (m := 2) rfl (by kernel_rfl)) ?_
                          refine Z.l rfl rfl (by rfl) (Z.keepS hs) (Z.Yd.load rfl Try.isAgg3 (fun _ => Z.cellB (cs := n.cells.toArray) (by first | ((repeat (first | exact List.mem_cons_self | refine List.mem_cons_of_mem _ ?_ | refine List.mem_append_right _ ?_)); done) | fail) rfl)) ?_
                          refine Z.l rfl rfl (by rfl) (Z.keepS hs) (Z.Yd.fieldA (m := 3) rfl (by kernel_rfl)) ?_
                          refine Z.l rfl rfl (by rfl) (Z.keepS hs) (Z.Yd.load rfl Try.isAgg3 (fun _ => Z.cellB (cs := n.cells.toArray) (by first | ((repeat (first | exact List.mem_cons_self | refine List.mem_cons_of_mem _ ?_ | refine List.mem_append_right _ ?_)); done) | fail) rfl)) ?_
                          refine Z.lb 3 rfl ?_
                          refine Z.l rfl rfl (by rfl) (Z.keepS hs) (Z.Yd.fieldA (m := 3) rfl (by kernel_rfl)) ?_
                          refine Z.l rfl rfl (by rfl) (Z.keepS hs) (Z.Yd.load rfl Try.isAgg3 (fun _ => Z.cellB (cs := n.cells.toArray) (by first | ((repeat (first | exact List.mem_cons_self | refine List.mem_cons_of_mem _ ?_ | refine List.mem_append_right _ ?_)); done) | fail) rfl)) ?_
                          refine Z.lb 3 rfl ?_
                          refine Z.lnil ?_
                          refine Z.only [4] rfl ?_
                          refine Z.nthen ?_
                          refine Z.ret ?_
                          -- ret#5
                          refine Z.out1 (by exact ⟨rfl, trivial⟩) ?_
                          refine ⟨_, rfl, ?_, hs.sub (List.nil_sublist _)⟩
                          congr 1
                          rw [Bool.eq_iff_iff, decide_eq_true_eq]
                          unfold alone
                          by_cases hp : n.part = true <;> simp_all <;> omega
                          )
                    )
              )
        )
  · first
      | (exfalso; simp at hsp13 <;> omega)
      | (
        refine Z.yes (s := 13) (b := false) rfl hsp13 rfl ?_
        (try simp at hsp13)
        refine Z.lb 1 rfl ?_
        refine Z.l rfl rfl (by rfl) (Z.keepS hs) (Z.Yd.fieldA (m := 0) rfl (by kernel_rfl)) ?_
        refine Z.l rfl rfl (by rfl) (Z.keepS hs) (Z.Yd.load rfl Try.isAgg3 (fun _ => Z.cellB (cs := n.cells.toArray) (by first | ((repeat (first | exact List.mem_cons_self | refine List.mem_cons_of_mem _ ?_ | refine List.mem_append_right _ ?_)); done) | fail) rfl)) ?_
        refine Z.yes (s := 13) (b := false) rfl rfl rfl ?_
        refine Z.le rfl (by exact ⟨rfl, trivial⟩) ?_
        refine Z.ZO.call rfl rfl (by rfl) rfl rfl Try.call64 rfl (rdist_any _ _ _ ha (by omega)) ?_
        rintro v1_12 w1_12 ⟨rfl, hy⟩
        replace hs := hs.call hy
        clear hy
        try simp only [List.cons_append, List.nil_append, List.append_nil] at hs
        refine Z.lb 1 rfl ?_
        refine Z.yes (s := 13) (b := false) rfl rfl rfl ?_
        refine Z.l rfl rfl (by rfl) (Z.keepS hs) (Z.Yd.pickF rfl rfl) ?_
        refine Z.lb 1 rfl ?_
        refine Z.split (s := 20) rfl (fun hsp20 => ?_) (fun hsp20 => ?_)
        · first
            | (exfalso; simp at hsp20 <;> omega)
            | (
              refine Z.yes (s := 20) (b := true) rfl hsp20 rfl ?_
              (try simp at hsp20)
              refine Z.ls rfl rfl rfl (by rfl) ?_
              refine Z.ls rfl rfl rfl (by rfl) ?_
              refine Z.ls rfl rfl rfl (by rfl) ?_
              refine Z.ls rfl rfl rfl (by rfl) ?_
              refine Z.ls rfl rfl rfl (by rfl) ?_
              refine Z.l rfl rfl (by rfl) (Z.keepS hs) (Z.Yd.pickT rfl rfl) ?_
              refine Z.lnil ?_
              refine Z.only [3, 26] rfl ?_
              refine Z.nthen ?_
              refine Z.cond rfl (fun hc1 => ?_) (fun hc1 => ?_)
              · first
                  | (exfalso; simp at hc1 <;> omega)
                  | (
                    (try simp at hc1)
                    refine Z.seq ?_
                    refine Z.region ?_
                    refine Z.lb 1 rfl ?_
                    refine Z.lnil ?_
                    refine Z.only [4] rfl ?_
                    refine Z.nthen ?_
                    refine Z.ret ?_
                    repeat (first | refine Z.rthen ?_ | refine Z.rblock ?_ | refine Z.rscope ?_)
                    -- ret#6
                    refine Z.out1 (by exact ⟨rfl, trivial⟩) ?_
                    refine ⟨_, rfl, ?_, hs.sub (List.nil_sublist _)⟩
                    congr 1
                    rw [Bool.eq_iff_iff, decide_eq_true_eq]
                    unfold alone
                    by_cases hp : n.part = true <;> simp_all <;> omega
                    )
              · first
                  | (exfalso; simp at hc1 <;> omega)
                  | (
                    (try simp at hc1)
                    refine Z.skip ?_
                    refine Z.nthen ?_
                    refine Z.seq ?_
                    refine Z.seq ?_
                    refine Z.region ?_
                    refine Z.l rfl rfl (by rfl) (Z.keepS hs) (Z.Yd.fieldA (m := 1) rfl (by kernel_rfl)) ?_
                    refine Z.l rfl rfl (by rfl) (Z.keepS hs) (Z.Yd.load rfl Try.isAgg4 (fun _ => Z.cellB (cs := n.cells.toArray) (by first | ((repeat (first | exact List.mem_cons_self | refine List.mem_cons_of_mem _ ?_ | refine List.mem_append_right _ ?_)); done) | fail) rfl)) ?_
                    refine Z.lb 1 rfl ?_
                    refine Z.lnil ?_
                    refine Z.only [3, 29] rfl ?_
                    refine Z.nthen ?_
                    refine Z.cond rfl (fun hc3 => ?_) (fun hc3 => ?_)
                    · first
                        | (exfalso; simp at hc3 <;> omega)
                        | (
                          (try simp at hc3)
                          refine Z.seq ?_
                          refine Z.region ?_
                          refine Z.l rfl rfl (by rfl) (Z.keepS hs) (Z.Yd.fieldA (m := 2) rfl (by kernel_rfl)) ?_
                          refine Z.l rfl rfl (by rfl) (Z.keepS hs) (Z.Yd.load rfl Try.isAgg3 (fun _ => Z.cellB (cs := n.cells.toArray) (by first | ((repeat (first | exact List.mem_cons_self | refine List.mem_cons_of_mem _ ?_ | refine List.mem_append_right _ ?_)); done) | fail) rfl)) ?_
                          refine Z.lb 2 rfl ?_
                          refine Z.l rfl rfl (by rfl) (Z.keepS hs) (Z.Yd.fieldA (m := 3) rfl (by kernel_rfl)) ?_
                          refine Z.l rfl rfl (by rfl) (Z.keepS hs) (Z.Yd.load rfl Try.isAgg3 (fun _ => Z.cellB (cs := n.cells.toArray) (by first | ((repeat (first | exact List.mem_cons_self | refine List.mem_cons_of_mem _ ?_ | refine List.mem_append_right _ ?_)); done) | fail) rfl)) ?_
                          refine Z.lb 3 rfl ?_
                          refine Z.lnil ?_
                          refine Z.only [4] rfl ?_
                          refine Z.nthen ?_
                          refine Z.ret ?_
                          repeat (first | refine Z.rthen ?_ | refine Z.rblock ?_ | refine Z.rscope ?_)
                          -- ret#7
                          refine Z.out1 (by exact ⟨rfl, trivial⟩) ?_
                          refine ⟨_, rfl, ?_, hs.sub (List.nil_sublist _)⟩
                          congr 1
                          rw [Bool.eq_iff_iff, decide_eq_true_eq]
                          unfold alone
                          by_cases hp : n.part = true <;> simp_all <;> omega
                          )
                    · first
                        | (exfalso; simp at hc3 <;> omega)
                        | (
                          (try simp at hc3)
                          refine Z.skip ?_
                          refine Z.nthen ?_
                          refine Z.seq ?_
                          refine Z.region ?_
                          refine Z.l rfl rfl (by rfl) (Z.keepS hs) (Z.Yd.fieldA (m := 2) rfl (by kernel_rfl)) ?_
                          refine Z.l rfl rfl (by rfl) (Z.keepS hs) (Z.Yd.load rfl Try.isAgg3 (fun _ => Z.cellB (cs := n.cells.toArray) (by first | ((repeat (first | exact List.mem_cons_self | refine List.mem_cons_of_mem _ ?_ | refine List.mem_append_right _ ?_)); done) | fail) rfl)) ?_
                          refine Z.lb 2 rfl ?_
                          refine Z.l rfl rfl (by rfl) (Z.keepS hs) (Z.Yd.fieldA (m := 2) rfl (by kernel_rfl)) ?_
                          refine Z.l rfl rfl (by rfl) (Z.keepS hs) (Z.Yd.load rfl Try.isAgg3 (fun _ => Z.cellB (cs := n.cells.toArray) (by first | ((repeat (first | exact List.mem_cons_self | refine List.mem_cons_of_mem _ ?_ | refine List.mem_append_right _ ?_)); done) | fail) rfl)) ?_
                          refine Z.l rfl rfl (by rfl) (Z.keepS hs) (Z.Yd.fieldA (m := 3) rfl (by kernel_rfl)) ?_
                          refine Z.l rfl rfl (by rfl) (Z.keepS hs) (Z.Yd.load rfl Try.isAgg3 (fun _ => Z.cellB (cs := n.cells.toArray) (by first | ((repeat (first | exact List.mem_cons_self | refine List.mem_cons_of_mem _ ?_ | refine List.mem_append_right _ ?_)); done) | fail) rfl)) ?_
                          refine Z.lb 3 rfl ?_
                          refine Z.l rfl rfl (by rfl) (Z.keepS hs) (Z.Yd.fieldA (m := 3) rfl (by kernel_rfl)) ?_
                          refine Z.l rfl rfl (by rfl) (Z.keepS hs) (Z.Yd.load rfl Try.isAgg3 (fun _ => Z.cellB (cs := n.cells.toArray) (by first | ((repeat (first | exact List.mem_cons_self | refine List.mem_cons_of_mem _ ?_ | refine List.mem_append_right _ ?_)); done) | fail) rfl)) ?_
                          refine Z.lb 3 rfl ?_
                          refine Z.lnil ?_
                          refine Z.only [4] rfl ?_
                          refine Z.nthen ?_
                          refine Z.ret ?_
                          -- ret#8
                          refine Z.out1 (by exact ⟨rfl, trivial⟩) ?_
                          refine ⟨_, rfl, ?_, hs.sub (List.nil_sublist _)⟩
                          congr 1
                          rw [Bool.eq_iff_iff, decide_eq_true_eq]
                          unfold alone
                          by_cases hp : n.part = true <;> simp_all <;> omega
                          )
                    )
              )
        · first
            | (exfalso; simp at hsp20 <;> omega)
            | (
              refine Z.yes (s := 20) (b := false) rfl hsp20 rfl ?_
              (try simp at hsp20)
              refine Z.lb 1 rfl ?_
              refine Z.l rfl rfl (by rfl) (Z.keepS hs) (Z.Yd.fieldA (m := 0) rfl (by kernel_rfl)) ?_
              refine Z.l rfl rfl (by rfl) (Z.keepS hs) (Z.Yd.load rfl Try.isAgg3 (fun _ => Z.cellB (cs := n.cells.toArray) (by first | ((repeat (first | exact List.mem_cons_self | refine List.mem_cons_of_mem _ ?_ | refine List.mem_append_right _ ?_)); done) | fail) rfl)) ?_
              refine Z.yes (s := 20) (b := false) rfl rfl rfl ?_
              refine Z.le rfl (by exact ⟨rfl, trivial⟩) ?_
              refine Z.ZO.call rfl rfl (by rfl) rfl rfl Try.call64 rfl (rdist_any _ _ _ ha (by omega)) ?_
              rintro v1_19 w1_19 ⟨rfl, hy⟩
              replace hs := hs.call hy
              clear hy
              try simp only [List.cons_append, List.nil_append, List.append_nil] at hs
              refine Z.lb 1 rfl ?_
              refine Z.yes (s := 20) (b := false) rfl rfl rfl ?_
              refine Z.l rfl rfl (by rfl) (Z.keepS hs) (Z.Yd.pickF rfl rfl) ?_
              refine Z.lnil ?_
              refine Z.only [3, 26] rfl ?_
              refine Z.nthen ?_
              refine Z.cond rfl (fun hc1 => ?_) (fun hc1 => ?_)
              · first
                  | (exfalso; simp at hc1 <;> omega)
                  | (
                    (try simp at hc1)
                    refine Z.seq ?_
                    refine Z.region ?_
                    refine Z.lb 1 rfl ?_
                    refine Z.lnil ?_
                    refine Z.only [4] rfl ?_
                    refine Z.nthen ?_
                    refine Z.ret ?_
                    repeat (first | refine Z.rthen ?_ | refine Z.rblock ?_ | refine Z.rscope ?_)
                    -- ret#9
                    refine Z.out1 (by exact ⟨rfl, trivial⟩) ?_
                    refine ⟨_, rfl, ?_, hs.sub (List.nil_sublist _)⟩
                    congr 1
                    rw [Bool.eq_iff_iff, decide_eq_true_eq]
                    unfold alone
                    by_cases hp : n.part = true <;> simp_all <;> omega
                    )
              · first
                  | (exfalso; simp at hc1 <;> omega)
                  | (
                    (try simp at hc1)
                    refine Z.skip ?_
                    refine Z.nthen ?_
                    refine Z.seq ?_
                    refine Z.seq ?_
                    refine Z.region ?_
                    refine Z.l rfl rfl (by rfl) (Z.keepS hs) (Z.Yd.fieldA (m := 1) rfl (by kernel_rfl)) ?_
                    refine Z.l rfl rfl (by rfl) (Z.keepS hs) (Z.Yd.load rfl Try.isAgg4 (fun _ => Z.cellB (cs := n.cells.toArray) (by first | ((repeat (first | exact List.mem_cons_self | refine List.mem_cons_of_mem _ ?_ | refine List.mem_append_right _ ?_)); done) | fail) rfl)) ?_
                    refine Z.lb 1 rfl ?_
                    refine Z.lnil ?_
                    refine Z.only [3, 29] rfl ?_
                    refine Z.nthen ?_
                    refine Z.cond rfl (fun hc3 => ?_) (fun hc3 => ?_)
                    · first
                        | (exfalso; simp at hc3 <;> omega)
                        | (
                          (try simp at hc3)
                          refine Z.seq ?_
                          refine Z.region ?_
                          refine Z.l rfl rfl (by rfl) (Z.keepS hs) (Z.Yd.fieldA (m := 2) rfl (by kernel_rfl)) ?_
                          refine Z.l rfl rfl (by rfl) (Z.keepS hs) (Z.Yd.load rfl Try.isAgg3 (fun _ => Z.cellB (cs := n.cells.toArray) (by first | ((repeat (first | exact List.mem_cons_self | refine List.mem_cons_of_mem _ ?_ | refine List.mem_append_right _ ?_)); done) | fail) rfl)) ?_
                          refine Z.lb 2 rfl ?_
                          refine Z.l rfl rfl (by rfl) (Z.keepS hs) (Z.Yd.fieldA (m := 3) rfl (by kernel_rfl)) ?_
                          refine Z.l rfl rfl (by rfl) (Z.keepS hs) (Z.Yd.load rfl Try.isAgg3 (fun _ => Z.cellB (cs := n.cells.toArray) (by first | ((repeat (first | exact List.mem_cons_self | refine List.mem_cons_of_mem _ ?_ | refine List.mem_append_right _ ?_)); done) | fail) rfl)) ?_
                          refine Z.lb 3 rfl ?_
                          refine Z.lnil ?_
                          refine Z.only [4] rfl ?_
                          refine Z.nthen ?_
                          refine Z.ret ?_
                          repeat (first | refine Z.rthen ?_ | refine Z.rblock ?_ | refine Z.rscope ?_)
                          -- ret#10
                          refine Z.out1 (by exact ⟨rfl, trivial⟩) ?_
                          refine ⟨_, rfl, ?_, hs.sub (List.nil_sublist _)⟩
                          congr 1
                          rw [Bool.eq_iff_iff, decide_eq_true_eq]
                          unfold alone
                          by_cases hp : n.part = true <;> simp_all <;> omega
                          )
                    · first
                        | (exfalso; simp at hc3 <;> omega)
                        | (
                          (try simp at hc3)
                          refine Z.skip ?_
                          refine Z.nthen ?_
                          refine Z.seq ?_
                          refine Z.region ?_
                          refine Z.l rfl rfl (by rfl) (Z.keepS hs) (Z.Yd.fieldA (m := 2) rfl (by kernel_rfl)) ?_
                          refine Z.l rfl rfl (by rfl) (Z.keepS hs) (Z.Yd.load rfl Try.isAgg3 (fun _ => Z.cellB (cs := n.cells.toArray) (by first | ((repeat (first | exact List.mem_cons_self | refine List.mem_cons_of_mem _ ?_ | refine List.mem_append_right _ ?_)); done) | fail) rfl)) ?_
                          refine Z.lb 2 rfl ?_
                          refine Z.l rfl rfl (by rfl) (Z.keepS hs) (Z.Yd.fieldA (m := 2) rfl (by kernel_rfl)) ?_
                          refine Z.l rfl rfl (by rfl) (Z.keepS hs) (Z.Yd.load rfl Try.isAgg3 (fun _ => Z.cellB (cs := n.cells.toArray) (by first | ((repeat (first | exact List.mem_cons_self | refine List.mem_cons_of_mem _ ?_ | refine List.mem_append_right _ ?_)); done) | fail) rfl)) ?_
                          refine Z.l rfl rfl (by rfl) (Z.keepS hs) (Z.Yd.fieldA (m := 3) rfl (by kernel_rfl)) ?_
                          refine Z.l rfl rfl (by rfl) (Z.keepS hs) (Z.Yd.load rfl Try.isAgg3 (fun _ => Z.cellB (cs := n.cells.toArray) (by first | ((repeat (first | exact List.mem_cons_self | refine List.mem_cons_of_mem _ ?_ | refine List.mem_append_right _ ?_)); done) | fail) rfl)) ?_
                          refine Z.lb 3 rfl ?_
                          refine Z.l rfl rfl (by rfl) (Z.keepS hs) (Z.Yd.fieldA (m := 3) rfl (by kernel_rfl)) ?_
                          refine Z.l rfl rfl (by rfl) (Z.keepS hs) (Z.Yd.load rfl Try.isAgg3 (fun _ => Z.cellB (cs := n.cells.toArray) (by first | ((repeat (first | exact List.mem_cons_self | refine List.mem_cons_of_mem _ ?_ | refine List.mem_append_right _ ?_)); done) | fail) rfl)) ?_
                          refine Z.lb 3 rfl ?_
                          refine Z.lnil ?_
                          refine Z.only [4] rfl ?_
                          refine Z.nthen ?_
                          refine Z.ret ?_
                          -- ret#11
                          refine Z.out1 (by exact ⟨rfl, trivial⟩) ?_
                          refine ⟨_, rfl, ?_, hs.sub (List.nil_sublist _)⟩
                          congr 1
                          rw [Bool.eq_iff_iff, decide_eq_true_eq]
                          unfold alone
                          by_cases hp : n.part = true <;> simp_all <;> omega
                          )
                    )
              )
        )
theorem rfollows_any (ack : Int) (a b : NkV) (w : World) (ha : 0 ≤ ack ∧ ack ≤ 1023) (h1 : 0 ≤ a.sn ∧ a.sn ≤ 1023) (h2 : 0 ≤ b.sn ∧ b.sn ≤ 1023) : Calls Try.prog 36 #[.int .i64 ack, .agg a.cells.toArray, .agg b.cells.toArray] w (SX.Ret fun v w' => v = .bool (decide (follows ack a b)) ∧ SX.St w [] w' []) := by
  have hs := SX.St.start w
  refine Z.enter Try.func36 rfl Try.ntmps36 rfl rfl ?_
  refine Z.seq ?_
  refine Z.region ?_
  refine Z.le rfl trivial ?_
  refine Z.ZO.box rfl rfl (by rfl) rfl rfl hs ?_
  clear hs; intro g4 w4 hs
  refine Z.le rfl trivial ?_
  refine Z.ZO.box rfl rfl (by rfl) rfl rfl hs ?_
  clear hs; intro g5 w5 hs
  refine Z.lb 1 rfl ?_
  refine Z.lnil ?_
  refine Z.only [0, 4, 5] rfl ?_
  refine Z.nthen ?_
  refine Z.seq ?_
  refine Z.seq ?_
  refine Z.drawK (fun _ => true) mixed hs ?_
  clear hs; intro wd1 hs
  refine Z.tb [0] (by kernel_rfl) rfl ⟨_, hs, by first | (simp; done) | exact fun e he => List.mem_append_right _ he⟩ rfl ?_
  refine Z.t 1 rfl rfl rfl (by rfl) (by kernel_rfl) ⟨_, hs, by first | (simp; done) | exact fun e he => List.mem_append_right _ he⟩ (Z.Yd.fieldA (m := 0) rfl (by kernel_rfl)) ?_
  refine Z.t 2 rfl rfl rfl (by rfl) (by kernel_rfl) ⟨_, hs, by first | (simp; done) | exact fun e he => List.mem_append_right _ he⟩ (Z.Yd.load rfl Try.isAgg3 (fun _ => Z.cellB (cs := b.cells.toArray) (by first | ((repeat (first | exact List.mem_cons_self | refine List.mem_cons_of_mem _ ?_ | refine List.mem_append_right _ ?_)); done) | fail) rfl)) ?_
  refine Z.tb [4] (by kernel_rfl) rfl ⟨_, hs, by first | (simp; done) | exact fun e he => List.mem_append_right _ he⟩ rfl ?_
  refine Z.t 5 rfl rfl rfl (by rfl) (by kernel_rfl) ⟨_, hs, by first | (simp; done) | exact fun e he => List.mem_append_right _ he⟩ (Z.Yd.fieldA (m := 0) rfl (by kernel_rfl)) ?_
  refine Z.t 6 rfl rfl rfl (by rfl) (by kernel_rfl) ⟨_, hs, by first | (simp; done) | exact fun e he => List.mem_append_right _ he⟩ (Z.Yd.load rfl Try.isAgg3 (fun _ => Z.cellB (cs := a.cells.toArray) (by first | ((repeat (first | exact List.mem_cons_self | refine List.mem_cons_of_mem _ ?_ | refine List.mem_append_right _ ?_)); done) | fail) rfl)) ?_
  refine Z.tn 3 rfl rfl (by kernel_rfl) rfl trivial ?_
  refine Z.ZO.call rfl rfl (by rfl) rfl rfl Try.call64 rfl (rdist_any _ _ _ ha h2) ?_
  rintro v1_3 w1_3 ⟨rfl, hy⟩
  replace hs := hs.call hy
  clear hy
  try simp only [List.cons_append, List.nil_append, List.append_nil] at hs
  refine Z.tk (Dn := fun _ => true) (i := 3) (fun _ => ⟨_, hs, by first | (simp; done) | exact fun e he => List.mem_append_right _ he⟩) ?_
  refine Z.tn 7 rfl rfl (by kernel_rfl) rfl trivial ?_
  refine Z.ZO.call rfl rfl (by rfl) rfl rfl Try.call64 rfl (rdist_any _ _ _ ha h1) ?_
  rintro v1_7 w1_7 ⟨rfl, hy⟩
  replace hs := hs.call hy
  clear hy
  try simp only [List.cons_append, List.nil_append, List.append_nil] at hs
  refine Z.tk (Dn := fun _ => true) (i := 7) (fun _ => ⟨_, hs, by first | (simp; done) | exact fun e he => List.mem_append_right _ he⟩) ?_
  refine Z.tb [8] (by kernel_rfl) rfl ⟨_, hs, by first | (simp; done) | exact fun e he => List.mem_append_right _ he⟩ rfl ?_
  refine Z.td (by rfl) (by kernel_rfl) ?_
  refine Z.only [4, 5, 15] rfl ?_
  refine Z.nthen ?_
  refine Z.cond rfl (fun hc1 => ?_) (fun hc1 => ?_)
  · first
      | (exfalso; simp at hc1 <;> omega)
      | (
        (try simp at hc1)
        refine Z.seq ?_
        refine Z.region ?_
        refine Z.lb 1 rfl ?_
        refine Z.lnil ?_
        refine Z.only [6] rfl ?_
        refine Z.nthen ?_
        refine Z.ret ?_
        repeat (first | refine Z.rthen ?_ | refine Z.rblock ?_ | refine Z.rscope ?_)
        -- ret#0
        refine Z.out1 (by exact ⟨rfl, trivial⟩) ?_
        refine ⟨_, rfl, ?_, hs.sub (List.nil_sublist _)⟩
        congr 1
        rw [Bool.eq_iff_iff, decide_eq_true_eq]
        unfold follows
        first
        | (simp; omega)
        | (rw [or_iff_right (by omega)]; simp [and_assoc])
        )
  · first
      | (exfalso; simp at hc1 <;> omega)
      | (
        (try simp at hc1)
        refine Z.skip ?_
        refine Z.nthen ?_
        refine Z.seq ?_
        refine Z.region ?_
        refine Z.l rfl rfl (by rfl) (Z.keepS hs) (Z.Yd.fieldA (m := 0) rfl (by kernel_rfl)) ?_
        refine Z.l rfl rfl (by rfl) (Z.keepS hs) (Z.Yd.load rfl Try.isAgg3 (fun _ => Z.cellB (cs := a.cells.toArray) (by first | ((repeat (first | exact List.mem_cons_self | refine List.mem_cons_of_mem _ ?_ | refine List.mem_append_right _ ?_)); done) | fail) rfl)) ?_
        refine Z.l rfl rfl (by rfl) (Z.keepS hs) (Z.Yd.fieldA (m := 0) rfl (by kernel_rfl)) ?_
        refine Z.l rfl rfl (by rfl) (Z.keepS hs) (Z.Yd.load rfl Try.isAgg3 (fun _ => Z.cellB (cs := b.cells.toArray) (by first | ((repeat (first | exact List.mem_cons_self | refine List.mem_cons_of_mem _ ?_ | refine List.mem_append_right _ ?_)); done) | fail) rfl)) ?_
        refine Z.lb 2 rfl ?_
        refine Z.l rfl rfl (by rfl) (Z.keepS hs) (Z.Yd.fieldA (m := 1) rfl (by kernel_rfl)) ?_
        refine Z.l rfl rfl (by rfl) (Z.keepS hs) (Z.Yd.load rfl Try.isAgg4 (fun _ => Z.cellB (cs := a.cells.toArray) (by first | ((repeat (first | exact List.mem_cons_self | refine List.mem_cons_of_mem _ ?_ | refine List.mem_append_right _ ?_)); done) | fail) rfl)) ?_
        refine Z.lb 2 rfl ?_
        refine Z.l rfl rfl (by rfl) (Z.keepS hs) (Z.Yd.fieldA (m := 1) rfl (by kernel_rfl)) ?_
        refine Z.l rfl rfl (by rfl) (Z.keepS hs) (Z.Yd.load rfl Try.isAgg4 (fun _ => Z.cellB (cs := b.cells.toArray) (by first | ((repeat (first | exact List.mem_cons_self | refine List.mem_cons_of_mem _ ?_ | refine List.mem_append_right _ ?_)); done) | fail) rfl)) ?_
        refine Z.lb 2 rfl ?_
        refine Z.l rfl rfl (by rfl) (Z.keepS hs) (Z.Yd.fieldA (m := 3) rfl (by kernel_rfl)) ?_
        refine Z.l rfl rfl (by rfl) (Z.keepS hs) (Z.Yd.load rfl Try.isAgg3 (fun _ => Z.cellB (cs := a.cells.toArray) (by first | ((repeat (first | exact List.mem_cons_self | refine List.mem_cons_of_mem _ ?_ | refine List.mem_append_right _ ?_)); done) | fail) rfl)) ?_
        refine Z.l rfl rfl (by rfl) (Z.keepS hs) (Z.Yd.fieldA (m := 2) rfl (by kernel_rfl)) ?_
        refine Z.l rfl rfl (by rfl) (Z.keepS hs) (Z.Yd.load rfl Try.isAgg3 (fun _ => Z.cellB (cs := b.cells.toArray) (by first | ((repeat (first | exact List.mem_cons_self | refine List.mem_cons_of_mem _ ?_ | refine List.mem_append_right _ ?_)); done) | fail) rfl)) ?_
        refine Z.lb 3 rfl ?_
        refine Z.lnil ?_
        refine Z.only [6] rfl ?_
        refine Z.nthen ?_
        refine Z.ret ?_
        -- ret#1
        refine Z.out1 (by exact ⟨rfl, trivial⟩) ?_
        refine ⟨_, rfl, ?_, hs.sub (List.nil_sublist _)⟩
        congr 1
        rw [Bool.eq_iff_iff, decide_eq_true_eq]
        unfold follows
        first
        | (simp; omega)
        | (rw [or_iff_right (by omega)]; simp [and_assoc])
        )
/-- entry k is well, and so behind the one ahead of it -/
def stepB (ack : Int) (l : List NkV) (k : Nat) : Bool := match l[k]? with
  | some n => decide (alone ack n) && (if k = 0 then true else match l[k - 1]? with
    | some p => decide (follows ack p n)
    | none => false)
  | none => false
def vldB (ack : Int) (l : List NkV) : Bool := decide (0 ≤ ack ∧ ack ≤ 1023) && (decide (l.length ≤ 512) && (List.range l.length).all (stepB ack l))
theorem stepB_alone {ack : Int} {l : List NkV} {k : Nat} {n : NkV} (hn : l[k]? = some n) (h : stepB ack l k = true) : alone ack n := by
  unfold stepB at h
  rw [hn] at h
  simp only [Bool.and_eq_true, decide_eq_true_eq] at h
  exact h.1
set_option maxRecDepth 100000 in
theorem svalid_any (ack : Int) (A : Option Addr) (n c : Nat) (l : List NkV) (w : World) (hx : Sl w A (l.flatMap NkV.cells)) (hl : l.length = n) (hn : n ≤ 9223372036854775807) :
    Calls Try.prog 14 #[.agg #[.int .i64 ack, .slice A n c]] w (SX.Ret fun v w' => v = .bool (vldB ack l) ∧ SX.St w [] w' []) := by
  have hs := SX.St.start w
  refine Z.enter Try.func14 rfl Try.ntmps14 rfl rfl ?_
  refine Z.seq ?_
  refine Z.region ?_
  refine Z.le rfl trivial ?_
  refine Z.ZO.box rfl rfl (by rfl) rfl rfl hs ?_
  clear hs; intro g1 w1 hs
  refine Z.lb 1 rfl ?_
  refine Z.lnil ?_
  refine Z.only [1] rfl ?_
  refine Z.nthen ?_
  refine Z.seq ?_
  refine Z.seq ?_
  refine Z.region ?_
  refine Z.l rfl rfl (by rfl) (Z.keepS hs) (Z.Yd.fieldA (m := 0) rfl (by kernel_rfl)) ?_
  refine Z.l rfl rfl (by rfl) (Z.keepS hs) (by first | exact Z.Yd.load rfl Try.isAgg3 (fun _ => Z.cellB (by first | ((repeat (first | exact List.mem_cons_self | refine List.mem_cons_of_mem _ ?_ | refine List.mem_append_right _ ?_)); done) | fail) rfl) | exact Z.Yd.load rfl Try.isAgg3 (fun _ => Z.cellO (by assumption) (by simp) (by assumption)) | fail "load 1.1") ?_
  refine Z.lb 2 rfl ?_
  refine Z.l rfl rfl (by rfl) (Z.keepS hs) (Z.Yd.fieldA (m := 0) rfl (by kernel_rfl)) ?_
  refine Z.l rfl rfl (by rfl) (Z.keepS hs) (by first | exact Z.Yd.load rfl Try.isAgg3 (fun _ => Z.cellB (by first | ((repeat (first | exact List.mem_cons_self | refine List.mem_cons_of_mem _ ?_ | refine List.mem_append_right _ ?_)); done) | fail) rfl) | exact Z.Yd.load rfl Try.isAgg3 (fun _ => Z.cellO (by assumption) (by simp) (by assumption)) | fail "load 1.5") ?_
  refine Z.lb 3 rfl ?_
  refine Z.l rfl rfl (by rfl) (Z.keepS hs) (Z.Yd.fieldA (m := 1) rfl (by kernel_rfl)) ?_
  refine Z.l rfl rfl (by rfl) (Z.keepS hs) (by first | exact Z.Yd.load rfl Try.isAgg22 (fun _ => Z.cellB (by first | ((repeat (first | exact List.mem_cons_self | refine List.mem_cons_of_mem _ ?_ | refine List.mem_append_right _ ?_)); done) | fail) rfl) | exact Z.Yd.load rfl Try.isAgg22 (fun _ => Z.cellO (by assumption) (by simp) (by assumption)) | fail "load 1.10") ?_
  refine Z.l rfl rfl (by rfl) (Z.keepS hs) (Z.Yd.lenS rfl Try.underlying22) ?_
  refine Z.lb 2 rfl ?_
  refine Z.lnil ?_
  refine Z.only [1, 18] rfl ?_
  refine Z.nthen ?_
  refine Z.cond rfl (fun hc1 => ?_) (fun hc1 => ?_)
  · first
      | (exfalso; simp at hc1 <;> omega)
      | (
        (try simp at hc1)
        refine Z.seq ?_
        refine Z.region ?_
        refine Z.lb 1 rfl ?_
        refine Z.lnil ?_
        refine Z.only [2] rfl ?_
        refine Z.nthen ?_
        refine Z.ret ?_
        repeat (first | refine Z.rthen ?_ | refine Z.rblock ?_ | refine Z.rscope ?_)
        -- ret#0
        refine Z.out1 (by exact ⟨rfl, trivial⟩) ?_
        refine ⟨_, rfl, ?_, hs.sub (List.nil_sublist _)⟩
        congr 1
        unfold vldB
        by_cases h1 : 0 ≤ ack ∧ ack ≤ 1023
        · rw [decide_eq_false (show ¬ l.length ≤ 512 by omega)]; simp
        · rw [decide_eq_false h1]; rfl
        )
  · first
      | (exfalso; simp at hc1 <;> omega)
      | (
        (try simp at hc1)
        refine Z.skip ?_
        refine Z.nthen ?_
        refine Z.seq ?_
        refine Z.seq ?_
        refine Z.region ?_
        refine Z.l rfl rfl (by rfl) (Z.keepS hs) (Z.Yd.fieldA (m := 1) rfl (by kernel_rfl)) ?_
        refine Z.l rfl rfl (by rfl) (Z.keepS hs) (by first | exact Z.Yd.load rfl Try.isAgg22 (fun _ => Z.cellB (by first | ((repeat (first | exact List.mem_cons_self | refine List.mem_cons_of_mem _ ?_ | refine List.mem_append_right _ ?_)); done) | fail) rfl) | exact Z.Yd.load rfl Try.isAgg22 (fun _ => Z.cellO (by assumption) (by simp) (by assumption)) | fail "load 3.1") ?_
        refine Z.l rfl rfl (by rfl) (Z.keepS hs) (Z.Yd.lenS rfl Try.underlying22) ?_
        refine Z.lb 1 rfl ?_
        refine Z.lnil ?_
        refine Z.only [1, 20, 21, 22] rfl ?_
        refine Z.nthen ?_
        refine Z.block ?_
        refine Z.loopk (ι := Nat) [1, 20, 21] rfl (fun k => [(22, [], .int .i64 (k : Int))]) (fun k wr => (k ≤ n ∧ (List.range k).all (stepB ack l) = true) ∧ SX.St w [] wr [SX.Ent.blk g1 24 #[.int .i64 ack, .slice A n c]]) (fun k => n - k) 0 (by refine ⟨?_, trivial⟩ <;> (first | rfl | (refine Z.lookv rfl ?_; simp; done) | (refine Z.lookv rfl ?_; simp; omega))) ⟨⟨by omega, rfl⟩, hs⟩ ?_
        clear hs
        rintro k w1 ⟨⟨hk, hj⟩, hs⟩
        refine Z.only [1, 20, 21, 22] rfl ?_
        refine Z.seq ?_
        refine Z.region ?_
        refine Z.lb 1 rfl ?_
        refine Z.lnil ?_
        refine Z.only [1, 20, 21, 22, 23] rfl ?_
        refine Z.nthen ?_
        refine Z.seq ?_
        refine Z.cond rfl (fun hc4 => ?_) (fun hc4 => ?_)
        · first
            | (exfalso; simp at hc4 <;> omega)
            | (
              (try simp at hc4)
              obtain ⟨b, off, rfl, hx2⟩ := hx.sx.some (by rw [Z.flat_length (s := 4) nk_len]; omega)
              obtain ⟨x, hxk⟩ : ∃ f, l[k]? = some f := ⟨_, List.getElem?_eq_getElem (by omega)⟩
              have hst : stepB ack l k = (decide (alone ack x) && (if k = 0 then true else match l[k - 1]? with
                | some p => decide (follows ack p x)
                | none => false)) := by unfold stepB; rw [hxk]
              have hone := nk_one x
              refine Z.skip ?_
              refine Z.nthen ?_
              refine Z.seq ?_
              refine Z.block ?_
              refine Z.seq ?_
              refine Z.region ?_
              refine Z.lb 1 rfl ?_
              refine Z.l rfl rfl (by rfl) (Z.keepS hs) (Z.Yd.elem rfl rfl Try.underlying22 Try.sizeOf45 (fun hG => ⟨(by first | omega | (have hG' := Z.gh rfl hG; simp at hG'; omega)), (by first | omega | (have hG' := Z.gh rfl hG; simp at hG'; omega))⟩)) ?_
              refine Z.l rfl rfl (by rfl) (Z.keepS hs) (Z.Yd.loadA _ rfl Try.isAgg45 (fun _ => Z.cellsX x.cells hx2 nk_len hxk rfl) (by exact Try.sizeOf45)) ?_
              refine Z.le rfl trivial ?_
              refine Z.ZO.alloc rfl rfl (by rfl) Try.zeroValue45 rfl hs ?_
              clear hs; intro g4 w4 hs
              refine Z.lb 1 rfl ?_
              refine Z.le rfl trivial ?_
              first | refine Z.ZO.storeA rfl rfl hs rfl rfl (by kernel_rfl) (by first | (simp [Value.oneCell']; done) | (refine Z.all_one ?_; assumption)) (by first | exact SX.at0 | exact SX.at1 | exact SX.at2 | exact SX.at3 | exact SX.at4 | exact SX.at5 | exact Z.at6 | exact Z.at7 | exact Z.at8 | exact Z.at9 | exact Z.at10 | exact Z.at11 | exact Z.at12) (by rfl) ?_ | refine Z.ZO.storeP rfl rfl hs rfl rfl (by kernel_rfl) (by first | (simp [Value.oneCell']; done) | (refine Z.all_one ?_; assumption)) (by first | exact SX.at0 | exact SX.at1 | exact SX.at2 | exact SX.at3 | exact SX.at4 | exact SX.at5 | exact Z.at6 | exact Z.at7 | exact Z.at8 | exact Z.at9 | exact Z.at10 | exact Z.at11 | exact Z.at12) (by first | decide | (simp; done) | (simp; omega)) ?_ | refine Z.ZO.storePR rfl rfl hs rfl rfl (by kernel_rfl) (by first | (simp [Value.oneCell']; done) | (refine Z.all_one ?_; assumption)) (by first | exact SX.at0 | exact SX.at1 | exact SX.at2 | exact SX.at3 | exact SX.at4 | exact SX.at5 | exact Z.at6 | exact Z.at7 | exact Z.at8 | exact Z.at9 | exact Z.at10 | exact Z.at11 | exact Z.at12) (by first | decide | (simp; done) | (simp; omega)) ?_
              clear hs; intro ws hs
              simp only [Nat.zero_add, Nat.add_zero, Nat.reduceAdd, Int.reduceToNat, Nat.reduceMul, List.set_cons_zero, List.set_cons_succ, List.setIfInBounds_toArray] at hs
              try simp only [Z.putL, Nat.zero_add] at hs
              refine Z.lnil ?_
              refine Z.only [1, 3, 4, 20, 21, 22] rfl ?_
              refine Z.nthen ?_
              refine Z.seq ?_
              refine Z.drawK (fun _ => true) mixed hs ?_
              clear hs; intro wd6 hs
              refine Z.t 0 rfl rfl rfl (by rfl) (by kernel_rfl) ⟨_, hs, by first | (simp; done) | exact fun e he => List.mem_append_right _ he⟩ (Z.Yd.fieldA (m := 0) rfl (by kernel_rfl)) ?_
              refine Z.t 1 rfl rfl rfl (by rfl) (by kernel_rfl) ⟨_, hs, by first | (simp; done) | exact fun e he => List.mem_append_right _ he⟩ (by first | exact Z.Yd.load rfl Try.isAgg3 (fun _ => Z.cellB (by first | ((repeat (first | exact List.mem_cons_self | refine List.mem_cons_of_mem _ ?_ | refine List.mem_append_right _ ?_)); done) | fail) rfl) | exact Z.Yd.load rfl Try.isAgg3 (fun _ => Z.cellO (by assumption) (by simp) (by assumption)) | fail "load 6.1") ?_
              refine Z.t 2 rfl rfl rfl (by rfl) (by kernel_rfl) ⟨_, hs, by first | (simp; done) | exact fun e he => List.mem_append_right _ he⟩ (Z.Yd.loadA _ rfl Try.isAgg45 (fun _ => Z.cellsB (cs := x.cells) (by first | ((repeat (first | exact List.mem_cons_self | refine List.mem_cons_of_mem _ ?_ | refine List.mem_append_right _ ?_)); done) | fail)) (by exact Try.sizeOf45)) ?_
              refine Z.tn 3 rfl rfl (by kernel_rfl) rfl trivial ?_
              refine Z.ZO.call rfl rfl (by rfl) rfl rfl Try.call33 rfl (alone_any ack x _) ?_
              rintro v6_3 w6_3 ⟨rfl, hy⟩
              replace hs := hs.call hy
              clear hy
              try simp only [List.cons_append, List.nil_append, List.append_nil] at hs
              refine Z.tk (Dn := fun _ => true) (i := 3) (fun _ => ⟨_, hs, by first | (simp; done) | exact fun e he => List.mem_append_right _ he⟩) ?_
              refine Z.tb [4, 5] (by kernel_rfl) rfl ⟨_, hs, by first | (simp; done) | exact fun e he => List.mem_append_right _ he⟩ rfl ?_
              refine Z.split (s := 32) rfl (fun hsp32 => ?_) (fun hsp32 => ?_)
              · first
                  | (exfalso; simp at hsp32 <;> omega)
                  | (
                    refine Z.yes (s := 32) (b := true) rfl hsp32 rfl ?_
                    (try simp at hsp32)
                    refine Z.t 6 rfl rfl rfl (by rfl) (by kernel_rfl) ⟨_, hs, by first | (simp; done) | exact fun e he => List.mem_append_right _ he⟩ (Z.Yd.off (v := undef) 32 false rfl (by first | (simp; done) | (simp_all; done)) (by intro c h; cases h)) ?_
                    refine Z.t 7 rfl rfl rfl (by rfl) (by kernel_rfl) ⟨_, hs, by first | (simp; done) | exact fun e he => List.mem_append_right _ he⟩ (Z.Yd.off (v := undef) 32 false rfl (by first | (simp; done) | (simp_all; done)) (by intro c h; cases h)) ?_
                    refine Z.t 8 rfl rfl rfl (by rfl) (by kernel_rfl) ⟨_, hs, by first | (simp; done) | exact fun e he => List.mem_append_right _ he⟩ (Z.Yd.off (v := undef) 32 false rfl (by first | (simp; done) | (simp_all; done)) (by intro c h; cases h)) ?_
                    refine Z.t 9 rfl rfl rfl (by rfl) (by kernel_rfl) ⟨_, hs, by first | (simp; done) | exact fun e he => List.mem_append_right _ he⟩ (Z.Yd.off (v := undef) 32 false rfl (by first | (simp; done) | (simp_all; done)) (by intro c h; cases h)) ?_
                    refine Z.t 10 rfl rfl rfl (by rfl) (by kernel_rfl) ⟨_, hs, by first | (simp; done) | exact fun e he => List.mem_append_right _ he⟩ (Z.Yd.off (v := undef) 32 false rfl (by first | (simp; done) | (simp_all; done)) (by intro c h; cases h)) ?_
                    refine Z.t 11 rfl rfl rfl (by rfl) (by kernel_rfl) ⟨_, hs, by first | (simp; done) | exact fun e he => List.mem_append_right _ he⟩ (Z.Yd.off (v := undef) 32 false rfl (by first | (simp; done) | (simp_all; done)) (by intro c h; cases h)) ?_
                    refine Z.t 12 rfl rfl rfl (by rfl) (by kernel_rfl) ⟨_, hs, by first | (simp; done) | exact fun e he => List.mem_append_right _ he⟩ (Z.Yd.off (v := undef) 32 false rfl (by first | (simp; done) | (simp_all; done)) (by intro c h; cases h)) ?_
                    refine Z.t 13 rfl rfl rfl (by rfl) (by kernel_rfl) ⟨_, hs, by first | (simp; done) | exact fun e he => List.mem_append_right _ he⟩ (Z.Yd.off (v := undef) 32 false rfl (by first | (simp; done) | (simp_all; done)) (by intro c h; cases h)) ?_
                    refine Z.t 14 rfl rfl rfl (by rfl) (by kernel_rfl) ⟨_, hs, by first | (simp; done) | exact fun e he => List.mem_append_right _ he⟩ (Z.Yd.off (v := undef) 32 false rfl (by first | (simp; done) | (simp_all; done)) (by intro c h; cases h)) ?_
                    refine Z.t 15 rfl rfl rfl (by rfl) (by kernel_rfl) ⟨_, hs, by first | (simp; done) | exact fun e he => List.mem_append_right _ he⟩ (Z.Yd.off (v := undef) 32 false rfl (by first | (simp; done) | (simp_all; done)) (by intro c h; cases h)) ?_
                    refine Z.t 16 rfl rfl rfl (by rfl) (by kernel_rfl) ⟨_, hs, by first | (simp; done) | exact fun e he => List.mem_append_right _ he⟩ (Z.Yd.off (v := undef) 32 false rfl (by first | (simp; done) | (simp_all; done)) (by intro c h; cases h)) ?_
                    refine Z.t 17 rfl rfl rfl (by rfl) (by kernel_rfl) ⟨_, hs, by first | (simp; done) | exact fun e he => List.mem_append_right _ he⟩ (Z.Yd.off (v := undef) 32 false rfl (by first | (simp; done) | (simp_all; done)) (by intro c h; cases h)) ?_
                    refine Z.yes (s := 32) (b := true) rfl rfl rfl ?_
                    refine Z.tnS 32 false 18 rfl rfl (by kernel_rfl) rfl rfl (by simp) rfl (by rfl) (fun _ => ⟨_, hs, by first | (simp; done) | exact fun e he => List.mem_append_right _ he⟩) ?_
                    refine Z.t 19 rfl rfl rfl (by rfl) (by kernel_rfl) ⟨_, hs, by first | (simp; done) | exact fun e he => List.mem_append_right _ he⟩ (Z.Yd.off (v := undef) 32 false rfl (by first | (simp; done) | (simp_all; done)) (by intro c h; cases h)) ?_
                    refine Z.t 20 rfl rfl rfl (by rfl) (by kernel_rfl) ⟨_, hs, by first | (simp; done) | exact fun e he => List.mem_append_right _ he⟩ (Z.Yd.off (v := undef) 32 false rfl (by first | (simp; done) | (simp_all; done)) (by intro c h; cases h)) ?_
                    refine Z.yes (s := 32) (b := true) rfl rfl rfl ?_
                    refine Z.t 21 rfl rfl rfl (by rfl) (by kernel_rfl) ⟨_, hs, by first | (simp; done) | exact fun e he => List.mem_append_right _ he⟩ (Z.Yd.pickT rfl rfl) ?_
                    refine Z.td (by rfl) (by kernel_rfl) ?_
                    refine Z.only [1, 20, 21, 22, 48] rfl ?_
                    refine Z.nthen ?_
                    refine Z.cond rfl (fun hc6 => ?_) (fun hc6 => ?_)
                    · first
                        | (exfalso; simp at hc6 <;> omega)
                        | (
                          (try simp at hc6)
                          refine Z.seq ?_
                          refine Z.region ?_
                          refine Z.lb 1 rfl ?_
                          refine Z.lnil ?_
                          refine Z.only [2] rfl ?_
                          refine Z.nthen ?_
                          refine Z.ret ?_
                          repeat (first | refine Z.rthen ?_ | refine Z.rblock ?_ | refine Z.rscope ?_)
                          -- ret#1
                          refine Z.out1 (by exact ⟨rfl, trivial⟩) ?_
                          refine ⟨_, rfl, ?_, hs.sub (List.nil_sublist _)⟩
                          congr 1
                          have hf : stepB ack l k = false := by rw [hst]; simp_all <;> omega
                          unfold vldB
                          rw [List.all_eq_false.2 ⟨k, List.mem_range.2 (by omega), by rw [hf]; simp⟩]
                          simp
                          )
                    · first
                        | (exfalso; simp at hc6 <;> omega)
                        | (
                          (try simp at hc6)
                          refine Z.skip ?_
                          refine Z.nblock ?_
                          refine Z.nthen ?_
                          refine Z.region ?_
                          refine Z.l rfl rfl (by rfl) (Z.keepS hs) (Z.Yd.add rfl rfl (fun hG => Z.wi64 (by first | omega | (have hG' := Z.gh rfl hG; simp at hG'; omega)))) ?_
                          refine Z.lb 1 rfl ?_
                          refine Z.lnil ?_
                          refine Z.only [1, 20, 21, 22] rfl ?_
                          refine Z.nthen ?_
                          refine Z.again (k + 1) (by refine ⟨?_, ?_, ?_, ?_, trivial⟩ <;> (first | rfl | (refine Z.lookv rfl ?_; simp; done) | (refine Z.lookv rfl ?_; simp; omega))) ⟨⟨by omega, ?_⟩, hs.tl⟩ (by omega)
                          rw [List.range_succ, List.all_append, hj]
                          simp only [List.all_cons, List.all_nil, Bool.and_true, Bool.true_and]
                          rw [hst]
                          simp_all
                          )
                    )
              · first
                  | (exfalso; simp at hsp32 <;> omega)
                  | (
                    refine Z.yes (s := 32) (b := false) rfl hsp32 rfl ?_
                    (try simp at hsp32)
                    refine Z.tb [6, 7, 8] (by kernel_rfl) rfl ⟨_, hs, by first | (simp; done) | exact fun e he => List.mem_append_right _ he⟩ rfl ?_
                    refine Z.yes (s := 32) (b := false) rfl rfl rfl ?_
                    refine Z.split (s := 35) rfl (fun hsp35 => ?_) (fun hsp35 => ?_)
                    · first
                        | (exfalso; simp at hsp35 <;> omega)
                        | (
                          refine Z.yes (s := 35) (b := true) rfl hsp35 rfl ?_
                          (try simp at hsp35)
                          obtain ⟨p, hp⟩ : ∃ f, l[k - 1]? = some f := ⟨_, List.getElem?_eq_getElem (by omega)⟩
                          have hk1 : ((k : Int) - 1) = ((k - 1 : Nat) : Int) := by omega
                          refine Z.yes (s := 32) (b := false) rfl rfl rfl ?_
                          refine Z.t 9 rfl rfl rfl (by rfl) (by kernel_rfl) ⟨_, hs, by first | (simp; done) | exact fun e he => List.mem_append_right _ he⟩ (Z.Yd.fieldA (m := 0) rfl (by kernel_rfl)) ?_
                          refine Z.t 10 rfl rfl rfl (by rfl) (by kernel_rfl) ⟨_, hs, by first | (simp; done) | exact fun e he => List.mem_append_right _ he⟩ (by first | exact Z.Yd.load rfl Try.isAgg3 (fun _ => Z.cellB (by first | ((repeat (first | exact List.mem_cons_self | refine List.mem_cons_of_mem _ ?_ | refine List.mem_append_right _ ?_)); done) | fail) rfl) | exact Z.Yd.load rfl Try.isAgg3 (fun _ => Z.cellO (by assumption) (by simp) (by assumption)) | fail "load 6.10") ?_
                          refine Z.t 11 rfl rfl rfl (by rfl) (by kernel_rfl) ⟨_, hs, by first | (simp; done) | exact fun e he => List.mem_append_right _ he⟩ (Z.Yd.fieldA (m := 1) rfl (by kernel_rfl)) ?_
                          refine Z.t 12 rfl rfl rfl (by rfl) (by kernel_rfl) ⟨_, hs, by first | (simp; done) | exact fun e he => List.mem_append_right _ he⟩ (by first | exact Z.Yd.load rfl Try.isAgg22 (fun _ => Z.cellB (by first | ((repeat (first | exact List.mem_cons_self | refine List.mem_cons_of_mem _ ?_ | refine List.mem_append_right _ ?_)); done) | fail) rfl) | exact Z.Yd.load rfl Try.isAgg22 (fun _ => Z.cellO (by assumption) (by simp) (by assumption)) | fail "load 6.12") ?_
                          refine Z.tb [13] (by kernel_rfl) rfl ⟨_, hs, by first | (simp; done) | exact fun e he => List.mem_append_right _ he⟩ rfl ?_
                          refine Z.t 14 rfl rfl rfl (by rfl) (by kernel_rfl) ⟨_, hs, by first | (simp; done) | exact fun e he => List.mem_append_right _ he⟩ (Z.Yd.sub rfl rfl (fun hG => Z.wi64 (by first | omega | (have hG' := Z.gh rfl hG; simp at hG'; omega)))) ?_
                          refine Z.t 15 rfl rfl rfl (by rfl) (by kernel_rfl) ⟨_, hs, by first | (simp; done) | exact fun e he => List.mem_append_right _ he⟩ (Z.Yd.elem rfl rfl Try.underlying22 Try.sizeOf45 (fun hG => ⟨(by first | omega | (have hG' := Z.gh rfl hG; simp at hG'; omega)), (by first | omega | (have hG' := Z.gh rfl hG; simp at hG'; omega))⟩)) ?_
                          refine Z.t 16 rfl rfl rfl (by rfl) (by kernel_rfl) ⟨_, hs, by first | (simp; done) | exact fun e he => List.mem_append_right _ he⟩ (Z.Yd.loadA _ rfl Try.isAgg45 (fun _ => hk1 ▸ Z.cellsX p.cells hx2 nk_len hp rfl) (by exact Try.sizeOf45)) ?_
                          refine Z.t 17 rfl rfl rfl (by rfl) (by kernel_rfl) ⟨_, hs, by first | (simp; done) | exact fun e he => List.mem_append_right _ he⟩ (Z.Yd.loadA _ rfl Try.isAgg45 (fun _ => Z.cellsB (cs := x.cells) (by first | ((repeat (first | exact List.mem_cons_self | refine List.mem_cons_of_mem _ ?_ | refine List.mem_append_right _ ?_)); done) | fail)) (by exact Try.sizeOf45)) ?_
                          refine Z.yes (s := 32) (b := false) rfl rfl rfl ?_
                          refine Z.yes (s := 35) (b := true) rfl rfl rfl ?_
                          refine Z.tn 18 rfl rfl (by kernel_rfl) rfl (by exact ⟨rfl, trivial⟩) ?_
                          refine Z.ZO.call rfl rfl (by rfl) rfl rfl Try.call34 rfl (follows_any ack p x _) ?_
                          rintro v6_18 w6_18 ⟨rfl, hy⟩
                          replace hs := hs.call hy
                          clear hy
                          try simp only [List.cons_append, List.nil_append, List.append_nil] at hs
                          refine Z.tk (Dn := fun _ => true) (i := 18) (fun _ => ⟨_, hs, by first | (simp; done) | exact fun e he => List.mem_append_right _ he⟩) ?_
                          refine Z.tb [19] (by kernel_rfl) rfl ⟨_, hs, by first | (simp; done) | exact fun e he => List.mem_append_right _ he⟩ rfl ?_
                          refine Z.yes (s := 32) (b := false) rfl rfl rfl ?_
                          refine Z.yes (s := 35) (b := true) rfl rfl rfl ?_
                          refine Z.t 20 rfl rfl rfl (by rfl) (by kernel_rfl) ⟨_, hs, by first | (simp; done) | exact fun e he => List.mem_append_right _ he⟩ (Z.Yd.pickT rfl rfl) ?_
                          refine Z.yes (s := 32) (b := false) rfl rfl rfl ?_
                          refine Z.yes (s := 35) (b := true) rfl rfl rfl ?_
                          refine Z.t 21 rfl rfl rfl (by rfl) (by kernel_rfl) ⟨_, hs, by first | (simp; done) | exact fun e he => List.mem_append_right _ he⟩ (Z.Yd.pickF rfl rfl) ?_
                          refine Z.td (by rfl) (by kernel_rfl) ?_
                          refine Z.only [1, 20, 21, 22, 48] rfl ?_
                          refine Z.nthen ?_
                          refine Z.cond rfl (fun hc6 => ?_) (fun hc6 => ?_)
                          · first
                              | (exfalso; simp at hc6 <;> omega)
                              | (
                                (try simp at hc6)
                                refine Z.seq ?_
                                refine Z.region ?_
                                refine Z.lb 1 rfl ?_
                                refine Z.lnil ?_
                                refine Z.only [2] rfl ?_
                                refine Z.nthen ?_
                                refine Z.ret ?_
                                repeat (first | refine Z.rthen ?_ | refine Z.rblock ?_ | refine Z.rscope ?_)
                                -- ret#2
                                refine Z.out1 (by exact ⟨rfl, trivial⟩) ?_
                                refine ⟨_, rfl, ?_, hs.sub (List.nil_sublist _)⟩
                                congr 1
                                have hf : stepB ack l k = false := by rw [hst]; simp_all <;> omega
                                unfold vldB
                                rw [List.all_eq_false.2 ⟨k, List.mem_range.2 (by omega), by rw [hf]; simp⟩]
                                simp
                                )
                          · first
                              | (exfalso; simp at hc6 <;> omega)
                              | (
                                (try simp at hc6)
                                refine Z.skip ?_
                                refine Z.nblock ?_
                                refine Z.nthen ?_
                                refine Z.region ?_
                                refine Z.l rfl rfl (by rfl) (Z.keepS hs) (Z.Yd.add rfl rfl (fun hG => Z.wi64 (by first | omega | (have hG' := Z.gh rfl hG; simp at hG'; omega)))) ?_
                                refine Z.lb 1 rfl ?_
                                refine Z.lnil ?_
                                refine Z.only [1, 20, 21, 22] rfl ?_
                                refine Z.nthen ?_
                                refine Z.again (k + 1) (by refine ⟨?_, ?_, ?_, ?_, trivial⟩ <;> (first | rfl | (refine Z.lookv rfl ?_; simp; done) | (refine Z.lookv rfl ?_; simp; omega))) ⟨⟨by omega, ?_⟩, hs.tl⟩ (by omega)
                                rw [List.range_succ, List.all_append, hj]
                                simp only [List.all_cons, List.all_nil, Bool.and_true, Bool.true_and]
                                rw [hst]
                                simp_all
                                )
                          )
                    · first
                        | (exfalso; simp at hsp35 <;> omega)
                        | (
                          refine Z.yes (s := 35) (b := false) rfl hsp35 rfl ?_
                          (try simp at hsp35)
                          refine Z.yes (s := 32) (b := false) rfl rfl rfl ?_
                          refine Z.t 9 rfl rfl rfl (by rfl) (by kernel_rfl) ⟨_, hs, by first | (simp; done) | exact fun e he => List.mem_append_right _ he⟩ (Z.Yd.off (v := undef) 35 true rfl (by first | (simp; done) | (simp_all; done)) (by intro c h; cases h)) ?_
                          refine Z.t 10 rfl rfl rfl (by rfl) (by kernel_rfl) ⟨_, hs, by first | (simp; done) | exact fun e he => List.mem_append_right _ he⟩ (Z.Yd.off (v := undef) 35 true rfl (by first | (simp; done) | (simp_all; done)) (by intro c h; cases h)) ?_
                          refine Z.t 11 rfl rfl rfl (by rfl) (by kernel_rfl) ⟨_, hs, by first | (simp; done) | exact fun e he => List.mem_append_right _ he⟩ (Z.Yd.off (v := undef) 35 true rfl (by first | (simp; done) | (simp_all; done)) (by intro c h; cases h)) ?_
                          refine Z.t 12 rfl rfl rfl (by rfl) (by kernel_rfl) ⟨_, hs, by first | (simp; done) | exact fun e he => List.mem_append_right _ he⟩ (Z.Yd.off (v := undef) 35 true rfl (by first | (simp; done) | (simp_all; done)) (by intro c h; cases h)) ?_
                          refine Z.t 13 rfl rfl rfl (by rfl) (by kernel_rfl) ⟨_, hs, by first | (simp; done) | exact fun e he => List.mem_append_right _ he⟩ (Z.Yd.off (v := undef) 35 true rfl (by first | (simp; done) | (simp_all; done)) (by intro c h; cases h)) ?_
                          refine Z.t 14 rfl rfl rfl (by rfl) (by kernel_rfl) ⟨_, hs, by first | (simp; done) | exact fun e he => List.mem_append_right _ he⟩ (Z.Yd.off (v := undef) 35 true rfl (by first | (simp; done) | (simp_all; done)) (by intro c h; cases h)) ?_
                          refine Z.t 15 rfl rfl rfl (by rfl) (by kernel_rfl) ⟨_, hs, by first | (simp; done) | exact fun e he => List.mem_append_right _ he⟩ (Z.Yd.off (v := undef) 35 true rfl (by first | (simp; done) | (simp_all; done)) (by intro c h; cases h)) ?_
                          refine Z.t 16 rfl rfl rfl (by rfl) (by kernel_rfl) ⟨_, hs, by first | (simp; done) | exact fun e he => List.mem_append_right _ he⟩ (Z.Yd.off (v := undef) 35 true rfl (by first | (simp; done) | (simp_all; done)) (by intro c h; cases h)) ?_
                          refine Z.t 17 rfl rfl rfl (by rfl) (by kernel_rfl) ⟨_, hs, by first | (simp; done) | exact fun e he => List.mem_append_right _ he⟩ (Z.Yd.off (v := undef) 35 true rfl (by first | (simp; done) | (simp_all; done)) (by intro c h; cases h)) ?_
                          refine Z.yes (s := 32) (b := false) rfl rfl rfl ?_
                          refine Z.yes (s := 35) (b := false) rfl rfl rfl ?_
                          refine Z.tnS 35 true 18 rfl rfl (by kernel_rfl) rfl rfl (by simp) rfl (by rfl) (fun _ => ⟨_, hs, by first | (simp; done) | exact fun e he => List.mem_append_right _ he⟩) ?_
                          refine Z.t 19 rfl rfl rfl (by rfl) (by kernel_rfl) ⟨_, hs, by first | (simp; done) | exact fun e he => List.mem_append_right _ he⟩ (Z.Yd.off (v := undef) 35 true rfl (by first | (simp; done) | (simp_all; done)) (by intro c h; cases h)) ?_
                          refine Z.yes (s := 32) (b := false) rfl rfl rfl ?_
                          refine Z.yes (s := 35) (b := false) rfl rfl rfl ?_
                          refine Z.t 20 rfl rfl rfl (by rfl) (by kernel_rfl) ⟨_, hs, by first | (simp; done) | exact fun e he => List.mem_append_right _ he⟩ (Z.Yd.pickF rfl rfl) ?_
                          refine Z.yes (s := 32) (b := false) rfl rfl rfl ?_
                          refine Z.yes (s := 35) (b := false) rfl rfl rfl ?_
                          refine Z.t 21 rfl rfl rfl (by rfl) (by kernel_rfl) ⟨_, hs, by first | (simp; done) | exact fun e he => List.mem_append_right _ he⟩ (Z.Yd.pickF rfl rfl) ?_
                          refine Z.td (by rfl) (by kernel_rfl) ?_
                          refine Z.only [1, 20, 21, 22, 48] rfl ?_
                          refine Z.nthen ?_
                          refine Z.cond rfl (fun hc6 => ?_) (fun hc6 => ?_)
                          · first
                              | (exfalso; simp at hc6 <;> omega)
                              | (
                                (try simp at hc6)
                                refine Z.seq ?_
                                refine Z.region ?_
                                refine Z.lb 1 rfl ?_
                                refine Z.lnil ?_
                                refine Z.only [2] rfl ?_
                                refine Z.nthen ?_
                                refine Z.ret ?_
                                repeat (first | refine Z.rthen ?_ | refine Z.rblock ?_ | refine Z.rscope ?_)
                                -- ret#3
                                refine Z.out1 (by exact ⟨rfl, trivial⟩) ?_
                                refine ⟨_, rfl, ?_, hs.sub (List.nil_sublist _)⟩
                                congr 1
                                have hf : stepB ack l k = false := by rw [hst]; simp_all <;> omega
                                unfold vldB
                                rw [List.all_eq_false.2 ⟨k, List.mem_range.2 (by omega), by rw [hf]; simp⟩]
                                simp
                                )
                          · first
                              | (exfalso; simp at hc6 <;> omega)
                              | (
                                (try simp at hc6)
                                refine Z.skip ?_
                                refine Z.nblock ?_
                                refine Z.nthen ?_
                                refine Z.region ?_
                                refine Z.l rfl rfl (by rfl) (Z.keepS hs) (Z.Yd.add rfl rfl (fun hG => Z.wi64 (by first | omega | (have hG' := Z.gh rfl hG; simp at hG'; omega)))) ?_
                                refine Z.lb 1 rfl ?_
                                refine Z.lnil ?_
                                refine Z.only [1, 20, 21, 22] rfl ?_
                                refine Z.nthen ?_
                                refine Z.again (k + 1) (by refine ⟨?_, ?_, ?_, ?_, trivial⟩ <;> (first | rfl | (refine Z.lookv rfl ?_; simp; done) | (refine Z.lookv rfl ?_; simp; omega))) ⟨⟨by omega, ?_⟩, hs.tl⟩ (by omega)
                                rw [List.range_succ, List.all_append, hj]
                                simp only [List.all_cons, List.all_nil, Bool.and_true, Bool.true_and]
                                rw [hst]
                                simp_all
                                )
                          )
                    )
              )
        · first
            | (exfalso; simp at hc4 <;> omega)
            | (
              (try simp at hc4)
              refine Z.exit ?_
              refine Z.xthen ?_
              refine Z.xthen ?_
              refine Z.xblock ?_
              refine Z.nthen ?_
              refine Z.seq ?_
              refine Z.region ?_
              refine Z.lb 1 rfl ?_
              refine Z.lnil ?_
              refine Z.only [2] rfl ?_
              refine Z.nthen ?_
              refine Z.ret ?_
              -- ret#4
              refine Z.out1 (by exact ⟨rfl, trivial⟩) ?_
              refine ⟨_, rfl, ?_, hs.sub (List.nil_sublist _)⟩
              obtain rfl : k = n := by omega
              congr 1
              unfold vldB
              rw [hl, hj]
              simp
              omega
              )
        )

set_option maxRecDepth 100000 in
theorem rsvalid_any (ack : Int) (A : Option Addr) (n c : Nat) (l : List NkV) (w : World) (hx : Sl w A (l.flatMap NkV.cells)) (hl : l.length = n) (hn : n ≤ 9223372036854775807) :
    Calls Try.prog 15 #[.agg #[.int .i64 ack, .slice A n c]] w (SX.Ret fun v w' => v = .bool (vldB ack l) ∧ SX.St w [] w' []) := by
  have hs := SX.St.start w
  refine Z.enter Try.func15 rfl Try.ntmps15 rfl rfl ?_
  refine Z.seq ?_
  refine Z.region ?_
  refine Z.le rfl trivial ?_
  refine Z.ZO.box rfl rfl (by rfl) rfl rfl hs ?_
  clear hs; intro g1 w1 hs
  refine Z.lb 1 rfl ?_
  refine Z.lnil ?_
  refine Z.only [1] rfl ?_
  refine Z.nthen ?_
  refine Z.seq ?_
  refine Z.seq ?_
  refine Z.region ?_
  refine Z.l rfl rfl (by rfl) (Z.keepS hs) (Z.Yd.fieldA (m := 0) rfl (by kernel_rfl)) ?_
  refine Z.l rfl rfl (by rfl) (Z.keepS hs) (by first | exact Z.Yd.load rfl Try.isAgg3 (fun _ => Z.cellB (by first | ((repeat (first | exact List.mem_cons_self | refine List.mem_cons_of_mem _ ?_ | refine List.mem_append_right _ ?_)); done) | fail) rfl) | exact Z.Yd.load rfl Try.isAgg3 (fun _ => Z.cellO (by assumption) (by simp) (by assumption)) | fail "load 1.1") ?_
  refine Z.lb 2 rfl ?_
  refine Z.l rfl rfl (by rfl) (Z.keepS hs) (Z.Yd.fieldA (m := 0) rfl (by kernel_rfl)) ?_
  refine Z.l rfl rfl (by rfl) (Z.keepS hs) (by first | exact Z.Yd.load rfl Try.isAgg3 (fun _ => Z.cellB (by first | ((repeat (first | exact List.mem_cons_self | refine List.mem_cons_of_mem _ ?_ | refine List.mem_append_right _ ?_)); done) | fail) rfl) | exact Z.Yd.load rfl Try.isAgg3 (fun _ => Z.cellO (by assumption) (by simp) (by assumption)) | fail "load 1.5") ?_
  refine Z.lb 3 rfl ?_
  refine Z.l rfl rfl (by rfl) (Z.keepS hs) (Z.Yd.fieldA (m := 1) rfl (by kernel_rfl)) ?_
  refine Z.l rfl rfl (by rfl) (Z.keepS hs) (by first | exact Z.Yd.load rfl Try.isAgg22 (fun _ => Z.cellB (by first | ((repeat (first | exact List.mem_cons_self | refine List.mem_cons_of_mem _ ?_ | refine List.mem_append_right _ ?_)); done) | fail) rfl) | exact Z.Yd.load rfl Try.isAgg22 (fun _ => Z.cellO (by assumption) (by simp) (by assumption)) | fail "load 1.10") ?_
  refine Z.l rfl rfl (by rfl) (Z.keepS hs) (Z.Yd.lenS rfl Try.underlying22) ?_
  refine Z.lb 2 rfl ?_
  refine Z.lnil ?_
  refine Z.only [1, 17] rfl ?_
  refine Z.nthen ?_
  refine Z.cond rfl (fun hc1 => ?_) (fun hc1 => ?_)
  · first
      | (exfalso; simp at hc1 <;> omega)
      | (
        (try simp at hc1)
        refine Z.seq ?_
        refine Z.region ?_
        refine Z.lb 1 rfl ?_
        refine Z.lnil ?_
        refine Z.only [2] rfl ?_
        refine Z.nthen ?_
        refine Z.ret ?_
        repeat (first | refine Z.rthen ?_ | refine Z.rblock ?_ | refine Z.rscope ?_)
        -- ret#0
        refine Z.out1 (by exact ⟨rfl, trivial⟩) ?_
        refine ⟨_, rfl, ?_, hs.sub (List.nil_sublist _)⟩
        congr 1
        unfold vldB
        by_cases h1 : 0 ≤ ack ∧ ack ≤ 1023
        · rw [decide_eq_false (show ¬ l.length ≤ 512 by omega)]; simp
        · rw [decide_eq_false h1]; rfl
        )
  · first
      | (exfalso; simp at hc1 <;> omega)
      | (
        (try simp at hc1)
        refine Z.skip ?_
        refine Z.nthen ?_
        refine Z.seq ?_
        refine Z.seq ?_
        refine Z.region ?_
        refine Z.lb 1 rfl ?_
        refine Z.lnil ?_
        refine Z.only [1, 3] rfl ?_
        refine Z.nthen ?_
        refine Z.block ?_
        refine Z.loopk (ι := Nat) [1] rfl (fun k => [(3, [], .int .i64 (k : Int))]) (fun k wr => (k ≤ n ∧ (List.range k).all (stepB ack l) = true) ∧ SX.St w [] wr [SX.Ent.blk g1 24 #[.int .i64 ack, .slice A n c]]) (fun k => n - k) 0 (by refine ⟨?_, trivial⟩ <;> (first | rfl | (refine Z.lookv rfl ?_; simp; done) | (refine Z.lookv rfl ?_; simp; omega))) ⟨⟨by omega, rfl⟩, hs⟩ ?_
        clear hs
        rintro k w1 ⟨⟨hk, hj⟩, hs⟩
        refine Z.only [1, 3] rfl ?_
        refine Z.seq ?_
        refine Z.seq ?_
        refine Z.region ?_
        refine Z.lb 1 rfl ?_
        refine Z.l rfl rfl (by rfl) (Z.keepS hs) (Z.Yd.fieldA (m := 1) rfl (by kernel_rfl)) ?_
        refine Z.l rfl rfl (by rfl) (Z.keepS hs) (by first | exact Z.Yd.load rfl Try.isAgg22 (fun _ => Z.cellB (by first | ((repeat (first | exact List.mem_cons_self | refine List.mem_cons_of_mem _ ?_ | refine List.mem_append_right _ ?_)); done) | fail) rfl) | exact Z.Yd.load rfl Try.isAgg22 (fun _ => Z.cellO (by assumption) (by simp) (by assumption)) | fail "load 4.2") ?_
        refine Z.l rfl rfl (by rfl) (Z.keepS hs) (Z.Yd.lenS rfl Try.underlying22) ?_
        refine Z.lb 1 rfl ?_
        refine Z.lnil ?_
        refine Z.only [1, 3, 22] rfl ?_
        refine Z.nthen ?_
        refine Z.cond rfl (fun hc4 => ?_) (fun hc4 => ?_)
        · first
            | (exfalso; simp at hc4 <;> omega)
            | (
              (try simp at hc4)
              obtain ⟨b, off, rfl, hx2⟩ := hx.sx.some (by rw [Z.flat_length (s := 4) nk_len]; omega)
              obtain ⟨x, hxk⟩ : ∃ f, l[k]? = some f := ⟨_, List.getElem?_eq_getElem (by omega)⟩
              have hst : stepB ack l k = (decide (alone ack x) && (if k = 0 then true else match l[k - 1]? with
                | some p => decide (follows ack p x)
                | none => false)) := by unfold stepB; rw [hxk]
              refine Z.skip ?_
              refine Z.nthen ?_
              refine Z.seq ?_
              refine Z.block ?_
              refine Z.seq ?_
              refine Z.drawK (fun _ => true) mixed hs ?_
              clear hs; intro wd6 hs
              refine Z.t 0 rfl rfl rfl (by rfl) (by kernel_rfl) ⟨_, hs, by first | (simp; done) | exact fun e he => List.mem_append_right _ he⟩ (Z.Yd.fieldA (m := 0) rfl (by kernel_rfl)) ?_
              refine Z.t 1 rfl rfl rfl (by rfl) (by kernel_rfl) ⟨_, hs, by first | (simp; done) | exact fun e he => List.mem_append_right _ he⟩ (by first | exact Z.Yd.load rfl Try.isAgg3 (fun _ => Z.cellB (by first | ((repeat (first | exact List.mem_cons_self | refine List.mem_cons_of_mem _ ?_ | refine List.mem_append_right _ ?_)); done) | fail) rfl) | exact Z.Yd.load rfl Try.isAgg3 (fun _ => Z.cellO (by assumption) (by simp) (by assumption)) | fail "load 6.1") ?_
              refine Z.t 2 rfl rfl rfl (by rfl) (by kernel_rfl) ⟨_, hs, by first | (simp; done) | exact fun e he => List.mem_append_right _ he⟩ (Z.Yd.fieldA (m := 1) rfl (by kernel_rfl)) ?_
              refine Z.t 3 rfl rfl rfl (by rfl) (by kernel_rfl) ⟨_, hs, by first | (simp; done) | exact fun e he => List.mem_append_right _ he⟩ (by first | exact Z.Yd.load rfl Try.isAgg22 (fun _ => Z.cellB (by first | ((repeat (first | exact List.mem_cons_self | refine List.mem_cons_of_mem _ ?_ | refine List.mem_append_right _ ?_)); done) | fail) rfl) | exact Z.Yd.load rfl Try.isAgg22 (fun _ => Z.cellO (by assumption) (by simp) (by assumption)) | fail "load 6.3") ?_
              refine Z.tb [4] (by kernel_rfl) rfl ⟨_, hs, by first | (simp; done) | exact fun e he => List.mem_append_right _ he⟩ rfl ?_
              refine Z.t 5 rfl rfl rfl (by rfl) (by kernel_rfl) ⟨_, hs, by first | (simp; done) | exact fun e he => List.mem_append_right _ he⟩ (Z.Yd.elem rfl rfl Try.underlying22 Try.sizeOf45 (fun hG => ⟨(by first | omega | (have hG' := Z.gh rfl hG; simp at hG'; omega)), (by first | omega | (have hG' := Z.gh rfl hG; simp at hG'; omega))⟩)) ?_
              refine Z.t 6 rfl rfl rfl (by rfl) (by kernel_rfl) ⟨_, hs, by first | (simp; done) | exact fun e he => List.mem_append_right _ he⟩ (Z.Yd.loadA _ rfl Try.isAgg45 (fun _ => Z.cellsX x.cells hx2 nk_len hxk rfl) (by exact Try.sizeOf45)) ?_
              refine Z.tn 7 rfl rfl (by kernel_rfl) rfl trivial ?_
              refine Z.ZO.call rfl rfl (by rfl) rfl rfl Try.call35 rfl (ralone_any ack x _ (by omega)) ?_
              rintro v6_7 w6_7 ⟨rfl, hy⟩
              replace hs := hs.call hy
              clear hy
              try simp only [List.cons_append, List.nil_append, List.append_nil] at hs
              refine Z.tk (Dn := fun _ => true) (i := 7) (fun _ => ⟨_, hs, by first | (simp; done) | exact fun e he => List.mem_append_right _ he⟩) ?_
              refine Z.tb [8, 9] (by kernel_rfl) rfl ⟨_, hs, by first | (simp; done) | exact fun e he => List.mem_append_right _ he⟩ rfl ?_
              refine Z.split (s := 34) rfl (fun hsp34 => ?_) (fun hsp34 => ?_)
              · first
                  | (exfalso; simp at hsp34 <;> omega)
                  | (
                    refine Z.yes (s := 34) (b := true) rfl hsp34 rfl ?_
                    (try simp at hsp34)
                    refine Z.t 10 rfl rfl rfl (by rfl) (by kernel_rfl) ⟨_, hs, by first | (simp; done) | exact fun e he => List.mem_append_right _ he⟩ (Z.Yd.off (v := undef) 34 false rfl (by first | (simp; done) | (simp_all; done)) (by intro c h; cases h)) ?_
                    refine Z.t 11 rfl rfl rfl (by rfl) (by kernel_rfl) ⟨_, hs, by first | (simp; done) | exact fun e he => List.mem_append_right _ he⟩ (Z.Yd.off (v := undef) 34 false rfl (by first | (simp; done) | (simp_all; done)) (by intro c h; cases h)) ?_
                    refine Z.t 12 rfl rfl rfl (by rfl) (by kernel_rfl) ⟨_, hs, by first | (simp; done) | exact fun e he => List.mem_append_right _ he⟩ (Z.Yd.off (v := undef) 34 false rfl (by first | (simp; done) | (simp_all; done)) (by intro c h; cases h)) ?_
                    refine Z.t 13 rfl rfl rfl (by rfl) (by kernel_rfl) ⟨_, hs, by first | (simp; done) | exact fun e he => List.mem_append_right _ he⟩ (Z.Yd.off (v := undef) 34 false rfl (by first | (simp; done) | (simp_all; done)) (by intro c h; cases h)) ?_
                    refine Z.t 14 rfl rfl rfl (by rfl) (by kernel_rfl) ⟨_, hs, by first | (simp; done) | exact fun e he => List.mem_append_right _ he⟩ (Z.Yd.off (v := undef) 34 false rfl (by first | (simp; done) | (simp_all; done)) (by intro c h; cases h)) ?_
                    refine Z.t 15 rfl rfl rfl (by rfl) (by kernel_rfl) ⟨_, hs, by first | (simp; done) | exact fun e he => List.mem_append_right _ he⟩ (Z.Yd.off (v := undef) 34 false rfl (by first | (simp; done) | (simp_all; done)) (by intro c h; cases h)) ?_
                    refine Z.t 16 rfl rfl rfl (by rfl) (by kernel_rfl) ⟨_, hs, by first | (simp; done) | exact fun e he => List.mem_append_right _ he⟩ (Z.Yd.off (v := undef) 34 false rfl (by first | (simp; done) | (simp_all; done)) (by intro c h; cases h)) ?_
                    refine Z.t 17 rfl rfl rfl (by rfl) (by kernel_rfl) ⟨_, hs, by first | (simp; done) | exact fun e he => List.mem_append_right _ he⟩ (Z.Yd.off (v := undef) 34 false rfl (by first | (simp; done) | (simp_all; done)) (by intro c h; cases h)) ?_
                    refine Z.t 18 rfl rfl rfl (by rfl) (by kernel_rfl) ⟨_, hs, by first | (simp; done) | exact fun e he => List.mem_append_right _ he⟩ (Z.Yd.off (v := undef) 34 false rfl (by first | (simp; done) | (simp_all; done)) (by intro c h; cases h)) ?_
                    refine Z.t 19 rfl rfl rfl (by rfl) (by kernel_rfl) ⟨_, hs, by first | (simp; done) | exact fun e he => List.mem_append_right _ he⟩ (Z.Yd.off (v := undef) 34 false rfl (by first | (simp; done) | (simp_all; done)) (by intro c h; cases h)) ?_
                    refine Z.t 20 rfl rfl rfl (by rfl) (by kernel_rfl) ⟨_, hs, by first | (simp; done) | exact fun e he => List.mem_append_right _ he⟩ (Z.Yd.off (v := undef) 34 false rfl (by first | (simp; done) | (simp_all; done)) (by intro c h; cases h)) ?_
                    refine Z.t 21 rfl rfl rfl (by rfl) (by kernel_rfl) ⟨_, hs, by first | (simp; done) | exact fun e he => List.mem_append_right _ he⟩ (Z.Yd.off (v := undef) 34 false rfl (by first | (simp; done) | (simp_all; done)) (by intro c h; cases h)) ?_
                    refine Z.t 22 rfl rfl rfl (by rfl) (by kernel_rfl) ⟨_, hs, by first | (simp; done) | exact fun e he => List.mem_append_right _ he⟩ (Z.Yd.off (v := undef) 34 false rfl (by first | (simp; done) | (simp_all; done)) (by intro c h; cases h)) ?_
                    refine Z.t 23 rfl rfl rfl (by rfl) (by kernel_rfl) ⟨_, hs, by first | (simp; done) | exact fun e he => List.mem_append_right _ he⟩ (Z.Yd.off (v := undef) 34 false rfl (by first | (simp; done) | (simp_all; done)) (by intro c h; cases h)) ?_
                    refine Z.t 24 rfl rfl rfl (by rfl) (by kernel_rfl) ⟨_, hs, by first | (simp; done) | exact fun e he => List.mem_append_right _ he⟩ (Z.Yd.off (v := undef) 34 false rfl (by first | (simp; done) | (simp_all; done)) (by intro c h; cases h)) ?_
                    refine Z.t 25 rfl rfl rfl (by rfl) (by kernel_rfl) ⟨_, hs, by first | (simp; done) | exact fun e he => List.mem_append_right _ he⟩ (Z.Yd.off (v := undef) 34 false rfl (by first | (simp; done) | (simp_all; done)) (by intro c h; cases h)) ?_
                    refine Z.yes (s := 34) (b := true) rfl rfl rfl ?_
                    refine Z.tnS 34 false 26 rfl rfl (by kernel_rfl) rfl rfl (by simp) rfl (by rfl) (fun _ => ⟨_, hs, by first | (simp; done) | exact fun e he => List.mem_append_right _ he⟩) ?_
                    refine Z.t 27 rfl rfl rfl (by rfl) (by kernel_rfl) ⟨_, hs, by first | (simp; done) | exact fun e he => List.mem_append_right _ he⟩ (Z.Yd.off (v := undef) 34 false rfl (by first | (simp; done) | (simp_all; done)) (by intro c h; cases h)) ?_
                    refine Z.t 28 rfl rfl rfl (by rfl) (by kernel_rfl) ⟨_, hs, by first | (simp; done) | exact fun e he => List.mem_append_right _ he⟩ (Z.Yd.off (v := undef) 34 false rfl (by first | (simp; done) | (simp_all; done)) (by intro c h; cases h)) ?_
                    refine Z.yes (s := 34) (b := true) rfl rfl rfl ?_
                    refine Z.t 29 rfl rfl rfl (by rfl) (by kernel_rfl) ⟨_, hs, by first | (simp; done) | exact fun e he => List.mem_append_right _ he⟩ (Z.Yd.pickT rfl rfl) ?_
                    refine Z.td (by rfl) (by kernel_rfl) ?_
                    refine Z.only [1, 3, 54] rfl ?_
                    refine Z.nthen ?_
                    refine Z.cond rfl (fun hc6 => ?_) (fun hc6 => ?_)
                    · first
                        | (exfalso; simp at hc6 <;> omega)
                        | (
                          (try simp at hc6)
                          refine Z.seq ?_
                          refine Z.region ?_
                          refine Z.lb 1 rfl ?_
                          refine Z.lnil ?_
                          refine Z.only [2] rfl ?_
                          refine Z.nthen ?_
                          refine Z.ret ?_
                          repeat (first | refine Z.rthen ?_ | refine Z.rblock ?_ | refine Z.rscope ?_)
                          -- ret#1
                          refine Z.out1 (by exact ⟨rfl, trivial⟩) ?_
                          refine ⟨_, rfl, ?_, hs.sub (List.nil_sublist _)⟩
                          congr 1
                          have hf : stepB ack l k = false := by rw [hst]; simp_all <;> omega
                          unfold vldB
                          rw [List.all_eq_false.2 ⟨k, List.mem_range.2 (by omega), by rw [hf]; simp⟩]
                          simp
                          )
                    · first
                        | (exfalso; simp at hc6 <;> omega)
                        | (
                          (try simp at hc6)
                          refine Z.skip ?_
                          refine Z.nblock ?_
                          refine Z.nthen ?_
                          refine Z.region ?_
                          refine Z.lb 1 rfl ?_
                          refine Z.l rfl rfl (by rfl) (Z.keepS hs) (Z.Yd.add rfl rfl (fun hG => Z.wi64 (by first | omega | (have hG' := Z.gh rfl hG; simp at hG'; omega)))) ?_
                          refine Z.lb 1 rfl ?_
                          refine Z.lnil ?_
                          refine Z.only [1, 3] rfl ?_
                          refine Z.nthen ?_
                          refine Z.again (k + 1) (by refine ⟨?_, ?_, trivial⟩ <;> (first | rfl | (refine Z.lookv rfl ?_; simp; done) | (refine Z.lookv rfl ?_; simp; omega))) ⟨⟨by omega, ?_⟩, hs⟩ (by omega)
                          rw [List.range_succ, List.all_append, hj]
                          simp only [List.all_cons, List.all_nil, Bool.and_true, Bool.true_and]
                          rw [hst]
                          simp_all
                          )
                    )
              · first
                  | (exfalso; simp at hsp34 <;> omega)
                  | (
                    refine Z.yes (s := 34) (b := false) rfl hsp34 rfl ?_
                    (try simp at hsp34)
                    have hxal : alone ack x := by assumption
                    refine Z.tb [10, 11, 12] (by kernel_rfl) rfl ⟨_, hs, by first | (simp; done) | exact fun e he => List.mem_append_right _ he⟩ rfl ?_
                    refine Z.yes (s := 34) (b := false) rfl rfl rfl ?_
                    refine Z.split (s := 37) rfl (fun hsp37 => ?_) (fun hsp37 => ?_)
                    · first
                        | (exfalso; simp at hsp37 <;> omega)
                        | (
                          refine Z.yes (s := 37) (b := true) rfl hsp37 rfl ?_
                          (try simp at hsp37)
                          obtain ⟨p, hp⟩ : ∃ f, l[k - 1]? = some f := ⟨_, List.getElem?_eq_getElem (by omega)⟩
                          have hk1 : ((k : Int) - 1) = ((k - 1 : Nat) : Int) := by omega
                          have hpal : alone ack p := stepB_alone hp (List.all_eq_true.1 hj (k - 1) (List.mem_range.2 (by omega)))
                          have h1 := hxal.1
                          have h2 := hpal.1
                          refine Z.yes (s := 34) (b := false) rfl rfl rfl ?_
                          refine Z.t 13 rfl rfl rfl (by rfl) (by kernel_rfl) ⟨_, hs, by first | (simp; done) | exact fun e he => List.mem_append_right _ he⟩ (Z.Yd.fieldA (m := 0) rfl (by kernel_rfl)) ?_
                          refine Z.t 14 rfl rfl rfl (by rfl) (by kernel_rfl) ⟨_, hs, by first | (simp; done) | exact fun e he => List.mem_append_right _ he⟩ (by first | exact Z.Yd.load rfl Try.isAgg3 (fun _ => Z.cellB (by first | ((repeat (first | exact List.mem_cons_self | refine List.mem_cons_of_mem _ ?_ | refine List.mem_append_right _ ?_)); done) | fail) rfl) | exact Z.Yd.load rfl Try.isAgg3 (fun _ => Z.cellO (by assumption) (by simp) (by assumption)) | fail "load 6.14") ?_
                          refine Z.t 15 rfl rfl rfl (by rfl) (by kernel_rfl) ⟨_, hs, by first | (simp; done) | exact fun e he => List.mem_append_right _ he⟩ (Z.Yd.fieldA (m := 1) rfl (by kernel_rfl)) ?_
                          refine Z.t 16 rfl rfl rfl (by rfl) (by kernel_rfl) ⟨_, hs, by first | (simp; done) | exact fun e he => List.mem_append_right _ he⟩ (by first | exact Z.Yd.load rfl Try.isAgg22 (fun _ => Z.cellB (by first | ((repeat (first | exact List.mem_cons_self | refine List.mem_cons_of_mem _ ?_ | refine List.mem_append_right _ ?_)); done) | fail) rfl) | exact Z.Yd.load rfl Try.isAgg22 (fun _ => Z.cellO (by assumption) (by simp) (by assumption)) | fail "load 6.16") ?_
                          refine Z.tb [17] (by kernel_rfl) rfl ⟨_, hs, by first | (simp; done) | exact fun e he => List.mem_append_right _ he⟩ rfl ?_
                          refine Z.t 18 rfl rfl rfl (by rfl) (by kernel_rfl) ⟨_, hs, by first | (simp; done) | exact fun e he => List.mem_append_right _ he⟩ (Z.Yd.sub rfl rfl (fun hG => Z.wi64 (by first | omega | (have hG' := Z.gh rfl hG; simp at hG'; omega)))) ?_
                          refine Z.t 19 rfl rfl rfl (by rfl) (by kernel_rfl) ⟨_, hs, by first | (simp; done) | exact fun e he => List.mem_append_right _ he⟩ (Z.Yd.elem rfl rfl Try.underlying22 Try.sizeOf45 (fun hG => ⟨(by first | omega | (have hG' := Z.gh rfl hG; simp at hG'; omega)), (by first | omega | (have hG' := Z.gh rfl hG; simp at hG'; omega))⟩)) ?_
                          refine Z.t 20 rfl rfl rfl (by rfl) (by kernel_rfl) ⟨_, hs, by first | (simp; done) | exact fun e he => List.mem_append_right _ he⟩ (Z.Yd.loadA _ rfl Try.isAgg45 (fun _ => hk1 ▸ Z.cellsX p.cells hx2 nk_len hp rfl) (by exact Try.sizeOf45)) ?_
                          refine Z.t 21 rfl rfl rfl (by rfl) (by kernel_rfl) ⟨_, hs, by first | (simp; done) | exact fun e he => List.mem_append_right _ he⟩ (Z.Yd.fieldA (m := 1) rfl (by kernel_rfl)) ?_
                          refine Z.t 22 rfl rfl rfl (by rfl) (by kernel_rfl) ⟨_, hs, by first | (simp; done) | exact fun e he => List.mem_append_right _ he⟩ (by first | exact Z.Yd.load rfl Try.isAgg22 (fun _ => Z.cellB (by first | ((repeat (first | exact List.mem_cons_self | refine List.mem_cons_of_mem _ ?_ | refine List.mem_append_right _ ?_)); done) | fail) rfl) | exact Z.Yd.load rfl Try.isAgg22 (fun _ => Z.cellO (by assumption) (by simp) (by assumption)) | fail "load 6.22") ?_
                          refine Z.tb [23] (by kernel_rfl) rfl ⟨_, hs, by first | (simp; done) | exact fun e he => List.mem_append_right _ he⟩ rfl ?_
                          refine Z.t 24 rfl rfl rfl (by rfl) (by kernel_rfl) ⟨_, hs, by first | (simp; done) | exact fun e he => List.mem_append_right _ he⟩ (Z.Yd.elem rfl rfl Try.underlying22 Try.sizeOf45 (fun hG => ⟨(by first | omega | (have hG' := Z.gh rfl hG; simp at hG'; omega)), (by first | omega | (have hG' := Z.gh rfl hG; simp at hG'; omega))⟩)) ?_
                          refine Z.t 25 rfl rfl rfl (by rfl) (by kernel_rfl) ⟨_, hs, by first | (simp; done) | exact fun e he => List.mem_append_right _ he⟩ (Z.Yd.loadA _ rfl Try.isAgg45 (fun _ => Z.cellsX x.cells hx2 nk_len hxk rfl) (by exact Try.sizeOf45)) ?_
                          refine Z.yes (s := 34) (b := false) rfl rfl rfl ?_
                          refine Z.yes (s := 37) (b := true) rfl rfl rfl ?_
                          refine Z.tn 26 rfl rfl (by kernel_rfl) rfl (by exact ⟨rfl, trivial⟩) ?_
                          refine Z.ZO.call rfl rfl (by rfl) rfl rfl Try.call36 rfl (rfollows_any ack p x _ (by omega) (by omega) (by omega)) ?_
                          rintro v6_26 w6_26 ⟨rfl, hy⟩
                          replace hs := hs.call hy
                          clear hy
                          try simp only [List.cons_append, List.nil_append, List.append_nil] at hs
                          refine Z.tk (Dn := fun _ => true) (i := 26) (fun _ => ⟨_, hs, by first | (simp; done) | exact fun e he => List.mem_append_right _ he⟩) ?_
                          refine Z.tb [27] (by kernel_rfl) rfl ⟨_, hs, by first | (simp; done) | exact fun e he => List.mem_append_right _ he⟩ rfl ?_
                          refine Z.yes (s := 34) (b := false) rfl rfl rfl ?_
                          refine Z.yes (s := 37) (b := true) rfl rfl rfl ?_
                          refine Z.t 28 rfl rfl rfl (by rfl) (by kernel_rfl) ⟨_, hs, by first | (simp; done) | exact fun e he => List.mem_append_right _ he⟩ (Z.Yd.pickT rfl rfl) ?_
                          refine Z.yes (s := 34) (b := false) rfl rfl rfl ?_
                          refine Z.yes (s := 37) (b := true) rfl rfl rfl ?_
                          refine Z.t 29 rfl rfl rfl (by rfl) (by kernel_rfl) ⟨_, hs, by first | (simp; done) | exact fun e he => List.mem_append_right _ he⟩ (Z.Yd.pickF rfl rfl) ?_
                          refine Z.td (by rfl) (by kernel_rfl) ?_
                          refine Z.only [1, 3, 54] rfl ?_
                          refine Z.nthen ?_
                          refine Z.cond rfl (fun hc6 => ?_) (fun hc6 => ?_)
                          · first
                              | (exfalso; simp at hc6 <;> omega)
                              | (
                                (try simp at hc6)
                                refine Z.seq ?_
                                refine Z.region ?_
                                refine Z.lb 1 rfl ?_
                                refine Z.lnil ?_
                                refine Z.only [2] rfl ?_
                                refine Z.nthen ?_
                                refine Z.ret ?_
                                repeat (first | refine Z.rthen ?_ | refine Z.rblock ?_ | refine Z.rscope ?_)
                                -- ret#2
                                refine Z.out1 (by exact ⟨rfl, trivial⟩) ?_
                                refine ⟨_, rfl, ?_, hs.sub (List.nil_sublist _)⟩
                                congr 1
                                have hf : stepB ack l k = false := by rw [hst]; simp_all <;> omega
                                unfold vldB
                                rw [List.all_eq_false.2 ⟨k, List.mem_range.2 (by omega), by rw [hf]; simp⟩]
                                simp
                                )
                          · first
                              | (exfalso; simp at hc6 <;> omega)
                              | (
                                (try simp at hc6)
                                refine Z.skip ?_
                                refine Z.nblock ?_
                                refine Z.nthen ?_
                                refine Z.region ?_
                                refine Z.lb 1 rfl ?_
                                refine Z.l rfl rfl (by rfl) (Z.keepS hs) (Z.Yd.add rfl rfl (fun hG => Z.wi64 (by first | omega | (have hG' := Z.gh rfl hG; simp at hG'; omega)))) ?_
                                refine Z.lb 1 rfl ?_
                                refine Z.lnil ?_
                                refine Z.only [1, 3] rfl ?_
                                refine Z.nthen ?_
                                refine Z.again (k + 1) (by refine ⟨?_, ?_, trivial⟩ <;> (first | rfl | (refine Z.lookv rfl ?_; simp; done) | (refine Z.lookv rfl ?_; simp; omega))) ⟨⟨by omega, ?_⟩, hs⟩ (by omega)
                                rw [List.range_succ, List.all_append, hj]
                                simp only [List.all_cons, List.all_nil, Bool.and_true, Bool.true_and]
                                rw [hst]
                                simp_all
                                )
                          )
                    · first
                        | (exfalso; simp at hsp37 <;> omega)
                        | (
                          refine Z.yes (s := 37) (b := false) rfl hsp37 rfl ?_
                          (try simp at hsp37)
                          refine Z.yes (s := 34) (b := false) rfl rfl rfl ?_
                          refine Z.t 13 rfl rfl rfl (by rfl) (by kernel_rfl) ⟨_, hs, by first | (simp; done) | exact fun e he => List.mem_append_right _ he⟩ (Z.Yd.off (v := undef) 37 true rfl (by first | (simp; done) | (simp_all; done)) (by intro c h; cases h)) ?_
                          refine Z.t 14 rfl rfl rfl (by rfl) (by kernel_rfl) ⟨_, hs, by first | (simp; done) | exact fun e he => List.mem_append_right _ he⟩ (Z.Yd.off (v := undef) 37 true rfl (by first | (simp; done) | (simp_all; done)) (by intro c h; cases h)) ?_
                          refine Z.t 15 rfl rfl rfl (by rfl) (by kernel_rfl) ⟨_, hs, by first | (simp; done) | exact fun e he => List.mem_append_right _ he⟩ (Z.Yd.off (v := undef) 37 true rfl (by first | (simp; done) | (simp_all; done)) (by intro c h; cases h)) ?_
                          refine Z.t 16 rfl rfl rfl (by rfl) (by kernel_rfl) ⟨_, hs, by first | (simp; done) | exact fun e he => List.mem_append_right _ he⟩ (Z.Yd.off (v := undef) 37 true rfl (by first | (simp; done) | (simp_all; done)) (by intro c h; cases h)) ?_
                          refine Z.t 17 rfl rfl rfl (by rfl) (by kernel_rfl) ⟨_, hs, by first | (simp; done) | exact fun e he => List.mem_append_right _ he⟩ (Z.Yd.off (v := undef) 37 true rfl (by first | (simp; done) | (simp_all; done)) (by intro c h; cases h)) ?_
                          refine Z.t 18 rfl rfl rfl (by rfl) (by kernel_rfl) ⟨_, hs, by first | (simp; done) | exact fun e he => List.mem_append_right _ he⟩ (Z.Yd.off (v := undef) 37 true rfl (by first | (simp; done) | (simp_all; done)) (by intro c h; cases h)) ?_
                          refine Z.t 19 rfl rfl rfl (by rfl) (by kernel_rfl) ⟨_, hs, by first | (simp; done) | exact fun e he => List.mem_append_right _ he⟩ (Z.Yd.off (v := undef) 37 true rfl (by first | (simp; done) | (simp_all; done)) (by intro c h; cases h)) ?_
                          refine Z.t 20 rfl rfl rfl (by rfl) (by kernel_rfl) ⟨_, hs, by first | (simp; done) | exact fun e he => List.mem_append_right _ he⟩ (Z.Yd.off (v := undef) 37 true rfl (by first | (simp; done) | (simp_all; done)) (by intro c h; cases h)) ?_
                          refine Z.t 21 rfl rfl rfl (by rfl) (by kernel_rfl) ⟨_, hs, by first | (simp; done) | exact fun e he => List.mem_append_right _ he⟩ (Z.Yd.off (v := undef) 37 true rfl (by first | (simp; done) | (simp_all; done)) (by intro c h; cases h)) ?_
                          refine Z.t 22 rfl rfl rfl (by rfl) (by kernel_rfl) ⟨_, hs, by first | (simp; done) | exact fun e he => List.mem_append_right _ he⟩ (Z.Yd.off (v := undef) 37 true rfl (by first | (simp; done) | (simp_all; done)) (by intro c h; cases h)) ?_
                          refine Z.t 23 rfl rfl rfl (by rfl) (by kernel_rfl) ⟨_, hs, by first | (simp; done) | exact fun e he => List.mem_append_right _ he⟩ (Z.Yd.off (v := undef) 37 true rfl (by first | (simp; done) | (simp_all; done)) (by intro c h; cases h)) ?_
                          refine Z.t 24 rfl rfl rfl (by rfl) (by kernel_rfl) ⟨_, hs, by first | (simp; done) | exact fun e he => List.mem_append_right _ he⟩ (Z.Yd.off (v := undef) 37 true rfl (by first | (simp; done) | (simp_all; done)) (by intro c h; cases h)) ?_
                          refine Z.t 25 rfl rfl rfl (by rfl) (by kernel_rfl) ⟨_, hs, by first | (simp; done) | exact fun e he => List.mem_append_right _ he⟩ (Z.Yd.off (v := undef) 37 true rfl (by first | (simp; done) | (simp_all; done)) (by intro c h; cases h)) ?_
                          refine Z.yes (s := 34) (b := false) rfl rfl rfl ?_
                          refine Z.yes (s := 37) (b := false) rfl rfl rfl ?_
                          refine Z.tnS 37 true 26 rfl rfl (by kernel_rfl) rfl rfl (by simp) rfl (by rfl) (fun _ => ⟨_, hs, by first | (simp; done) | exact fun e he => List.mem_append_right _ he⟩) ?_
                          refine Z.t 27 rfl rfl rfl (by rfl) (by kernel_rfl) ⟨_, hs, by first | (simp; done) | exact fun e he => List.mem_append_right _ he⟩ (Z.Yd.off (v := undef) 37 true rfl (by first | (simp; done) | (simp_all; done)) (by intro c h; cases h)) ?_
                          refine Z.yes (s := 34) (b := false) rfl rfl rfl ?_
                          refine Z.yes (s := 37) (b := false) rfl rfl rfl ?_
                          refine Z.t 28 rfl rfl rfl (by rfl) (by kernel_rfl) ⟨_, hs, by first | (simp; done) | exact fun e he => List.mem_append_right _ he⟩ (Z.Yd.pickF rfl rfl) ?_
                          refine Z.yes (s := 34) (b := false) rfl rfl rfl ?_
                          refine Z.yes (s := 37) (b := false) rfl rfl rfl ?_
                          refine Z.t 29 rfl rfl rfl (by rfl) (by kernel_rfl) ⟨_, hs, by first | (simp; done) | exact fun e he => List.mem_append_right _ he⟩ (Z.Yd.pickF rfl rfl) ?_
                          refine Z.td (by rfl) (by kernel_rfl) ?_
                          refine Z.only [1, 3, 54] rfl ?_
                          refine Z.nthen ?_
                          refine Z.cond rfl (fun hc6 => ?_) (fun hc6 => ?_)
                          · first
                              | (exfalso; simp at hc6 <;> omega)
                              | (
                                (try simp at hc6)
                                refine Z.seq ?_
                                refine Z.region ?_
                                refine Z.lb 1 rfl ?_
                                refine Z.lnil ?_
                                refine Z.only [2] rfl ?_
                                refine Z.nthen ?_
                                refine Z.ret ?_
                                repeat (first | refine Z.rthen ?_ | refine Z.rblock ?_ | refine Z.rscope ?_)
                                -- ret#3
                                refine Z.out1 (by exact ⟨rfl, trivial⟩) ?_
                                refine ⟨_, rfl, ?_, hs.sub (List.nil_sublist _)⟩
                                congr 1
                                have hf : stepB ack l k = false := by rw [hst]; simp_all <;> omega
                                unfold vldB
                                rw [List.all_eq_false.2 ⟨k, List.mem_range.2 (by omega), by rw [hf]; simp⟩]
                                simp
                                )
                          · first
                              | (exfalso; simp at hc6 <;> omega)
                              | (
                                (try simp at hc6)
                                refine Z.skip ?_
                                refine Z.nblock ?_
                                refine Z.nthen ?_
                                refine Z.region ?_
                                refine Z.lb 1 rfl ?_
                                refine Z.l rfl rfl (by rfl) (Z.keepS hs) (Z.Yd.add rfl rfl (fun hG => Z.wi64 (by first | omega | (have hG' := Z.gh rfl hG; simp at hG'; omega)))) ?_
                                refine Z.lb 1 rfl ?_
                                refine Z.lnil ?_
                                refine Z.only [1, 3] rfl ?_
                                refine Z.nthen ?_
                                refine Z.again (k + 1) (by refine ⟨?_, ?_, trivial⟩ <;> (first | rfl | (refine Z.lookv rfl ?_; simp; done) | (refine Z.lookv rfl ?_; simp; omega))) ⟨⟨by omega, ?_⟩, hs⟩ (by omega)
                                rw [List.range_succ, List.all_append, hj]
                                simp only [List.all_cons, List.all_nil, Bool.and_true, Bool.true_and]
                                rw [hst]
                                simp_all
                                )
                          )
                    )
              )
        · first
            | (exfalso; simp at hc4 <;> omega)
            | (
              (try simp at hc4)
              refine Z.exit ?_
              refine Z.xthen ?_
              refine Z.xthen ?_
              refine Z.xblock ?_
              refine Z.nthen ?_
              refine Z.seq ?_
              refine Z.region ?_
              refine Z.lb 1 rfl ?_
              refine Z.lnil ?_
              refine Z.only [2] rfl ?_
              refine Z.nthen ?_
              refine Z.ret ?_
              -- ret#4
              refine Z.out1 (by exact ⟨rfl, trivial⟩) ?_
              refine ⟨_, rfl, ?_, hs.sub (List.nil_sublist _)⟩
              obtain rfl : k = n := by omega
              congr 1
              unfold vldB
              rw [hl, hj]
              simp
              omega
              )
        )
end Go.Proofs.Ytcieclifabbkjaa

/- Status reports: sizes; reports encoded. -/
namespace Go.Proofs.Ytcieclifabbkjaa
open Go.RowKit
set_option linter.unusedSimpArgs false
set_option linter.unusedVariables false
--newlaws

def nkSz (n : NkV) : Nat := if n.part = true then 42 else 12
def sizeN (l : List NkV) : Nat := 15 + (l.map nkSz).sum
theorem sizeN_snoc (l : List NkV) (x : NkV) : sizeN (l ++ [x]) = sizeN l + nkSz x := by simp [sizeN]; omega
theorem sizeN_le (l : List NkV) : sizeN l ≤ 15 + 42 * l.length := by
  induction l with
  | nil => simp [sizeN]
  | cons x l ih => unfold sizeN at *; simp only [List.map_cons, List.sum_cons, List.length_cons]; have : nkSz x ≤ 42 := by unfold nkSz; split <;> omega
                   omega
set_option maxRecDepth 100000 in
theorem size_any (A : Option Addr) (n c : Nat) (l : List NkV) (w : World) (hx : Sl w A (l.flatMap NkV.cells)) (hl : l.length = n) (hn : n ≤ 1000000) :
    Calls Try.prog 37 #[.slice A n c] w (SX.Ret fun v w' => v = .int .i64 (((sizeN l + 7) / 8 : Nat) : Int) ∧ SX.St w [] w' []) := by
  have hs := SX.St.start w
  refine Z.enter Try.func37 rfl Try.ntmps37 rfl rfl ?_
  refine Z.seq ?_
  refine Z.region ?_
  refine Z.lb 1 rfl ?_
  refine Z.lnil ?_
  refine Z.only [0] rfl ?_
  refine Z.nthen ?_
  refine Z.seq ?_
  refine Z.region ?_
  refine Z.lb 1 rfl ?_
  refine Z.lnil ?_
  refine Z.only [0, 3] rfl ?_
  refine Z.nthen ?_
  refine Z.seq ?_
  refine Z.seq ?_
  refine Z.region ?_
  refine Z.lb 1 rfl ?_
  refine Z.l rfl rfl (by rfl) (Z.keepS hs) (Z.Yd.lenS rfl Try.underlying22) ?_
  refine Z.lb 1 rfl ?_
  refine Z.lnil ?_
  refine Z.only [3, 6, 7, 8] rfl ?_
  refine Z.nthen ?_
  refine Z.block ?_
  refine Z.loopk (ι := Nat) [6, 7] rfl (fun k => [(3, [], .int .i64 (sizeN (l.take k) : Int)), (8, [], .int .i64 (k : Int))]) (fun k wr => k ≤ n ∧ SX.St w [] wr []) (fun k => n - k) 0 (by refine ⟨?_, ?_, trivial⟩ <;> (first | rfl | (refine Z.lookv rfl ?_; simp; done) | (refine Z.lookv rfl ?_; simp; omega))) ⟨by omega, hs⟩ ?_
  clear hs
  rintro k w1 ⟨hk, hs⟩
  refine Z.only [3, 6, 7, 8] rfl ?_
  refine Z.seq ?_
  refine Z.region ?_
  refine Z.lb 1 rfl ?_
  refine Z.lnil ?_
  refine Z.only [3, 6, 7, 8, 9] rfl ?_
  refine Z.nthen ?_
  refine Z.seq ?_
  refine Z.cond rfl (fun hc3 => ?_) (fun hc3 => ?_)
  · first
      | (exfalso; simp at hc3 <;> omega)
      | (
        (try simp at hc3)
        obtain ⟨b, off, rfl, hx2⟩ := hx.sx.some (by rw [Z.flat_length (s := 4) nk_len]; omega)
        obtain ⟨x, hxk⟩ : ∃ f, l[k]? = some f := ⟨_, List.getElem?_eq_getElem (by omega)⟩
        have hone := nk_one x
        have hle := sizeN_le (l.take k)
        have hlt : (l.take k).length ≤ k := by simp; omega
        have hsn : sizeN (l.take (k + 1)) = sizeN (l.take k) + nkSz x := by rw [← take_snoc hxk, sizeN_snoc]
        refine Z.skip ?_
        refine Z.nthen ?_
        refine Z.seq ?_
        refine Z.block ?_
        refine Z.seq ?_
        refine Z.region ?_
        refine Z.l rfl rfl (by rfl) (Z.keepS hs) (Z.Yd.elem rfl rfl Try.underlying22 Try.sizeOf45 (fun hG => ⟨(by first | omega | (have hG' := Z.gh rfl hG; simp at hG'; omega)), (by first | omega | (have hG' := Z.gh rfl hG; simp at hG'; omega))⟩)) ?_
        refine Z.l rfl rfl (by rfl) (Z.keepS hs) (Z.Yd.loadA _ rfl Try.isAgg45 (fun _ => Z.cellsX x.cells hx2 nk_len hxk rfl) (by exact Try.sizeOf45)) ?_
        refine Z.le rfl trivial ?_
        refine Z.ZO.alloc rfl rfl (by rfl) Try.zeroValue45 rfl hs ?_
        clear hs; intro g5 w5 hs
        refine Z.le rfl trivial ?_
        first | refine Z.ZO.storeA rfl rfl hs rfl rfl (by kernel_rfl) (by first | (simp [Value.oneCell']; done) | (refine Z.all_one ?_; assumption)) (by first | exact SX.at0 | exact SX.at1 | exact SX.at2 | exact SX.at3 | exact SX.at4 | exact SX.at5 | exact Z.at6 | exact Z.at7 | exact Z.at8 | exact Z.at9 | exact Z.at10 | exact Z.at11 | exact Z.at12) (by rfl) ?_ | refine Z.ZO.storeP rfl rfl hs rfl rfl (by kernel_rfl) (by first | (simp [Value.oneCell']; done) | (refine Z.all_one ?_; assumption)) (by first | exact SX.at0 | exact SX.at1 | exact SX.at2 | exact SX.at3 | exact SX.at4 | exact SX.at5 | exact Z.at6 | exact Z.at7 | exact Z.at8 | exact Z.at9 | exact Z.at10 | exact Z.at11 | exact Z.at12) (by first | decide | (simp; done) | (simp; omega)) ?_ | refine Z.ZO.storePR rfl rfl hs rfl rfl (by kernel_rfl) (by first | (simp [Value.oneCell']; done) | (refine Z.all_one ?_; assumption)) (by first | exact SX.at0 | exact SX.at1 | exact SX.at2 | exact SX.at3 | exact SX.at4 | exact SX.at5 | exact Z.at6 | exact Z.at7 | exact Z.at8 | exact Z.at9 | exact Z.at10 | exact Z.at11 | exact Z.at12) (by first | decide | (simp; done) | (simp; omega)) ?_
        clear hs; intro ws hs
        simp only [Nat.zero_add, Nat.add_zero, Nat.reduceAdd, Int.reduceToNat, Nat.reduceMul, List.set_cons_zero, List.set_cons_succ, List.setIfInBounds_toArray] at hs
        try simp only [Z.putL, Nat.zero_add] at hs
        refine Z.lnil ?_
        refine Z.only [3, 5, 6, 7, 8] rfl ?_
        refine Z.nthen ?_
        refine Z.seq ?_
        refine Z.region ?_
        refine Z.lb 1 rfl ?_
        refine Z.l rfl rfl (by rfl) (Z.keepS hs) (Z.Yd.add rfl rfl (fun hG => Z.wi64 (by first | omega | (have hG' := Z.gh rfl hG; simp at hG'; omega)))) ?_
        refine Z.lb 1 rfl ?_
        refine Z.lnil ?_
        refine Z.only [3, 5, 6, 7, 8] rfl ?_
        refine Z.nthen ?_
        refine Z.seq ?_
        refine Z.region ?_
        refine Z.l rfl rfl (by rfl) (Z.keepS hs) (Z.Yd.fieldA (m := 1) rfl (by kernel_rfl)) ?_
        refine Z.l rfl rfl (by rfl) (Z.keepS hs) (Z.Yd.load rfl Try.isAgg4 (fun _ => Z.cellB (cs := x.cells.toArray) (by first | ((repeat (first | exact List.mem_cons_self | refine List.mem_cons_of_mem _ ?_ | refine List.mem_append_right _ ?_)); done) | fail) rfl)) ?_
        refine Z.lnil ?_
        refine Z.only [3, 6, 7, 8, 15] rfl ?_
        refine Z.nthen ?_
        refine Z.cond rfl (fun hc6 => ?_) (fun hc6 => ?_)
        · first
            | (exfalso; simp at hc6 <;> omega)
            | (
              (try simp at hc6)
              refine Z.region ?_
              refine Z.lb 1 rfl ?_
              refine Z.l rfl rfl (by rfl) (Z.keepS hs) (Z.Yd.add rfl rfl (fun hG => Z.wi64 (by first | omega | (have hG' := Z.gh rfl hG; simp at hG'; omega)))) ?_
              refine Z.lb 1 rfl ?_
              refine Z.lnil ?_
              refine Z.only [3, 6, 7, 8] rfl ?_
              refine Z.nblock ?_
              refine Z.nthen ?_
              refine Z.region ?_
              refine Z.l rfl rfl (by rfl) (Z.keepS hs) (Z.Yd.add rfl rfl (fun hG => Z.wi64 (by first | omega | (have hG' := Z.gh rfl hG; simp at hG'; omega)))) ?_
              refine Z.lb 1 rfl ?_
              refine Z.lnil ?_
              refine Z.only [3, 6, 7, 8] rfl ?_
              refine Z.nthen ?_
              have e : nkSz x = if x.part = true then 42 else 12 := rfl
              first | rw [if_pos (by assumption)] at e | rw [if_neg (by simp_all)] at e
              rw [e] at hsn
              exact Z.again (k + 1) (by refine ⟨?_, ?_, ?_, ?_, trivial⟩ <;> (first | rfl | (refine Z.lookv rfl ?_; simp; done) | (refine Z.lookv rfl ?_; simp; omega))) ⟨by omega, hs.tl⟩ (by omega)
              )
        · first
            | (exfalso; simp at hc6 <;> omega)
            | (
              (try simp at hc6)
              refine Z.skip ?_
              refine Z.nblock ?_
              refine Z.nthen ?_
              refine Z.region ?_
              refine Z.l rfl rfl (by rfl) (Z.keepS hs) (Z.Yd.add rfl rfl (fun hG => Z.wi64 (by first | omega | (have hG' := Z.gh rfl hG; simp at hG'; omega)))) ?_
              refine Z.lb 1 rfl ?_
              refine Z.lnil ?_
              refine Z.only [3, 6, 7, 8] rfl ?_
              refine Z.nthen ?_
              have e : nkSz x = if x.part = true then 42 else 12 := rfl
              first | rw [if_pos (by assumption)] at e | rw [if_neg (by simp_all)] at e
              rw [e] at hsn
              exact Z.again (k + 1) (by refine ⟨?_, ?_, ?_, ?_, trivial⟩ <;> (first | rfl | (refine Z.lookv rfl ?_; simp; done) | (refine Z.lookv rfl ?_; simp; omega))) ⟨by omega, hs.tl⟩ (by omega)
              )
        )
  · first
      | (exfalso; simp at hc3 <;> omega)
      | (
        (try simp at hc3)
        refine Z.exit ?_
        refine Z.xthen ?_
        refine Z.xthen ?_
        refine Z.xblock ?_
        refine Z.nthen ?_
        refine Z.seq ?_
        refine Z.region ?_
        obtain rfl : k = n := by omega
        rw [List.take_of_length_le (by omega)]
        have hle := sizeN_le l
        refine Z.l rfl rfl (by rfl) (Z.keepS hs) (Z.Yd.pure rfl) ?_
        refine Z.l rfl rfl (by rfl) (Z.keepS hs) (Z.Yd.add rfl rfl (fun hG => Z.wi64 (by first | omega | (have hG' := Z.gh rfl hG; simp at hG'; omega)))) ?_
        refine Z.l rfl rfl (by rfl) (Z.keepS hs) (Z.Yd.quo rfl rfl (by intro hG; first | decide | omega) (by intro hG; first | exact Z.qi64 ⟨by omega, by omega⟩ (by omega) | exact rfl)) ?_
        refine Z.lb 1 rfl ?_
        refine Z.lnil ?_
        refine Z.only [2] rfl ?_
        refine Z.nthen ?_
        refine Z.ret ?_
        -- ret#0
        refine Z.out1 (by exact ⟨rfl, trivial⟩) ?_
        exact ⟨_, rfl, rfl, hs.sub (List.nil_sublist _)⟩
        )
theorem rsize34 (ack : Int) (A : Option Addr) (n c : Nat) (l : List NkV) (w : World) (hx : Sl w A (l.flatMap NkV.cells)) (hl : l.length = n) (hn : n ≤ 1000000) :
    Calls Try.prog 49 #[.agg #[.int .i64 ack, .slice A n c]] w (SX.Ret fun v w' => v = .int .i64 (((sizeN l + 7) / 8 : Nat) : Int) ∧ SX.St w [] w' []) := by
  have hs := SX.St.start w
  refine Z.enter Try.func49 rfl Try.ntmps49 rfl rfl ?_
  refine Z.seq ?_
  refine Z.region ?_
  refine Z.le rfl trivial ?_
  refine Z.ZO.box rfl rfl (by rfl) rfl rfl hs ?_
  clear hs; intro g1 w1 hs
  refine Z.lb 1 rfl ?_
  refine Z.lnil ?_
  refine Z.only [1] rfl ?_
  refine Z.nthen ?_
  refine Z.seq ?_
  refine Z.region ?_
  refine Z.lb 1 rfl ?_
  refine Z.lnil ?_
  refine Z.only [1, 3] rfl ?_
  refine Z.nthen ?_
  refine Z.seq ?_
  refine Z.seq ?_
  refine Z.region ?_
  refine Z.lb 1 rfl ?_
  refine Z.lnil ?_
  refine Z.only [1, 3, 4] rfl ?_
  refine Z.nthen ?_
  refine Z.block ?_
  refine Z.loopk (ι := Nat) [1] rfl (fun k => [(3, [], .int .i64 (sizeN (l.take k) : Int)), (4, [], .int .i64 (k : Int))]) (fun k wr => k ≤ n ∧ SX.St w [] wr [SX.Ent.blk g1 24 #[.int .i64 ack, .slice A n c]]) (fun k => n - k) 0 (by refine ⟨?_, ?_, trivial⟩ <;> (first | rfl | (refine Z.lookv rfl ?_; simp; done) | (refine Z.lookv rfl ?_; simp; omega))) ⟨by omega, hs⟩ ?_
  clear hs
  rintro k w1 ⟨hk, hs⟩
  refine Z.only [1, 3, 4] rfl ?_
  refine Z.seq ?_
  refine Z.seq ?_
  refine Z.region ?_
  refine Z.lb 1 rfl ?_
  refine Z.l rfl rfl (by rfl) (Z.keepS hs) (Z.Yd.fieldA (m := 1) rfl (by kernel_rfl)) ?_
  refine Z.l rfl rfl (by rfl) (Z.keepS hs) (by first | exact Z.Yd.load rfl Try.isAgg22 (fun _ => Z.cellB (by first | ((repeat (first | exact List.mem_cons_self | refine List.mem_cons_of_mem _ ?_ | refine List.mem_append_right _ ?_)); done) | fail) rfl) | exact Z.Yd.load rfl Try.isAgg22 (fun _ => Z.cellO (by assumption) (by simp) (by assumption)) | fail "load 3.2") ?_
  refine Z.l rfl rfl (by rfl) (Z.keepS hs) (Z.Yd.lenS rfl Try.underlying22) ?_
  refine Z.lb 1 rfl ?_
  refine Z.lnil ?_
  refine Z.only [1, 3, 4, 9] rfl ?_
  refine Z.nthen ?_
  refine Z.cond rfl (fun hc3 => ?_) (fun hc3 => ?_)
  · first
      | (exfalso; simp at hc3 <;> omega)
      | (
        (try simp at hc3)
        obtain ⟨b, off, rfl, hx2⟩ := hx.sx.some (by rw [Z.flat_length (s := 4) nk_len]; omega)
        obtain ⟨x, hxk⟩ : ∃ f, l[k]? = some f := ⟨_, List.getElem?_eq_getElem (by omega)⟩
        have hle := sizeN_le (l.take k)
        have hlt : (l.take k).length ≤ k := by simp; omega
        have hsn : sizeN (l.take (k + 1)) = sizeN (l.take k) + nkSz x := by rw [← take_snoc hxk, sizeN_snoc]
        refine Z.skip ?_
        refine Z.nthen ?_
        refine Z.seq ?_
        refine Z.block ?_
        refine Z.seq ?_
        refine Z.region ?_
        refine Z.lb 1 rfl ?_
        refine Z.l rfl rfl (by rfl) (Z.keepS hs) (Z.Yd.add rfl rfl (fun hG => Z.wi64 (by first | omega | (have hG' := Z.gh rfl hG; simp at hG'; omega)))) ?_
        refine Z.lb 1 rfl ?_
        refine Z.lnil ?_
        refine Z.only [1, 3, 4] rfl ?_
        refine Z.nthen ?_
        refine Z.seq ?_
        refine Z.region ?_
        refine Z.l rfl rfl (by rfl) (Z.keepS hs) (Z.Yd.fieldA (m := 1) rfl (by kernel_rfl)) ?_
        refine Z.l rfl rfl (by rfl) (Z.keepS hs) (by first | exact Z.Yd.load rfl Try.isAgg22 (fun _ => Z.cellB (by first | ((repeat (first | exact List.mem_cons_self | refine List.mem_cons_of_mem _ ?_ | refine List.mem_append_right _ ?_)); done) | fail) rfl) | exact Z.Yd.load rfl Try.isAgg22 (fun _ => Z.cellO (by assumption) (by simp) (by assumption)) | fail "load 6.1") ?_
        refine Z.lb 1 rfl ?_
        refine Z.l rfl rfl (by rfl) (Z.keepS hs) (Z.Yd.elem rfl rfl Try.underlying22 Try.sizeOf45 (fun hG => ⟨(by first | omega | (have hG' := Z.gh rfl hG; simp at hG'; omega)), (by first | omega | (have hG' := Z.gh rfl hG; simp at hG'; omega))⟩)) ?_
        refine Z.l rfl rfl (by rfl) (Z.keepS hs) (Z.Yd.fieldA (m := 1) rfl (by kernel_rfl)) ?_
        refine Z.l rfl rfl (by rfl) (Z.keepS hs) (Z.Yd.load rfl Try.isAgg4 (fun _ => Z.cellXf hx2 nk_len hxk rfl)) ?_
        refine Z.lnil ?_
        refine Z.only [1, 3, 4, 19] rfl ?_
        refine Z.nthen ?_
        refine Z.cond rfl (fun hc6 => ?_) (fun hc6 => ?_)
        · first
            | (exfalso; simp at hc6 <;> omega)
            | (
              (try simp at hc6)
              refine Z.region ?_
              refine Z.lb 1 rfl ?_
              refine Z.l rfl rfl (by rfl) (Z.keepS hs) (Z.Yd.add rfl rfl (fun hG => Z.wi64 (by first | omega | (have hG' := Z.gh rfl hG; simp at hG'; omega)))) ?_
              refine Z.lb 1 rfl ?_
              refine Z.lnil ?_
              refine Z.only [1, 3, 4] rfl ?_
              refine Z.nblock ?_
              refine Z.nthen ?_
              refine Z.region ?_
              refine Z.lb 1 rfl ?_
              refine Z.l rfl rfl (by rfl) (Z.keepS hs) (Z.Yd.add rfl rfl (fun hG => Z.wi64 (by first | omega | (have hG' := Z.gh rfl hG; simp at hG'; omega)))) ?_
              refine Z.lb 1 rfl ?_
              refine Z.lnil ?_
              refine Z.only [1, 3, 4] rfl ?_
              refine Z.nthen ?_
              have e : nkSz x = if x.part = true then 42 else 12 := rfl
              first | rw [if_pos (by assumption)] at e | rw [if_neg (by simp_all)] at e
              rw [e] at hsn
              exact Z.again (k + 1) (by refine ⟨?_, ?_, ?_, trivial⟩ <;> (first | rfl | (refine Z.lookv rfl ?_; simp; done) | (refine Z.lookv rfl ?_; simp; omega))) ⟨by omega, hs⟩ (by omega)
              )
        · first
            | (exfalso; simp at hc6 <;> omega)
            | (
              (try simp at hc6)
              refine Z.skip ?_
              refine Z.nblock ?_
              refine Z.nthen ?_
              refine Z.region ?_
              refine Z.lb 1 rfl ?_
              refine Z.l rfl rfl (by rfl) (Z.keepS hs) (Z.Yd.add rfl rfl (fun hG => Z.wi64 (by first | omega | (have hG' := Z.gh rfl hG; simp at hG'; omega)))) ?_
              refine Z.lb 1 rfl ?_
              refine Z.lnil ?_
              refine Z.only [1, 3, 4] rfl ?_
              refine Z.nthen ?_
              have e : nkSz x = if x.part = true then 42 else 12 := rfl
              first | rw [if_pos (by assumption)] at e | rw [if_neg (by simp_all)] at e
              rw [e] at hsn
              exact Z.again (k + 1) (by refine ⟨?_, ?_, ?_, trivial⟩ <;> (first | rfl | (refine Z.lookv rfl ?_; simp; done) | (refine Z.lookv rfl ?_; simp; omega))) ⟨by omega, hs⟩ (by omega)
              )
        )
  · first
      | (exfalso; simp at hc3 <;> omega)
      | (
        (try simp at hc3)
        refine Z.exit ?_
        refine Z.xthen ?_
        refine Z.xthen ?_
        refine Z.xblock ?_
        refine Z.nthen ?_
        refine Z.seq ?_
        refine Z.region ?_
        obtain rfl : k = n := by omega
        rw [List.take_of_length_le (by omega)]
        have hle := sizeN_le l
        refine Z.l rfl rfl (by rfl) (Z.keepS hs) (Z.Yd.pure rfl) ?_
        refine Z.l rfl rfl (by rfl) (Z.keepS hs) (Z.Yd.add rfl rfl (fun hG => Z.wi64 (by first | omega | (have hG' := Z.gh rfl hG; simp at hG'; omega)))) ?_
        refine Z.l rfl rfl (by rfl) (Z.keepS hs) (Z.Yd.quo rfl rfl (by intro hG; first | decide | omega) (by intro hG; first | exact Z.qi64 ⟨by omega, by omega⟩ (by omega) | exact rfl)) ?_
        refine Z.lb 1 rfl ?_
        refine Z.lnil ?_
        refine Z.only [2] rfl ?_
        refine Z.nthen ?_
        refine Z.ret ?_
        -- ret#0
        refine Z.out1 (by exact ⟨rfl, trivial⟩) ?_
        exact ⟨_, rfl, rfl, hs.sub (List.nil_sublist _)⟩
        )
theorem vldB_len {ack : Int} {l : List NkV} (h : vldB ack l = true) : (0 ≤ ack ∧ ack ≤ 1023) ∧ l.length ≤ 512 ∧ ∀ k < l.length, stepB ack l k = true := by
  unfold vldB at h
  simp only [Bool.and_eq_true, decide_eq_true_eq] at h
  exact ⟨h.1, h.2.1, fun k hk => List.all_eq_true.1 h.2.2 k (List.mem_range.2 hk)⟩
theorem vldB_alone {ack : Int} {l : List NkV} (h : vldB ack l = true) {k : Nat} {n : NkV} (hn : l[k]? = some n) : alone ack n :=
  stepB_alone hn ((vldB_len h).2.2 k (List.getElem?_eq_some_iff.1 hn).1)
def sizeV (ack : Int) (l : List NkV) : Int := if vldB ack l = true then (((sizeN l + 7) / 8 : Nat) : Int) else 0
theorem Size_any (ack : Int) (A : Option Addr) (n c : Nat) (l : List NkV) (w : World) (hx : Sl w A (l.flatMap NkV.cells)) (hl : l.length = n) (hn : n ≤ 9223372036854775807) :
    Calls Try.prog 16 #[.agg #[.int .i64 ack, .slice A n c]] w (SX.Ret fun v w' => v = .int .i64 (sizeV ack l) ∧ SX.St w [] w' []) := by
  have hs := SX.St.start w
  by_cases hv : vldB ack l = true
  · have h512 := (vldB_len hv).2.1
    have e : sizeV ack l = (((sizeN l + 7) / 8 : Nat) : Int) := if_pos hv
    rw [e]
    refine Z.enter Try.func16 rfl Try.ntmps16 rfl rfl ?_
    refine Z.seq ?_
    refine Z.region ?_
    refine Z.le rfl trivial ?_
    refine Z.ZO.box rfl rfl (by rfl) rfl rfl hs ?_
    clear hs; intro g1 w1 hs
    refine Z.lb 1 rfl ?_
    refine Z.lnil ?_
    refine Z.only [1] rfl ?_
    refine Z.nthen ?_
    refine Z.seq ?_
    refine Z.seq ?_
    refine Z.region ?_
    refine Z.l rfl rfl (by rfl) (Z.keepS hs) (by first | exact Z.Yd.loadA _ rfl Try.isAgg24 (fun _ => Z.cellsB (by first | ((repeat (first | exact List.mem_cons_self | refine List.mem_cons_of_mem _ ?_ | refine List.mem_append_right _ ?_)); done) | fail)) (by exact Try.sizeOf24) | fail "load 1.0") ?_
    refine Z.le rfl trivial ?_
    refine Z.ZO.call rfl rfl (by rfl) rfl rfl Try.call14 rfl (svalid_any ack A n c l _ (hx.st (hs.sub (List.nil_sublist _))) hl hn) ?_
    rintro v1_1 w1_1 ⟨rfl, hy⟩
    replace hs := hs.call hy
    clear hy
    try simp only [List.cons_append, List.nil_append, List.append_nil] at hs
    refine Z.lb 1 rfl ?_
    refine Z.lnil ?_
    refine Z.only [1, 5] rfl ?_
    refine Z.nthen ?_
    refine Z.cond rfl (fun h => absurd h (by simp [hv])) (fun hc1 => ?_)
    refine Z.skip ?_
    refine Z.nthen ?_
    refine Z.seq ?_
    refine Z.region ?_
    refine Z.l rfl rfl (by rfl) (Z.keepS hs) (Z.Yd.fieldA (m := 1) rfl (by kernel_rfl)) ?_
    refine Z.l rfl rfl (by rfl) (Z.keepS hs) (by first | exact Z.Yd.load rfl Try.isAgg22 (fun _ => Z.cellB (by first | ((repeat (first | exact List.mem_cons_self | refine List.mem_cons_of_mem _ ?_ | refine List.mem_append_right _ ?_)); done) | fail) rfl) | exact Z.Yd.load rfl Try.isAgg22 (fun _ => Z.cellO (by assumption) (by simp) (by assumption)) | fail "load 3.1") ?_
    refine Z.le rfl trivial ?_
    refine Z.ZO.call rfl rfl (by rfl) rfl rfl Try.call37 rfl (size_any A n c l _ (hx.st (hs.sub (List.nil_sublist _))) hl (by omega)) ?_
    rintro v3_2 w3_2 ⟨rfl, hy⟩
    replace hs := hs.call hy
    clear hy
    try simp only [List.cons_append, List.nil_append, List.append_nil] at hs
    refine Z.lb 1 rfl ?_
    refine Z.lnil ?_
    refine Z.only [2] rfl ?_
    refine Z.nthen ?_
    refine Z.ret ?_
    -- ret#0
    refine Z.out1 (by exact ⟨rfl, trivial⟩) ?_
    first | exact ⟨_, rfl, rfl, hs⟩ | exact ⟨_, rfl, rfl, hs.sub (List.nil_sublist _)⟩
  · have e : sizeV ack l = 0 := if_neg hv
    rw [e]
    refine Z.enter Try.func16 rfl Try.ntmps16 rfl rfl ?_
    refine Z.seq ?_
    refine Z.region ?_
    refine Z.le rfl trivial ?_
    refine Z.ZO.box rfl rfl (by rfl) rfl rfl hs ?_
    clear hs; intro g1 w1 hs
    refine Z.lb 1 rfl ?_
    refine Z.lnil ?_
    refine Z.only [1] rfl ?_
    refine Z.nthen ?_
    refine Z.seq ?_
    refine Z.seq ?_
    refine Z.region ?_
    refine Z.l rfl rfl (by rfl) (Z.keepS hs) (by first | exact Z.Yd.loadA _ rfl Try.isAgg24 (fun _ => Z.cellsB (by first | ((repeat (first | exact List.mem_cons_self | refine List.mem_cons_of_mem _ ?_ | refine List.mem_append_right _ ?_)); done) | fail)) (by exact Try.sizeOf24) | fail "load 1.0") ?_
    refine Z.le rfl trivial ?_
    refine Z.ZO.call rfl rfl (by rfl) rfl rfl Try.call14 rfl (svalid_any ack A n c l _ (hx.st (hs.sub (List.nil_sublist _))) hl hn) ?_
    rintro v1_1 w1_1 ⟨rfl, hy⟩
    replace hs := hs.call hy
    clear hy
    try simp only [List.cons_append, List.nil_append, List.append_nil] at hs
    refine Z.lb 1 rfl ?_
    refine Z.lnil ?_
    refine Z.only [1, 5] rfl ?_
    refine Z.nthen ?_
    refine Z.cond rfl (fun hc1 => ?_) (fun h => absurd h (by simp [hv]))
    refine Z.seq ?_
    refine Z.region ?_
    refine Z.lb 1 rfl ?_
    refine Z.lnil ?_
    refine Z.only [2] rfl ?_
    refine Z.nthen ?_
    refine Z.ret ?_
    repeat (first | refine Z.rthen ?_ | refine Z.rblock ?_ | refine Z.rscope ?_)
    -- ret#0
    refine Z.out1 (by exact ⟨rfl, trivial⟩) ?_
    first | exact ⟨_, rfl, rfl, hs⟩ | exact ⟨_, rfl, rfl, hs.sub (List.nil_sublist _)⟩
def b2 (b : Bool) : Int := if b = true then 1 else 0
theorem one_any (b : Bool) (w : World) : Calls Try.prog 28 #[.bool b] w (SX.Ret fun v w' => v = .int .u64 (b2 b) ∧ SX.St w [] w' []) := by
  have hs := SX.St.start w
  cases b
  · skip
    refine Z.enter Try.func28 rfl Try.ntmps28 rfl rfl ?_
    refine Z.seq ?_
    refine Z.region ?_
    refine Z.lb 1 rfl ?_
    refine Z.lnil ?_
    refine Z.only [0] rfl ?_
    refine Z.nthen ?_
    refine Z.seq ?_
    refine Z.seq ?_
    refine Z.region ?_
    refine Z.lb 1 rfl ?_
    refine Z.lnil ?_
    refine Z.only [3] rfl ?_
    refine Z.nthen ?_
    refine Z.cond rfl (fun h => absurd h (by simp)) (fun hc1 => ?_)
    refine Z.skip ?_
    refine Z.nthen ?_
    refine Z.seq ?_
    refine Z.region ?_
    refine Z.lb 1 rfl ?_
    refine Z.lnil ?_
    refine Z.only [2] rfl ?_
    refine Z.nthen ?_
    refine Z.ret ?_
    -- ret#0
    refine Z.out1 (by exact ⟨rfl, trivial⟩) ?_
    first | exact ⟨_, rfl, rfl, hs⟩ | exact ⟨_, rfl, rfl, hs.sub (List.nil_sublist _)⟩
  · skip
    refine Z.enter Try.func28 rfl Try.ntmps28 rfl rfl ?_
    refine Z.seq ?_
    refine Z.region ?_
    refine Z.lb 1 rfl ?_
    refine Z.lnil ?_
    refine Z.only [0] rfl ?_
    refine Z.nthen ?_
    refine Z.seq ?_
    refine Z.seq ?_
    refine Z.region ?_
    refine Z.lb 1 rfl ?_
    refine Z.lnil ?_
    refine Z.only [3] rfl ?_
    refine Z.nthen ?_
    refine Z.cond rfl (fun hc1 => ?_) (fun h => absurd h (by simp))
    refine Z.seq ?_
    refine Z.region ?_
    refine Z.lb 1 rfl ?_
    refine Z.lnil ?_
    refine Z.only [2] rfl ?_
    refine Z.nthen ?_
    refine Z.ret ?_
    repeat (first | refine Z.rthen ?_ | refine Z.rblock ?_ | refine Z.rscope ?_)
    -- ret#0
    refine Z.out1 (by exact ⟨rfl, trivial⟩) ?_
    first | exact ⟨_, rfl, rfl, hs⟩ | exact ⟨_, rfl, rfl, hs.sub (List.nil_sublist _)⟩
theorem bit_any (b : Bool) (w : World) : Calls Try.prog 31 #[.bool b] w (SX.Ret fun v w' => v = .int .u64 (b2 b) ∧ SX.St w [] w' []) := by
  have hs := SX.St.start w
  cases b
  · skip
    refine Z.enter Try.func31 rfl Try.ntmps31 rfl rfl ?_
    refine Z.seq ?_
    refine Z.region ?_
    refine Z.lb 1 rfl ?_
    refine Z.lnil ?_
    refine Z.only [0] rfl ?_
    refine Z.nthen ?_
    refine Z.seq ?_
    refine Z.seq ?_
    refine Z.region ?_
    refine Z.lb 1 rfl ?_
    refine Z.lnil ?_
    refine Z.only [3] rfl ?_
    refine Z.nthen ?_
    refine Z.cond rfl (fun h => absurd h (by simp)) (fun hc1 => ?_)
    refine Z.skip ?_
    refine Z.nthen ?_
    refine Z.seq ?_
    refine Z.region ?_
    refine Z.lb 1 rfl ?_
    refine Z.lnil ?_
    refine Z.only [2] rfl ?_
    refine Z.nthen ?_
    refine Z.ret ?_
    -- ret#0
    refine Z.out1 (by exact ⟨rfl, trivial⟩) ?_
    first | exact ⟨_, rfl, rfl, hs⟩ | exact ⟨_, rfl, rfl, hs.sub (List.nil_sublist _)⟩
  · skip
    refine Z.enter Try.func31 rfl Try.ntmps31 rfl rfl ?_
    refine Z.seq ?_
    refine Z.region ?_
    refine Z.lb 1 rfl ?_
    refine Z.lnil ?_
    refine Z.only [0] rfl ?_
    refine Z.nthen ?_
    refine Z.seq ?_
    refine Z.seq ?_
    refine Z.region ?_
    refine Z.lb 1 rfl ?_
    refine Z.lnil ?_
    refine Z.only [3] rfl ?_
    refine Z.nthen ?_
    refine Z.cond rfl (fun hc1 => ?_) (fun h => absurd h (by simp))
    refine Z.seq ?_
    refine Z.region ?_
    refine Z.lb 1 rfl ?_
    refine Z.lnil ?_
    refine Z.only [2] rfl ?_
    refine Z.nthen ?_
    refine Z.ret ?_
    repeat (first | refine Z.rthen ?_ | refine Z.rblock ?_ | refine Z.rscope ?_)
    -- ret#0
    refine Z.out1 (by exact ⟨rfl, trivial⟩) ?_
    first | exact ⟨_, rfl, rfl, hs⟩ | exact ⟨_, rfl, rfl, hs.sub (List.nil_sublist _)⟩
/-- the fields of a report -/
def hdF (ack : Int) (more : Bool) : List (Int × Int) := [(0, 4), (ack, 10), (b2 more, 1)]
def nkF (more : Bool) (n : NkV) : List (Int × Int) := [(n.sn, 10), (b2 more, 1), (b2 n.part, 1)]
def ptF (n : NkV) : List (Int × Int) := [(n.lo, 15), (n.hi, 15)]
def entB (more : Bool) (n : NkV) : List Bool := (nkF more n).flatMap fldF ++ (if n.part = true then (ptF n).flatMap fldF else [])
def entsB : List NkV → List Bool
  | [] => []
  | n :: r => entB (!r.isEmpty) n ++ entsB r
def encS (ack : Int) (l : List NkV) : List Bool := (hdF ack (!l.isEmpty)).flatMap fldF ++ entsB l
theorem okF16 {v wd : Int} (hv : 0 ≤ v) (hw : 0 ≤ wd ∧ wd ≤ 16) (h : v < 2 ^ wd.toNat) : GoodF (v, wd) ∧ chkF (v, wd) = 0 := by
  obtain ⟨n, rfl⟩ := Int.eq_ofNat_of_zero_le hv
  have h1 : n < 2 ^ wd.toNat := by
    have : ((2 : Int) ^ wd.toNat) = ((2 ^ wd.toNat : Nat) : Int) := by rw [Int.natCast_pow]; rfl
    omega
  have h2 : 2 ^ wd.toNat ≤ 2 ^ 16 := Nat.pow_le_pow_right (by decide) (by omega)
  have h3 : (2 : Nat) ^ 16 = 65536 := by decide
  refine ⟨by unfold GoodF; simp only; omega, ?_⟩
  unfold chkF quoF
  rw [if_neg (by simp only; omega), if_pos (by simpa using Nat.div_eq_of_lt h1)]
theorem b2_lt (b : Bool) : 0 ≤ b2 b ∧ b2 b < 2 := by cases b <;> decide
def okFs (fs : List (Int × Int)) : Prop := (∀ f ∈ fs, GoodF f) ∧ chkA fs = 0
theorem okFs_of {fs : List (Int × Int)} (h : ∀ f ∈ fs, GoodF f ∧ chkF f = 0) : okFs fs := by
  refine ⟨fun f hf => (h f hf).1, ?_⟩
  induction fs with
  | nil => rfl
  | cons f fs ih =>
    rw [chkA, if_pos (h f (by simp)).2]
    exact ih fun g hg => h g (by simp [hg])
theorem hdF_ok {ack : Int} (more : Bool) (h : 0 ≤ ack ∧ ack ≤ 1023) : okFs (hdF ack more) := okFs_of fun f hf => by
  simp [hdF] at hf
  rcases hf with rfl | rfl | rfl
  · exact okF16 (by omega) (by omega) (by decide)
  · exact okF16 (by omega) (by omega) (by show ack < 1024; omega)
  · exact okF16 (b2_lt more).1 (by omega) (by show b2 more < 2; exact (b2_lt more).2)
theorem nkF_ok {ack : Int} {n : NkV} (more : Bool) (h : alone ack n) : okFs (nkF more n) := okFs_of fun f hf => by
  have h1 := h.1
  simp [nkF] at hf
  rcases hf with rfl | rfl | rfl
  · exact okF16 (by omega) (by omega) (by show n.sn < 1024; omega)
  · exact okF16 (b2_lt more).1 (by omega) (by show b2 more < 2; exact (b2_lt more).2)
  · exact okF16 (b2_lt _).1 (by omega) (by show b2 n.part < 2; exact (b2_lt _).2)
theorem ptF_ok {ack : Int} {n : NkV} (h : alone ack n) : okFs (ptF n) := okFs_of fun f hf => by
  have h1 : 0 ≤ n.lo ∧ n.lo ≤ n.hi ∧ n.hi ≤ 32767 := by
    have := h.2.2
    split at this <;> omega
  simp [ptF] at hf
  rcases hf with rfl | rfl
  · exact okF16 (by omega) (by omega) (by show n.lo < 32768; omega)
  · exact okF16 (by omega) (by omega) (by show n.hi < 32768; omega)
theorem resA_ok {bs : List Bool} {fs : List (Int × Int)} (h : okFs fs) : resA bs fs = bs ++ fs.flatMap fldF := if_pos h.2
theorem entB_len (more : Bool) (n : NkV) : (entB more n).length = nkSz n := by
  unfold entB nkSz
  cases n.part <;> simp [nkF, ptF, fldF, fld_length]
theorem entsB_len (l : List NkV) : (entsB l).length = (l.map nkSz).sum := by
  induction l with
  | nil => rfl
  | cons x l ih => simp [entsB, entB_len, ih]
theorem encS_len (ack : Int) (l : List NkV) : (encS ack l).length = sizeN l := by
  unfold encS sizeN
  rw [List.length_append, entsB_len]
  simp [hdF, fldF, fld_length]
end Go.Proofs.Ytcieclifabbkjaa

/- Status reports encoded. -/
namespace Go.Proofs.Ytcieclifabbkjaa
open Go.RowKit
set_option linter.unusedSimpArgs false
set_option linter.unusedVariables false
--newlaws

def encE (ack : Int) (l : List NkV) : Int := if vldB ack l = true then 0 else 2
def encL (ack : Int) (l : List NkV) : List Int := if vldB ack l = true then pk (encS ack l) else []
/-- what an encoder returns: bytes and an error -/
def Enc (e : Int) (l : List Int) (v : Value) (w w' : World) : Prop := ∃ B c co, v = .tuple #[.slice B l.length c, .int .i64 e] ∧ SX.St w [] w' [SX.Ent.row (.slice B l.length co) 5 1 l.length (ints .u8 l)]
theorem drop_at {α : Type} {l : List α} {k : Nat} {x : α} (h : l[k]? = some x) : l.drop k = x :: l.drop (k + 1) := by
  obtain ⟨hk, hx⟩ := List.getElem?_eq_some_iff.1 h
  rw [← hx]
  exact List.drop_eq_getElem_cons hk
theorem empty_iff {α : Type} {l : List α} {k : Nat} : (!(l.drop k).isEmpty) = decide (k < l.length) := by
  rw [Bool.eq_iff_iff]
  simp [List.isEmpty_iff]
theorem wm64 {n : Int} (h : 0 ≤ n ∧ n < 18446744073709551616) : IntKind.u64.wrap n = n := by
  simp only [IntKind.wrap, IntKind.signed, IntKind.bits]
  simp
  omega
set_option maxRecDepth 100000 in
theorem encode_any (ack : Int) (A : Option Addr) (n c : Nat) (l : List NkV) (w : World) (hx : Sl w A (l.flatMap NkV.cells)) (hl : l.length = n) (hn : n ≤ 9223372036854775807) :
    Calls Try.prog 10 #[.agg #[.int .i64 ack, .slice A n c]] w (SX.Ret fun v w' => Enc (encE ack l) (encL ack l) v w w') := by
  have hs := SX.St.start w
  by_cases hv : vldB ack l = true
  · have e1 : encE ack l = 0 := if_pos hv
    have e2 : encL ack l = pk (encS ack l) := if_pos hv
    rw [e1, e2]
    obtain ⟨hack, h512, hst⟩ := vldB_len hv
    have hlen := encS_len ack l
    have hsz := sizeN_le l
    have hmo : (!l.isEmpty) = decide (0 < (n : Int)) := by
      have := empty_iff (l := l) (k := 0)
      rw [List.drop_zero] at this
      rw [this, hl, decide_eq_decide]
      omega
    have hE : encS ack l = (hdF ack (decide (0 < (n : Int)))).flatMap fldF ++ entsB l := by rw [← hmo]; rfl
    refine Z.enter Try.func10 rfl Try.ntmps10 rfl rfl ?_
    refine Z.seq ?_
    refine Z.region ?_
    refine Z.le rfl trivial ?_
    refine Z.ZO.box rfl rfl (by rfl) rfl rfl hs ?_
    clear hs; intro g1 w1 hs
    refine Z.lb 2 rfl ?_
    refine Z.lnil ?_
    refine Z.only [1] rfl ?_
    refine Z.nthen ?_
    refine Z.seq ?_
    refine Z.seq ?_
    refine Z.region ?_
    refine Z.l rfl rfl (by rfl) (Z.keepS hs) (by first | exact Z.Yd.loadA _ rfl Try.isAgg24 (fun _ => Z.cellsB (by first | ((repeat (first | exact List.mem_cons_self | refine List.mem_cons_of_mem _ ?_ | refine List.mem_append_right _ ?_)); done) | fail)) (by exact Try.sizeOf24) | fail "load 1.0") ?_
    refine Z.le rfl trivial ?_
    refine Z.ZO.call rfl rfl (by rfl) rfl rfl Try.call14 rfl (svalid_any ack A n c l _ (hx.st (hs.sub (List.nil_sublist _))) hl hn) ?_
    rintro v1_1 w1_1 ⟨rfl, hy⟩
    replace hs := hs.call hy
    clear hy
    try simp only [List.cons_append, List.nil_append, List.append_nil] at hs
    refine Z.lb 1 rfl ?_
    refine Z.lnil ?_
    refine Z.only [1, 9] rfl ?_
    refine Z.nthen ?_
    refine Z.cond rfl (fun h => absurd h (by simp [hv])) (fun hc1 => ?_)
    refine Z.skip ?_
    refine Z.nthen ?_
    refine Z.seq ?_
    refine Z.region ?_
    refine Z.le rfl trivial ?_
    refine Z.ZO.alloc rfl rfl (by rfl) Try.zeroValue60 rfl hs ?_
    clear hs; intro g4 w4 hs
    refine Z.lnil ?_
    refine Z.only [1, 4] rfl ?_
    replace hs := WrL_start hs
    refine Z.nthen ?_
    refine Z.seq ?_
    refine Z.drawL [SX.Ent.blk g1 24 #[.int .i64 ack, .slice A n c]] (fun j => j != 12) mixed hs ?_
    clear hs; intro wd4 hs
    refine Z.tX 0 [0, 11, 12] rfl rfl rfl (by rfl) (by kernel_rfl) ⟨_, hs, by first | (simp; done) | exact fun e he => List.mem_append_right _ he⟩ (Z.Yd.buildL [(0, 1), (1, 1)] [.int .u64 0, .int .i64 0] rfl rfl (by intro w; kernel_rfl)) ?_
    refine Z.tX 1 [1, 2, 3, 4, 11, 12] rfl rfl rfl (by rfl) (by kernel_rfl) ⟨_, hs, by first | (simp; done) | exact fun e he => List.mem_append_right _ he⟩ (Z.Yd.fieldA (m := 0) rfl (by kernel_rfl)) ?_
    refine Z.tX 2 [2, 3, 4, 11, 12] rfl rfl rfl (by rfl) (by kernel_rfl) ⟨_, hs, by first | (simp; done) | exact fun e he => List.mem_append_right _ he⟩ (by first | exact Z.Yd.load rfl Try.isAgg3 (fun _ => Z.cellB (by first | ((repeat (first | exact List.mem_cons_self | refine List.mem_cons_of_mem _ ?_ | refine List.mem_append_right _ ?_)); done) | fail) rfl) | exact Z.Yd.load rfl Try.isAgg3 (fun _ => Z.cellO (by assumption) (by simp) (by assumption)) | fail "load 4.2") ?_
    refine Z.tX 3 [3, 4, 11, 12] rfl rfl rfl (by rfl) (by kernel_rfl) ⟨_, hs, by first | (simp; done) | exact fun e he => List.mem_append_right _ he⟩ (Z.Yd.convI rfl ⟨_, Try.underlying3⟩ Try.underlying62 (fun hG => Z.wu64 (by first | omega | (have hG' := Z.gh rfl hG; simp at hG'; omega)))) ?_
    refine Z.tX 4 [4, 11, 12] rfl rfl rfl (by rfl) (by kernel_rfl) ⟨_, hs, by first | (simp; done) | exact fun e he => List.mem_append_right _ he⟩ (Z.Yd.buildL [(0, 1), (1, 1)] [.int .u64 0, .int .i64 0] rfl rfl (by intro w; kernel_rfl)) ?_
    refine Z.tn 5 rfl rfl (by kernel_rfl) rfl trivial ?_
    refine Z.ZO.quiet rfl (by rfl) (Z.keepS hs) (Z.Yd.fieldA (m := 1) rfl (by kernel_rfl)) ?_
    refine Z.tk (Dn := fun j => j != 12) (i := 5) (fun _ => ⟨_, hs, by first | (simp; done) | exact fun e he => List.mem_append_right _ he⟩) ?_
    refine Z.tn 6 rfl rfl (by kernel_rfl) rfl trivial ?_
    refine Z.ZO.quiet rfl (by rfl) (Z.keepS hs) (by first | exact Z.Yd.load rfl Try.isAgg22 (fun _ => Z.cellB (by first | ((repeat (first | exact List.mem_cons_self | refine List.mem_cons_of_mem _ ?_ | refine List.mem_append_right _ ?_)); done) | fail) rfl) | exact Z.Yd.load rfl Try.isAgg22 (fun _ => Z.cellO (by assumption) (by simp) (by assumption)) | fail "load 4.6") ?_
    refine Z.tk (Dn := fun j => j != 12) (i := 6) (fun _ => ⟨_, hs, by first | (simp; done) | exact fun e he => List.mem_append_right _ he⟩) ?_
    refine Z.tn 7 rfl rfl (by kernel_rfl) rfl trivial ?_
    refine Z.ZO.quiet rfl (by rfl) (Z.keepS hs) (Z.Yd.lenS rfl Try.underlying22) ?_
    refine Z.tk (Dn := fun j => j != 12) (i := 7) (fun _ => ⟨_, hs, by first | (simp; done) | exact fun e he => List.mem_append_right _ he⟩) ?_
    refine Z.tn 8 rfl rfl (by kernel_rfl) rfl trivial ?_
    refine Z.ZO.quiet rfl (by rfl) (Z.keepS hs) (Z.Yd.pure rfl) ?_
    refine Z.tk (Dn := fun j => j != 12) (i := 8) (fun _ => ⟨_, hs, by first | (simp; done) | exact fun e he => List.mem_append_right _ he⟩) ?_
    refine Z.tn 9 rfl rfl (by kernel_rfl) rfl trivial ?_
    refine Z.ZO.call rfl rfl (by rfl) rfl rfl Try.call28 rfl (one_any _ _) ?_
    rintro v4_9 w4_9 ⟨rfl, hy⟩
    replace hs := hs.call hy
    clear hy
    try simp only [List.cons_append, List.nil_append, List.append_nil] at hs
    refine Z.tk (Dn := fun j => j != 12) (i := 9) (fun _ => ⟨_, hs, by first | (simp; done) | exact fun e he => List.mem_append_right _ he⟩) ?_
    refine Z.tn 10 rfl rfl (by kernel_rfl) rfl trivial ?_
    refine Z.ZO.quiet rfl (by rfl) (Z.keepS hs) (Z.Yd.buildL [(0, 1), (1, 1)] [.int .u64 0, .int .i64 0] rfl rfl (by intro w; kernel_rfl)) ?_
    refine Z.tk (Dn := fun j => j != 12) (i := 10) (fun _ => ⟨_, hs, by first | (simp; done) | exact fun e he => List.mem_append_right _ he⟩) ?_
    refine Z.tn 11 rfl rfl (by kernel_rfl) rfl trivial ?_
    refine Z.ZO.litL (T' := 64) [(0, 2), (2, 2), (4, 2)] [.int .u64 0, .int .i64 0, .int .u64 0, .int .i64 0, .int .u64 0, .int .i64 0] rfl rfl (by rfl) rfl rfl (by intro W; kernel_rfl) hs ?_
    clear hs; intro g21 w21 hs
    refine Z.tk (Dn := fun j => j != 12) (i := 11) (fun _ => ⟨_, hs, by first | (simp; done) | exact fun e he => List.mem_append_right _ he⟩) ?_
    replace hs : SX.St w [] _ (WrL g4 60 (.slice none 0 0) [] ++ [_, _]) := hs.sel [1, 2, 0, 3] (by decide)
    refine Z.tn 12 rfl rfl (by kernel_rfl) rfl trivial ?_
    refine Z.ZO.call rfl rfl (by rfl) rfl rfl Try.call27 rfl (putAll_any g4 _ _ [] _ _ _ (hdF ack (decide (0 < (n : Int)))) _ hs.lend (by have h0 := Z.blk_lentj hs (j := 0) rfl; exact h0) rfl (by decide) (by decide) (hdF_ok _ hack).1) ?_
    rintro v4_12 w4_12 ⟨sv1, rfl, hz⟩
    replace hs := hs.regain hz
    rw [resA_ok (hdF_ok _ hack), List.nil_append] at hs
    refine Z.tk (Dn := fun j => j != 12) (i := 12) (fun h => absurd h (by decide)) ?_
    refine Z.td (by rfl) (by kernel_rfl) ?_
    refine Z.only [1, 4] rfl ?_
    replace hs : SX.St w [] _ (WrL g4 60 sv1 _ ++ [SX.Ent.blk g1 24 #[.int .i64 ack, .slice A n c]]) := hs.sel [0, 1, 3] (by decide)
    refine Z.nthen ?_
    refine Z.seq ?_
    refine Z.seq ?_
    refine Z.region ?_
    refine Z.l rfl rfl (by rfl) (Z.keepS hs) (Z.Yd.fieldA (m := 1) rfl (by kernel_rfl)) ?_
    refine Z.l rfl rfl (by rfl) (Z.keepS hs) (by first | exact Z.Yd.load rfl Try.isAgg22 (fun _ => Z.cellB (by first | ((repeat (first | exact List.mem_cons_self | refine List.mem_cons_of_mem _ ?_ | refine List.mem_append_right _ ?_)); done) | fail) rfl) | exact Z.Yd.load rfl Try.isAgg22 (fun _ => Z.cellO (by assumption) (by simp) (by assumption)) | fail "load 5.1") ?_
    refine Z.l rfl rfl (by rfl) (Z.keepS hs) (Z.Yd.lenS rfl Try.underlying22) ?_
    refine Z.lb 1 rfl ?_
    refine Z.lnil ?_
    refine Z.only [1, 4, 24, 25, 26] rfl ?_
    refine Z.nthen ?_
    refine Z.block ?_
    refine Z.loopk (ι := Nat × Value × List Bool) [1, 4, 24, 25] rfl (fun k => [(26, [], .int .i64 (k.1 : Int))]) (fun k wr => (k.1 ≤ n ∧ k.2.2 ++ entsB (l.drop k.1) = encS ack l) ∧ SX.St w [] wr (WrL g4 60 k.2.1 k.2.2 ++ [SX.Ent.blk g1 24 #[.int .i64 ack, .slice A n c]])) (fun k => n - k.1) (0, sv1, _) (by refine ⟨?_, trivial⟩ <;> (first | rfl | (refine Z.lookv rfl ?_; simp; done) | (refine Z.lookv rfl ?_; simp; omega))) ⟨⟨Nat.zero_le _, hE.symm⟩, hs⟩ ?_
    clear hs
    rintro ⟨k, sv, bs⟩ w2 ⟨⟨hk, hbs⟩, hs⟩
    refine Z.only [1, 4, 24, 25, 26] rfl ?_
    (try dsimp only at hs)
    dsimp only at hk hbs
    refine Z.seq ?_
    refine Z.region ?_
    refine Z.lb 1 rfl ?_
    refine Z.lnil ?_
    refine Z.only [1, 4, 24, 25, 26, 27] rfl ?_
    refine Z.nthen ?_
    refine Z.seq ?_
    refine Z.cond rfl (fun hc6 => ?_) (fun hc6 => ?_)
    · first
        | (exfalso; simp at hc6 <;> omega)
        | (
          (try simp at hc6)
          obtain ⟨b, off, rfl, hx2⟩ := hx.sx.some (by rw [Z.flat_length (s := 4) nk_len]; omega)
          obtain ⟨x, hxk⟩ : ∃ f, l[k]? = some f := ⟨_, List.getElem?_eq_getElem (by omega)⟩
          have hone := nk_one x
          have hal := vldB_alone hv hxk
          have hal1 := hal.1
          have hal2 : 0 ≤ x.lo ∧ x.lo ≤ 32767 ∧ 0 ≤ x.hi ∧ x.hi ≤ 32767 := by have := hal.2.2; split at this <;> omega
          have hd := drop_at hxk
          rw [hd, entsB, empty_iff] at hbs
          have hbl : bs.length + nkSz x ≤ 1000000 := by
            have := congrArg List.length hbs
            simp only [List.length_append, entB_len] at this
            omega
          have hnl : (nkF (decide (k + 1 < l.length)) x).flatMap fldF = (nkF (decide (k + 1 < l.length)) x).flatMap fldF := rfl
          have hm2 : decide (k + 1 < l.length) = decide ((k : Int) + 1 < (n : Int)) := by rw [decide_eq_decide]; omega
          rw [hm2] at hbs
          have hn8 := nkF_ok (decide ((k : Int) + 1 < (n : Int))) hal
          have hn10 := ptF_ok hal
          have hb8 : (bs ++ (nkF (decide ((k : Int) + 1 < (n : Int))) x).flatMap fldF).length ≤ 1000000 := by
            rw [List.length_append]
            have : ((nkF (decide ((k : Int) + 1 < (n : Int))) x).flatMap fldF).length = 12 := by simp [nkF, fldF, fld_length]
            have : 12 ≤ nkSz x := by unfold nkSz; split <;> omega
            omega
          refine Z.skip ?_
          refine Z.nthen ?_
          refine Z.seq ?_
          refine Z.block ?_
          refine Z.seq ?_
          refine Z.region ?_
          refine Z.lb 1 rfl ?_
          refine Z.l rfl rfl (by rfl) (Z.keepS hs) (Z.Yd.elem rfl rfl Try.underlying22 Try.sizeOf45 (fun hG => ⟨(by first | omega | (have hG' := Z.gh rfl hG; simp at hG'; omega)), (by first | omega | (have hG' := Z.gh rfl hG; simp at hG'; omega))⟩)) ?_
          refine Z.l rfl rfl (by rfl) (Z.keepS hs) (Z.Yd.loadA _ rfl Try.isAgg45 (fun _ => Z.cellsX x.cells hx2 nk_len hxk rfl) (by exact Try.sizeOf45)) ?_
          refine Z.le rfl trivial ?_
          refine Z.ZO.alloc rfl rfl (by rfl) Try.zeroValue45 rfl hs ?_
          clear hs; intro g6 w6 hs
          refine Z.lb 1 rfl ?_
          refine Z.le rfl trivial ?_
          first | refine Z.ZO.storeA rfl rfl hs rfl rfl (by kernel_rfl) (by first | (simp [Value.oneCell']; done) | (refine Z.all_one ?_; assumption)) (by first | exact SX.at0 | exact SX.at1 | exact SX.at2 | exact SX.at3 | exact SX.at4 | exact SX.at5 | exact Z.at6 | exact Z.at7 | exact Z.at8 | exact Z.at9 | exact Z.at10 | exact Z.at11 | exact Z.at12) (by rfl) ?_ | refine Z.ZO.storeP rfl rfl hs rfl rfl (by kernel_rfl) (by first | (simp [Value.oneCell']; done) | (refine Z.all_one ?_; assumption)) (by first | exact SX.at0 | exact SX.at1 | exact SX.at2 | exact SX.at3 | exact SX.at4 | exact SX.at5 | exact Z.at6 | exact Z.at7 | exact Z.at8 | exact Z.at9 | exact Z.at10 | exact Z.at11 | exact Z.at12) (by first | decide | (simp; done) | (simp; omega)) ?_ | refine Z.ZO.storePR rfl rfl hs rfl rfl (by kernel_rfl) (by first | (simp [Value.oneCell']; done) | (refine Z.all_one ?_; assumption)) (by first | exact SX.at0 | exact SX.at1 | exact SX.at2 | exact SX.at3 | exact SX.at4 | exact SX.at5 | exact Z.at6 | exact Z.at7 | exact Z.at8 | exact Z.at9 | exact Z.at10 | exact Z.at11 | exact Z.at12) (by first | decide | (simp; done) | (simp; omega)) ?_
          clear hs; intro ws hs
          simp only [Nat.zero_add, Nat.add_zero, Nat.reduceAdd, Int.reduceToNat, Nat.reduceMul, List.set_cons_zero, List.set_cons_succ, List.setIfInBounds_toArray] at hs
          try simp only [Z.putL, Nat.zero_add] at hs
          refine Z.lnil ?_
          refine Z.only [1, 4, 5, 6, 24, 25, 26] rfl ?_
          refine Z.nthen ?_
          refine Z.seq ?_
          refine Z.drawL [SX.Ent.blk g1 24 #[.int .i64 ack, .slice (some ⟨b, off, none⟩) n c], SX.Ent.blk g6 45 x.cells.toArray] (fun j => j != 17) mixed hs ?_
          clear hs; intro wd8 hs
          refine Z.tX 0 [0, 1, 2, 3, 16, 17] rfl rfl rfl (by rfl) (by kernel_rfl) ⟨_, hs, by first | (simp; done) | exact fun e he => List.mem_append_right _ he⟩ (Z.Yd.fieldA (m := 0) rfl (by kernel_rfl)) ?_
          refine Z.tX 1 [1, 2, 3, 16, 17] rfl rfl rfl (by rfl) (by kernel_rfl) ⟨_, hs, by first | (simp; done) | exact fun e he => List.mem_append_right _ he⟩ (Z.Yd.load rfl Try.isAgg3 (fun _ => Z.cellB (cs := x.cells.toArray) (by first | ((repeat (first | exact List.mem_cons_self | refine List.mem_cons_of_mem _ ?_ | refine List.mem_append_right _ ?_)); done) | fail) rfl)) ?_
          refine Z.tX 2 [2, 3, 16, 17] rfl rfl rfl (by rfl) (by kernel_rfl) ⟨_, hs, by first | (simp; done) | exact fun e he => List.mem_append_right _ he⟩ (Z.Yd.convI rfl ⟨_, Try.underlying3⟩ Try.underlying62 (fun hG => Z.wu64 (by first | omega | (have hG' := Z.gh rfl hG; simp at hG'; omega)))) ?_
          refine Z.tX 3 [3, 16, 17] rfl rfl rfl (by rfl) (by kernel_rfl) ⟨_, hs, by first | (simp; done) | exact fun e he => List.mem_append_right _ he⟩ (Z.Yd.buildL [(0, 1), (1, 1)] [.int .u64 0, .int .i64 0] rfl rfl (by intro w; kernel_rfl)) ?_
          refine Z.tX 4 [4, 5, 9, 10, 11, 14, 15, 16, 17] rfl rfl rfl (by rfl) (by kernel_rfl) ⟨_, hs, by first | (simp; done) | exact fun e he => List.mem_append_right _ he⟩ (Z.Yd.pure rfl) ?_
          refine Z.tX 5 [5, 9, 10, 11, 14, 15, 16, 17] rfl rfl rfl (by rfl) (by kernel_rfl) ⟨_, hs, by first | (simp; done) | exact fun e he => List.mem_append_right _ he⟩ (Z.Yd.add rfl rfl (fun hG => Z.wi64 (by first | omega | (have hG' := Z.gh rfl hG; simp at hG'; omega)))) ?_
          refine Z.tX 6 [6, 7, 8, 9, 10, 11, 14, 15, 16, 17] rfl rfl rfl (by rfl) (by kernel_rfl) ⟨_, hs, by first | (simp; done) | exact fun e he => List.mem_append_right _ he⟩ (Z.Yd.fieldA (m := 1) rfl (by kernel_rfl)) ?_
          refine Z.tX 7 [7, 8, 9, 10, 11, 14, 15, 16, 17] rfl rfl rfl (by rfl) (by kernel_rfl) ⟨_, hs, by first | (simp; done) | exact fun e he => List.mem_append_right _ he⟩ (by first | exact Z.Yd.load rfl Try.isAgg22 (fun _ => Z.cellB (by first | ((repeat (first | exact List.mem_cons_self | refine List.mem_cons_of_mem _ ?_ | refine List.mem_append_right _ ?_)); done) | fail) rfl) | exact Z.Yd.load rfl Try.isAgg22 (fun _ => Z.cellO (by assumption) (by simp) (by assumption)) | fail "load 8.7") ?_
          refine Z.tX 8 [8, 9, 10, 11, 14, 15, 16, 17] rfl rfl rfl (by rfl) (by kernel_rfl) ⟨_, hs, by first | (simp; done) | exact fun e he => List.mem_append_right _ he⟩ (Z.Yd.lenS rfl Try.underlying22) ?_
          refine Z.tX 9 [9, 10, 11, 14, 15, 16, 17] rfl rfl rfl (by rfl) (by kernel_rfl) ⟨_, hs, by first | (simp; done) | exact fun e he => List.mem_append_right _ he⟩ (Z.Yd.pure rfl) ?_
          refine Z.tX 12 [12, 13, 14, 15, 16, 17] rfl rfl rfl (by rfl) (by kernel_rfl) ⟨_, hs, by first | (simp; done) | exact fun e he => List.mem_append_right _ he⟩ (Z.Yd.fieldA (m := 1) rfl (by kernel_rfl)) ?_
          refine Z.tX 13 [13, 14, 15, 16, 17] rfl rfl rfl (by rfl) (by kernel_rfl) ⟨_, hs, by first | (simp; done) | exact fun e he => List.mem_append_right _ he⟩ (Z.Yd.load rfl Try.isAgg4 (fun _ => Z.cellB (cs := x.cells.toArray) (by first | ((repeat (first | exact List.mem_cons_self | refine List.mem_cons_of_mem _ ?_ | refine List.mem_append_right _ ?_)); done) | fail) rfl)) ?_
          refine Z.tn 10 rfl rfl (by kernel_rfl) rfl trivial ?_
          refine Z.ZO.call rfl rfl (by rfl) rfl rfl Try.call28 rfl (one_any _ _) ?_
          rintro v8_10 w8_10 ⟨rfl, hy⟩
          replace hs := hs.call hy
          clear hy
          try simp only [List.cons_append, List.nil_append, List.append_nil] at hs
          refine Z.tk (Dn := fun j => j != 17) (i := 10) (fun _ => ⟨_, hs, by first | (simp; done) | exact fun e he => List.mem_append_right _ he⟩) ?_
          refine Z.tX 11 [11, 16, 17] rfl rfl rfl (by rfl) (by kernel_rfl) ⟨_, hs, by first | (simp; done) | exact fun e he => List.mem_append_right _ he⟩ (Z.Yd.buildL [(0, 1), (1, 1)] [.int .u64 0, .int .i64 0] rfl rfl (by intro w; kernel_rfl)) ?_
          refine Z.tn 14 rfl rfl (by kernel_rfl) rfl trivial ?_
          refine Z.ZO.call rfl rfl (by rfl) rfl rfl Try.call28 rfl (one_any _ _) ?_
          rintro v8_14 w8_14 ⟨rfl, hy⟩
          replace hs := hs.call hy
          clear hy
          try simp only [List.cons_append, List.nil_append, List.append_nil] at hs
          refine Z.tk (Dn := fun j => j != 17) (i := 14) (fun _ => ⟨_, hs, by first | (simp; done) | exact fun e he => List.mem_append_right _ he⟩) ?_
          refine Z.tn 15 rfl rfl (by kernel_rfl) rfl trivial ?_
          refine Z.ZO.quiet rfl (by rfl) (Z.keepS hs) (Z.Yd.buildL [(0, 1), (1, 1)] [.int .u64 0, .int .i64 0] rfl rfl (by intro w; kernel_rfl)) ?_
          refine Z.tk (Dn := fun j => j != 17) (i := 15) (fun _ => ⟨_, hs, by first | (simp; done) | exact fun e he => List.mem_append_right _ he⟩) ?_
          refine Z.tn 16 rfl rfl (by kernel_rfl) rfl trivial ?_
          refine Z.ZO.litL (T' := 64) [(0, 2), (2, 2), (4, 2)] [.int .u64 0, .int .i64 0, .int .u64 0, .int .i64 0, .int .u64 0, .int .i64 0] rfl rfl (by rfl) rfl rfl (by intro W; kernel_rfl) hs ?_
          clear hs; intro g47 w47 hs
          refine Z.tk (Dn := fun j => j != 17) (i := 16) (fun _ => ⟨_, hs, by first | (simp; done) | exact fun e he => List.mem_append_right _ he⟩) ?_
          replace hs : SX.St w [] _ (WrL g4 60 sv bs ++ [_, _, _]) := hs.sel [2, 3, 0, 1, 4] (by decide)
          refine Z.tn 17 rfl rfl (by kernel_rfl) rfl trivial ?_
          refine Z.ZO.call rfl rfl (by rfl) rfl rfl Try.call27 rfl (putAll_any g4 _ sv bs _ _ _ (nkF (decide ((k : Int) + 1 < (n : Int))) x) _ hs.lend (by have h0 := Z.blk_lentj hs (j := 0) rfl; exact h0) rfl (by decide) (by omega) hn8.1) ?_
          rintro v8_17 w8_17 ⟨sv1, rfl, hz⟩
          replace hs := hs.regain hz
          rw [resA_ok hn8] at hs
          simp only [WrL, List.cons_append, List.nil_append] at hs
          refine Z.tk (Dn := fun j => j != 17) (i := 17) (fun h => absurd h (by decide)) ?_
          refine Z.td (by rfl) (by kernel_rfl) ?_
          refine Z.only [1, 4, 6, 24, 25, 26] rfl ?_
          refine Z.nthen ?_
          refine Z.seq ?_
          refine Z.region ?_
          refine Z.l rfl rfl (by rfl) (Z.keepS hs) (Z.Yd.fieldA (m := 1) rfl (by kernel_rfl)) ?_
          refine Z.l rfl rfl (by rfl) (Z.keepS hs) (Z.Yd.load rfl Try.isAgg4 (fun _ => Z.cellB (cs := x.cells.toArray) (by first | ((repeat (first | exact List.mem_cons_self | refine List.mem_cons_of_mem _ ?_ | refine List.mem_append_right _ ?_)); done) | fail) rfl)) ?_
          refine Z.lnil ?_
          refine Z.only [1, 4, 6, 24, 25, 26, 50] rfl ?_
          refine Z.nthen ?_
          refine Z.cond rfl (fun hc9 => ?_) (fun hc9 => ?_)
          · first
              | (exfalso; simp at hc9 <;> omega)
              | (
                (try simp at hc9)
                refine Z.region ?_
                refine Z.l rfl rfl (by rfl) (Z.keepS hs) (Z.Yd.fieldA (m := 2) rfl (by kernel_rfl)) ?_
                refine Z.l rfl rfl (by rfl) (Z.keepS hs) (Z.Yd.load rfl Try.isAgg3 (fun _ => Z.cellB (cs := x.cells.toArray) (by first | ((repeat (first | exact List.mem_cons_self | refine List.mem_cons_of_mem _ ?_ | refine List.mem_append_right _ ?_)); done) | fail) rfl)) ?_
                refine Z.l rfl rfl (by rfl) (Z.keepS hs) (Z.Yd.convI rfl ⟨_, Try.underlying3⟩ Try.underlying62 (fun hG => Z.wu64 (by first | omega | (have hG' := Z.gh rfl hG; simp at hG'; omega)))) ?_
                refine Z.l rfl rfl (by rfl) (Z.keepS hs) (Z.Yd.buildL [(0, 1), (1, 1)] [.int .u64 0, .int .i64 0] rfl rfl (by intro w; kernel_rfl)) ?_
                refine Z.l rfl rfl (by rfl) (Z.keepS hs) (Z.Yd.fieldA (m := 3) rfl (by kernel_rfl)) ?_
                refine Z.l rfl rfl (by rfl) (Z.keepS hs) (Z.Yd.load rfl Try.isAgg3 (fun _ => Z.cellB (cs := x.cells.toArray) (by first | ((repeat (first | exact List.mem_cons_self | refine List.mem_cons_of_mem _ ?_ | refine List.mem_append_right _ ?_)); done) | fail) rfl)) ?_
                refine Z.l rfl rfl (by rfl) (Z.keepS hs) (Z.Yd.convI rfl ⟨_, Try.underlying3⟩ Try.underlying62 (fun hG => Z.wu64 (by first | omega | (have hG' := Z.gh rfl hG; simp at hG'; omega)))) ?_
                refine Z.l rfl rfl (by rfl) (Z.keepS hs) (Z.Yd.buildL [(0, 1), (1, 1)] [.int .u64 0, .int .i64 0] rfl rfl (by intro w; kernel_rfl)) ?_
                refine Z.le rfl trivial ?_
                refine Z.ZO.litL (T' := 64) [(0, 2), (2, 2)] [.int .u64 0, .int .i64 0, .int .u64 0, .int .i64 0] rfl rfl (by rfl) rfl rfl (by intro W; kernel_rfl) hs ?_
                clear hs; intro g59 w59 hs
                replace hs : SX.St w [] _ (WrL g4 60 sv1 _ ++ [_, _, _, _]) := hs.sel [1, 2, 0, 3, 4, 5] (by decide)
                refine Z.le rfl trivial ?_
                refine Z.ZO.call rfl rfl (by rfl) rfl rfl Try.call27 rfl (putAll_any g4 _ sv1 _ _ _ _ (ptF x) _ hs.lend (by have h0 := Z.blk_lentj hs (j := 0) rfl; exact h0) rfl (by decide) hb8 hn10.1) ?_
                rintro v10_9 w10_9 ⟨sv2, rfl, hz⟩
                replace hs := hs.regain hz
                rw [resA_ok hn10] at hs
                refine Z.lnil ?_
                refine Z.only [1, 4, 24, 25, 26] rfl ?_
                refine Z.nblock ?_
                refine Z.nthen ?_
                refine Z.region ?_
                refine Z.l rfl rfl (by rfl) (Z.keepS hs) (Z.Yd.add rfl rfl (fun hG => Z.wi64 (by first | omega | (have hG' := Z.gh rfl hG; simp at hG'; omega)))) ?_
                refine Z.lb 1 rfl ?_
                refine Z.lnil ?_
                refine Z.only [1, 4, 24, 25, 26] rfl ?_
                refine Z.nthen ?_
                first
                | (refine Z.again (k + 1, sv2, _) (by refine ⟨?_, ?_, ?_, ?_, ?_, trivial⟩ <;> (first | rfl | (refine Z.lookv rfl ?_; simp; done) | (refine Z.lookv rfl ?_; simp; omega))) ⟨⟨by simp only; omega, ?_⟩, hs.sel [0, 1, 5] (by decide)⟩ (by simp only; omega)
                   rw [← hbs]
                   have hp : x.part = true := by assumption
                   simp [entB, hp])
                | (refine Z.again (k + 1, sv1, _) (by refine ⟨?_, ?_, ?_, ?_, ?_, trivial⟩ <;> (first | rfl | (refine Z.lookv rfl ?_; simp; done) | (refine Z.lookv rfl ?_; simp; omega))) ⟨⟨by simp only; omega, ?_⟩, hs.sel [0, 1, 4] (by decide)⟩ (by simp only; omega)
                   rw [← hbs]
                   simp_all [entB])
                )
          · first
              | (exfalso; simp at hc9 <;> omega)
              | (
                (try simp at hc9)
                refine Z.skip ?_
                refine Z.nblock ?_
                refine Z.nthen ?_
                refine Z.region ?_
                refine Z.l rfl rfl (by rfl) (Z.keepS hs) (Z.Yd.add rfl rfl (fun hG => Z.wi64 (by first | omega | (have hG' := Z.gh rfl hG; simp at hG'; omega)))) ?_
                refine Z.lb 1 rfl ?_
                refine Z.lnil ?_
                refine Z.only [1, 4, 24, 25, 26] rfl ?_
                refine Z.nthen ?_
                first
                | (refine Z.again (k + 1, sv2, _) (by refine ⟨?_, ?_, ?_, ?_, ?_, trivial⟩ <;> (first | rfl | (refine Z.lookv rfl ?_; simp; done) | (refine Z.lookv rfl ?_; simp; omega))) ⟨⟨by simp only; omega, ?_⟩, hs.sel [0, 1, 5] (by decide)⟩ (by simp only; omega)
                   rw [← hbs]
                   have hp : x.part = true := by assumption
                   simp [entB, hp])
                | (refine Z.again (k + 1, sv1, _) (by refine ⟨?_, ?_, ?_, ?_, ?_, trivial⟩ <;> (first | rfl | (refine Z.lookv rfl ?_; simp; done) | (refine Z.lookv rfl ?_; simp; omega))) ⟨⟨by simp only; omega, ?_⟩, hs.sel [0, 1, 4] (by decide)⟩ (by simp only; omega)
                   rw [← hbs]
                   simp_all [entB])
                )
          )
    · first
        | (exfalso; simp at hc6 <;> omega)
        | (
          (try simp at hc6)
          refine Z.exit ?_
          refine Z.xthen ?_
          refine Z.xthen ?_
          refine Z.xblock ?_
          refine Z.nthen ?_
          refine Z.seq ?_
          refine Z.region ?_
          obtain rfl : k = n := by omega
          rw [List.drop_of_length_le (by omega)] at hbs
          simp only [entsB, List.append_nil] at hbs
          rw [hbs] at hs
          refine Z.le rfl trivial ?_
          refine Z.ZO.call rfl rfl (by rfl) rfl rfl Try.call29 rfl (wbytes_any g4 _ _ _ _ hs.lend (by omega)) ?_
          rintro v12_0 w12_0 hz
          replace hs := hs.regain hz
          obtain ⟨B, co, rfl, hco, -, -⟩ := SX.row_slv hs (j := 0) rfl
          refine Z.lb 2 rfl ?_
          refine Z.lnil ?_
          refine Z.only [2, 3] rfl ?_
          refine Z.nthen ?_
          refine Z.ret ?_
          -- ret#0
          refine Z.out2 (by exact ⟨rfl, rfl, trivial⟩) ?_
          exact ⟨_, rfl, B, co, co, rfl, hs.sel [0] (by decide)⟩
          )
  · have e1 : encE ack l = 2 := if_neg hv
    have e2 : encL ack l = [] := if_neg hv
    rw [e1, e2]
    refine Z.enter Try.func10 rfl Try.ntmps10 rfl rfl ?_
    refine Z.seq ?_
    refine Z.region ?_
    refine Z.le rfl trivial ?_
    refine Z.ZO.box rfl rfl (by rfl) rfl rfl hs ?_
    clear hs; intro g1 w1 hs
    refine Z.lb 2 rfl ?_
    refine Z.lnil ?_
    refine Z.only [1] rfl ?_
    refine Z.nthen ?_
    refine Z.seq ?_
    refine Z.seq ?_
    refine Z.region ?_
    refine Z.l rfl rfl (by rfl) (Z.keepS hs) (by first | exact Z.Yd.loadA _ rfl Try.isAgg24 (fun _ => Z.cellsB (by first | ((repeat (first | exact List.mem_cons_self | refine List.mem_cons_of_mem _ ?_ | refine List.mem_append_right _ ?_)); done) | fail)) (by exact Try.sizeOf24) | fail "load 1.0") ?_
    refine Z.le rfl trivial ?_
    refine Z.ZO.call rfl rfl (by rfl) rfl rfl Try.call14 rfl (svalid_any ack A n c l _ (hx.st (hs.sub (List.nil_sublist _))) hl hn) ?_
    rintro v1_1 w1_1 ⟨rfl, hy⟩
    replace hs := hs.call hy
    clear hy
    try simp only [List.cons_append, List.nil_append, List.append_nil] at hs
    refine Z.lb 1 rfl ?_
    refine Z.lnil ?_
    refine Z.only [1, 9] rfl ?_
    refine Z.nthen ?_
    refine Z.cond rfl (fun hc1 => ?_) (fun h => absurd h (by simp [hv]))
    refine Z.seq ?_
    refine Z.region ?_
    refine Z.lb 2 rfl ?_
    refine Z.lnil ?_
    refine Z.only [2, 3] rfl ?_
    refine Z.nthen ?_
    refine Z.ret ?_
    repeat (first | refine Z.rthen ?_ | refine Z.rblock ?_ | refine Z.rscope ?_)
    -- ret#0
    refine Z.out2 (by exact ⟨rfl, rfl, trivial⟩) ?_
    exact ⟨_, rfl, none, 0, 0, rfl, (hs.sub (List.nil_sublist _)).nil _ 1⟩
end Go.Proofs.Ytcieclifabbkjaa

/- Status reports: the document's encoding. -/
namespace Go.Proofs.Ytcieclifabbkjaa
open Go.RowKit
set_option linter.unusedSimpArgs false
set_option linter.unusedVariables false
--newlaws

set_option maxRecDepth 100000 in
theorem rencode_any (ack : Int) (A : Option Addr) (n c : Nat) (l : List NkV) (w : World) (hx : Sl w A (l.flatMap NkV.cells)) (hl : l.length = n) (hn : n ≤ 9223372036854775807) :
    Calls Try.prog 11 #[.agg #[.int .i64 ack, .slice A n c]] w (SX.Ret fun v w' => Enc (encE ack l) (encL ack l) v w w') := by
  have hs := SX.St.start w
  by_cases hv : vldB ack l = true
  · have e1 : encE ack l = 0 := if_pos hv
    have e2 : encL ack l = pk (encS ack l) := if_pos hv
    rw [e1, e2]
    obtain ⟨hack, h512, hst⟩ := vldB_len hv
    have hlen := encS_len ack l
    have hsz := sizeN_le l
    have hmo : (!l.isEmpty) = decide (0 < (n : Int)) := by
      have := empty_iff (l := l) (k := 0)
      rw [List.drop_zero] at this
      rw [this, hl, decide_eq_decide]
      omega
    have hE : encS ack l = (hdF ack (decide (0 < (n : Int)))).flatMap fldF ++ entsB l := by rw [← hmo]; rfl
    refine Z.enter Try.func11 rfl Try.ntmps11 rfl rfl ?_
    refine Z.seq ?_
    refine Z.region ?_
    refine Z.le rfl trivial ?_
    refine Z.ZO.box rfl rfl (by rfl) rfl rfl hs ?_
    clear hs; intro g1 w1 hs
    refine Z.lb 2 rfl ?_
    refine Z.lnil ?_
    refine Z.only [1] rfl ?_
    refine Z.nthen ?_
    refine Z.seq ?_
    refine Z.seq ?_
    refine Z.region ?_
    refine Z.l rfl rfl (by rfl) (Z.keepS hs) (by first | exact Z.Yd.loadA _ rfl Try.isAgg24 (fun _ => Z.cellsB (by first | ((repeat (first | exact List.mem_cons_self | refine List.mem_cons_of_mem _ ?_ | refine List.mem_append_right _ ?_)); done) | fail)) (by exact Try.sizeOf24) | fail "load 1.0") ?_
    refine Z.le rfl trivial ?_
    refine Z.ZO.call rfl rfl (by rfl) rfl rfl Try.call15 rfl (rsvalid_any ack A n c l _ (hx.st (hs.sub (List.nil_sublist _))) hl hn) ?_
    rintro v1_1 w1_1 ⟨rfl, hy⟩
    replace hs := hs.call hy
    clear hy
    try simp only [List.cons_append, List.nil_append, List.append_nil] at hs
    refine Z.lb 1 rfl ?_
    refine Z.lnil ?_
    refine Z.only [1, 10] rfl ?_
    refine Z.nthen ?_
    refine Z.cond rfl (fun h => absurd h (by simp [hv])) (fun hc1 => ?_)
    refine Z.skip ?_
    refine Z.nthen ?_
    refine Z.seq ?_
    refine Z.drawL [SX.Ent.blk g1 24 #[.int .i64 ack, .slice A n c]] (fun _ => true) mixed hs ?_
    clear hs; intro wd3 hs
    refine Z.t 0 rfl rfl rfl (by rfl) (by kernel_rfl) ⟨_, hs, by first | (simp; done) | exact fun e he => List.mem_append_right _ he⟩ (Z.Yd.buildL [(0, 1), (1, 1)] [.int .u64 0, .int .i64 0] rfl rfl (by intro w; kernel_rfl)) ?_
    refine Z.t 1 rfl rfl rfl (by rfl) (by kernel_rfl) ⟨_, hs, by first | (simp; done) | exact fun e he => List.mem_append_right _ he⟩ (Z.Yd.fieldA (m := 0) rfl (by kernel_rfl)) ?_
    refine Z.t 2 rfl rfl rfl (by rfl) (by kernel_rfl) ⟨_, hs, by first | (simp; done) | exact fun e he => List.mem_append_right _ he⟩ (by first | exact Z.Yd.load rfl Try.isAgg3 (fun _ => Z.cellB (by first | ((repeat (first | exact List.mem_cons_self | refine List.mem_cons_of_mem _ ?_ | refine List.mem_append_right _ ?_)); done) | fail) rfl) | exact Z.Yd.load rfl Try.isAgg3 (fun _ => Z.cellO (by assumption) (by simp) (by assumption)) | fail "load 3.2") ?_
    refine Z.t 3 rfl rfl rfl (by rfl) (by kernel_rfl) ⟨_, hs, by first | (simp; done) | exact fun e he => List.mem_append_right _ he⟩ (Z.Yd.convI rfl ⟨_, Try.underlying3⟩ Try.underlying62 (fun hG => Z.wu64 (by first | omega | (have hG' := Z.gh rfl hG; simp at hG'; omega)))) ?_
    refine Z.t 4 rfl rfl rfl (by rfl) (by kernel_rfl) ⟨_, hs, by first | (simp; done) | exact fun e he => List.mem_append_right _ he⟩ (Z.Yd.buildL [(0, 1), (1, 1)] [.int .u64 0, .int .i64 0] rfl rfl (by intro w; kernel_rfl)) ?_
    refine Z.t 5 rfl rfl rfl (by rfl) (by kernel_rfl) ⟨_, hs, by first | (simp; done) | exact fun e he => List.mem_append_right _ he⟩ (Z.Yd.fieldA (m := 1) rfl (by kernel_rfl)) ?_
    refine Z.t 6 rfl rfl rfl (by rfl) (by kernel_rfl) ⟨_, hs, by first | (simp; done) | exact fun e he => List.mem_append_right _ he⟩ (by first | exact Z.Yd.load rfl Try.isAgg22 (fun _ => Z.cellB (by first | ((repeat (first | exact List.mem_cons_self | refine List.mem_cons_of_mem _ ?_ | refine List.mem_append_right _ ?_)); done) | fail) rfl) | exact Z.Yd.load rfl Try.isAgg22 (fun _ => Z.cellO (by assumption) (by simp) (by assumption)) | fail "load 3.6") ?_
    refine Z.t 7 rfl rfl rfl (by rfl) (by kernel_rfl) ⟨_, hs, by first | (simp; done) | exact fun e he => List.mem_append_right _ he⟩ (Z.Yd.lenS rfl Try.underlying22) ?_
    refine Z.tb [8] (by kernel_rfl) rfl ⟨_, hs, by first | (simp; done) | exact fun e he => List.mem_append_right _ he⟩ rfl ?_
    refine Z.tn 9 rfl rfl (by kernel_rfl) rfl trivial ?_
    refine Z.ZO.call rfl rfl (by rfl) rfl rfl Try.call31 rfl (bit_any _ _) ?_
    rintro v3_9 w3_9 ⟨rfl, hy⟩
    replace hs := hs.call hy
    clear hy
    try simp only [List.cons_append, List.nil_append, List.append_nil] at hs
    refine Z.tk (Dn := fun _ => true) (i := 9) (fun _ => ⟨_, hs, by first | (simp; done) | exact fun e he => List.mem_append_right _ he⟩) ?_
    refine Z.t 10 rfl rfl rfl (by rfl) (by kernel_rfl) ⟨_, hs, by first | (simp; done) | exact fun e he => List.mem_append_right _ he⟩ (Z.Yd.buildL [(0, 1), (1, 1)] [.int .u64 0, .int .i64 0] rfl rfl (by intro w; kernel_rfl)) ?_
    refine Z.tn 11 rfl rfl (by kernel_rfl) rfl trivial ?_
    refine Z.ZO.litL (T' := 64) [(0, 2), (2, 2), (4, 2)] [.int .u64 0, .int .i64 0, .int .u64 0, .int .i64 0, .int .u64 0, .int .i64 0] rfl rfl (by rfl) rfl rfl (by intro W; kernel_rfl) hs ?_
    clear hs; intro g23 w23 hs
    refine Z.tk (Dn := fun _ => true) (i := 11) (fun _ => ⟨_, hs, by first | (simp; done) | exact fun e he => List.mem_append_right _ he⟩) ?_
    replace hs := hs.nil 5 1
    replace hs : SX.St w [] _ ([rowB (.slice none 0 0) []] ++ [_, _]) := hs
    refine Z.tn 12 rfl rfl (by kernel_rfl) rfl trivial ?_
    refine Z.ZO.call rfl rfl (by rfl) rfl rfl Try.call30 rfl (refputall (.slice none 0 0) [] _ _ _ (hdF ack (decide (0 < (n : Int)))) _ hs.lend (by have h0 := Z.blk_lentj hs (j := 0) rfl; exact h0) rfl (by decide) (by decide) (hdF_ok _ hack).1) ?_
    rintro v3_12 w3_12 ⟨sv1, rfl, hz⟩
    replace hs := hs.regain hz
    rw [resA_ok (hdF_ok _ hack), List.nil_append] at hs
    refine Z.tk (Dn := fun _ => true) (i := 12) (fun _ => ⟨_, hs, by first | (simp; done) | exact fun e he => List.mem_append_right _ he⟩) ?_
    refine Z.tb [13, 14, 15, 16, 17] (by kernel_rfl) rfl ⟨_, hs, by first | (simp; done) | exact fun e he => List.mem_append_right _ he⟩ rfl ?_
    refine Z.td (by rfl) (by kernel_rfl) ?_
    refine Z.only [1, 4] rfl ?_
    replace hs : SX.St w [] _ ([rowB sv1 _] ++ [SX.Ent.blk g1 24 #[.int .i64 ack, .slice A n c]]) := hs.sel [0, 2] (by decide)
    refine Z.nthen ?_
    refine Z.seq ?_
    refine Z.seq ?_
    refine Z.region ?_
    refine Z.lb 1 rfl ?_
    refine Z.lnil ?_
    refine Z.only [1, 4, 6] rfl ?_
    refine Z.nthen ?_
    refine Z.block ?_
    refine Z.loopk (ι := Nat × Value × List Bool) [1] rfl (fun k => [(4, [], k.2.1), (6, [], .int .i64 (k.1 : Int))]) (fun k wr => (k.1 ≤ n ∧ k.2.2 ++ entsB (l.drop k.1) = encS ack l) ∧ SX.St w [] wr ([rowB k.2.1 k.2.2] ++ [SX.Ent.blk g1 24 #[.int .i64 ack, .slice A n c]])) (fun k => n - k.1) (0, sv1, _) (by refine ⟨?_, ?_, trivial⟩ <;> (first | rfl | (refine Z.lookv rfl ?_; simp; done) | (refine Z.lookv rfl ?_; simp; omega))) ⟨⟨Nat.zero_le _, hE.symm⟩, hs⟩ ?_
    clear hs
    rintro ⟨k, sv, bs⟩ w2 ⟨⟨hk, hbs⟩, hs⟩
    refine Z.only [1, 4, 6] rfl ?_
    (try dsimp only at hs)
    dsimp only at hk hbs
    refine Z.seq ?_
    refine Z.seq ?_
    refine Z.region ?_
    refine Z.lb 1 rfl ?_
    refine Z.l rfl rfl (by rfl) (Z.keepS hs) (Z.Yd.fieldA (m := 1) rfl (by kernel_rfl)) ?_
    refine Z.l rfl rfl (by rfl) (Z.keepS hs) (by first | exact Z.Yd.load rfl Try.isAgg22 (fun _ => Z.cellB (by first | ((repeat (first | exact List.mem_cons_self | refine List.mem_cons_of_mem _ ?_ | refine List.mem_append_right _ ?_)); done) | fail) rfl) | exact Z.Yd.load rfl Try.isAgg22 (fun _ => Z.cellO (by assumption) (by simp) (by assumption)) | fail "load 5.2") ?_
    refine Z.l rfl rfl (by rfl) (Z.keepS hs) (Z.Yd.lenS rfl Try.underlying22) ?_
    refine Z.lb 1 rfl ?_
    refine Z.lnil ?_
    refine Z.only [1, 4, 6, 31] rfl ?_
    refine Z.nthen ?_
    refine Z.cond rfl (fun hc5 => ?_) (fun hc5 => ?_)
    · first
        | (exfalso; simp at hc5 <;> omega)
        | (
          (try simp at hc5)
          obtain ⟨b, off, rfl, hx2⟩ := hx.sx.some (by rw [Z.flat_length (s := 4) nk_len]; omega)
          obtain ⟨x, hxk⟩ : ∃ f, l[k]? = some f := ⟨_, List.getElem?_eq_getElem (by omega)⟩
          have hone := nk_one x
          have hal := vldB_alone hv hxk
          have hal1 := hal.1
          have hal2 : 0 ≤ x.lo ∧ x.lo ≤ 32767 ∧ 0 ≤ x.hi ∧ x.hi ≤ 32767 := by have := hal.2.2; split at this <;> omega
          have hd := drop_at hxk
          rw [hd, entsB, empty_iff] at hbs
          have hbl : bs.length + nkSz x ≤ 1000000 := by
            have := congrArg List.length hbs
            simp only [List.length_append, entB_len] at this
            omega
          have hm2 : decide (k + 1 < l.length) = decide ((k : Int) + 1 < (n : Int)) := by rw [decide_eq_decide]; omega
          rw [hm2] at hbs
          have hn8 := nkF_ok (decide ((k : Int) + 1 < (n : Int))) hal
          have hn10 := ptF_ok hal
          have hb8 : (bs ++ (nkF (decide ((k : Int) + 1 < (n : Int))) x).flatMap fldF).length ≤ 1000000 := by
            rw [List.length_append]
            have : ((nkF (decide ((k : Int) + 1 < (n : Int))) x).flatMap fldF).length = 12 := by simp [nkF, fldF, fld_length]
            have : 12 ≤ nkSz x := by unfold nkSz; split <;> omega
            omega
          refine Z.skip ?_
          refine Z.nthen ?_
          refine Z.seq ?_
          refine Z.block ?_
          refine Z.seq ?_
          refine Z.region ?_
          refine Z.l rfl rfl (by rfl) (Z.keepS hs) (Z.Yd.fieldA (m := 1) rfl (by kernel_rfl)) ?_
          refine Z.l rfl rfl (by rfl) (Z.keepS hs) (by first | exact Z.Yd.load rfl Try.isAgg22 (fun _ => Z.cellB (by first | ((repeat (first | exact List.mem_cons_self | refine List.mem_cons_of_mem _ ?_ | refine List.mem_append_right _ ?_)); done) | fail) rfl) | exact Z.Yd.load rfl Try.isAgg22 (fun _ => Z.cellO (by assumption) (by simp) (by assumption)) | fail "load 7.1") ?_
          refine Z.lb 1 rfl ?_
          refine Z.l rfl rfl (by rfl) (Z.keepS hs) (Z.Yd.elem rfl rfl Try.underlying22 Try.sizeOf45 (fun hG => ⟨(by first | omega | (have hG' := Z.gh rfl hG; simp at hG'; omega)), (by first | omega | (have hG' := Z.gh rfl hG; simp at hG'; omega))⟩)) ?_
          refine Z.l rfl rfl (by rfl) (Z.keepS hs) (Z.Yd.loadA _ rfl Try.isAgg45 (fun _ => Z.cellsX x.cells hx2 nk_len hxk rfl) (by exact Try.sizeOf45)) ?_
          refine Z.le rfl trivial ?_
          refine Z.ZO.alloc rfl rfl (by rfl) Try.zeroValue45 rfl hs ?_
          clear hs; intro g7 w7 hs
          refine Z.le rfl trivial ?_
          first | refine Z.ZO.storeA rfl rfl hs rfl rfl (by kernel_rfl) (by first | (simp [Value.oneCell']; done) | (refine Z.all_one ?_; assumption)) (by first | exact SX.at0 | exact SX.at1 | exact SX.at2 | exact SX.at3 | exact SX.at4 | exact SX.at5 | exact Z.at6 | exact Z.at7 | exact Z.at8 | exact Z.at9 | exact Z.at10 | exact Z.at11 | exact Z.at12) (by rfl) ?_ | refine Z.ZO.storeP rfl rfl hs rfl rfl (by kernel_rfl) (by first | (simp [Value.oneCell']; done) | (refine Z.all_one ?_; assumption)) (by first | exact SX.at0 | exact SX.at1 | exact SX.at2 | exact SX.at3 | exact SX.at4 | exact SX.at5 | exact Z.at6 | exact Z.at7 | exact Z.at8 | exact Z.at9 | exact Z.at10 | exact Z.at11 | exact Z.at12) (by first | decide | (simp; done) | (simp; omega)) ?_ | refine Z.ZO.storePR rfl rfl hs rfl rfl (by kernel_rfl) (by first | (simp [Value.oneCell']; done) | (refine Z.all_one ?_; assumption)) (by first | exact SX.at0 | exact SX.at1 | exact SX.at2 | exact SX.at3 | exact SX.at4 | exact SX.at5 | exact Z.at6 | exact Z.at7 | exact Z.at8 | exact Z.at9 | exact Z.at10 | exact Z.at11 | exact Z.at12) (by first | decide | (simp; done) | (simp; omega)) ?_
          clear hs; intro ws hs
          simp only [Nat.zero_add, Nat.add_zero, Nat.reduceAdd, Int.reduceToNat, Nat.reduceMul, List.set_cons_zero, List.set_cons_succ, List.setIfInBounds_toArray] at hs
          try simp only [Z.putL, Nat.zero_add] at hs
          refine Z.lnil ?_
          refine Z.only [1, 4, 6, 7] rfl ?_
          refine Z.nthen ?_
          refine Z.seq ?_
          refine Z.drawL [SX.Ent.blk g1 24 #[.int .i64 ack, .slice (some ⟨b, off, none⟩) n c], SX.Ent.blk g7 45 x.cells.toArray] (fun _ => true) mixed hs ?_
          clear hs; intro wd8 hs
          refine Z.tb [0] (by kernel_rfl) rfl ⟨_, hs, by first | (simp; done) | exact fun e he => List.mem_append_right _ he⟩ rfl ?_
          refine Z.t 1 rfl rfl rfl (by rfl) (by kernel_rfl) ⟨_, hs, by first | (simp; done) | exact fun e he => List.mem_append_right _ he⟩ (Z.Yd.fieldA (m := 0) rfl (by kernel_rfl)) ?_
          refine Z.t 2 rfl rfl rfl (by rfl) (by kernel_rfl) ⟨_, hs, by first | (simp; done) | exact fun e he => List.mem_append_right _ he⟩ (Z.Yd.load rfl Try.isAgg3 (fun _ => Z.cellB (cs := x.cells.toArray) (by first | ((repeat (first | exact List.mem_cons_self | refine List.mem_cons_of_mem _ ?_ | refine List.mem_append_right _ ?_)); done) | fail) rfl)) ?_
          refine Z.t 3 rfl rfl rfl (by rfl) (by kernel_rfl) ⟨_, hs, by first | (simp; done) | exact fun e he => List.mem_append_right _ he⟩ (Z.Yd.convI rfl ⟨_, Try.underlying3⟩ Try.underlying62 (fun hG => Z.wu64 (by first | omega | (have hG' := Z.gh rfl hG; simp at hG'; omega)))) ?_
          refine Z.t 4 rfl rfl rfl (by rfl) (by kernel_rfl) ⟨_, hs, by first | (simp; done) | exact fun e he => List.mem_append_right _ he⟩ (Z.Yd.buildL [(0, 1), (1, 1)] [.int .u64 0, .int .i64 0] rfl rfl (by intro w; kernel_rfl)) ?_
          refine Z.tb [5] (by kernel_rfl) rfl ⟨_, hs, by first | (simp; done) | exact fun e he => List.mem_append_right _ he⟩ rfl ?_
          refine Z.t 6 rfl rfl rfl (by rfl) (by kernel_rfl) ⟨_, hs, by first | (simp; done) | exact fun e he => List.mem_append_right _ he⟩ (Z.Yd.add rfl rfl (fun hG => Z.wi64 (by first | omega | (have hG' := Z.gh rfl hG; simp at hG'; omega)))) ?_
          refine Z.t 7 rfl rfl rfl (by rfl) (by kernel_rfl) ⟨_, hs, by first | (simp; done) | exact fun e he => List.mem_append_right _ he⟩ (Z.Yd.fieldA (m := 1) rfl (by kernel_rfl)) ?_
          refine Z.t 8 rfl rfl rfl (by rfl) (by kernel_rfl) ⟨_, hs, by first | (simp; done) | exact fun e he => List.mem_append_right _ he⟩ (by first | exact Z.Yd.load rfl Try.isAgg22 (fun _ => Z.cellB (by first | ((repeat (first | exact List.mem_cons_self | refine List.mem_cons_of_mem _ ?_ | refine List.mem_append_right _ ?_)); done) | fail) rfl) | exact Z.Yd.load rfl Try.isAgg22 (fun _ => Z.cellO (by assumption) (by simp) (by assumption)) | fail "load 8.8") ?_
          refine Z.t 9 rfl rfl rfl (by rfl) (by kernel_rfl) ⟨_, hs, by first | (simp; done) | exact fun e he => List.mem_append_right _ he⟩ (Z.Yd.lenS rfl Try.underlying22) ?_
          refine Z.tb [10] (by kernel_rfl) rfl ⟨_, hs, by first | (simp; done) | exact fun e he => List.mem_append_right _ he⟩ rfl ?_
          refine Z.t 13 rfl rfl rfl (by rfl) (by kernel_rfl) ⟨_, hs, by first | (simp; done) | exact fun e he => List.mem_append_right _ he⟩ (Z.Yd.fieldA (m := 1) rfl (by kernel_rfl)) ?_
          refine Z.t 14 rfl rfl rfl (by rfl) (by kernel_rfl) ⟨_, hs, by first | (simp; done) | exact fun e he => List.mem_append_right _ he⟩ (Z.Yd.load rfl Try.isAgg4 (fun _ => Z.cellB (cs := x.cells.toArray) (by first | ((repeat (first | exact List.mem_cons_self | refine List.mem_cons_of_mem _ ?_ | refine List.mem_append_right _ ?_)); done) | fail) rfl)) ?_
          refine Z.tn 11 rfl rfl (by kernel_rfl) rfl trivial ?_
          refine Z.ZO.call rfl rfl (by rfl) rfl rfl Try.call31 rfl (bit_any _ _) ?_
          rintro v8_11 w8_11 ⟨rfl, hy⟩
          replace hs := hs.call hy
          clear hy
          try simp only [List.cons_append, List.nil_append, List.append_nil] at hs
          refine Z.tk (Dn := fun _ => true) (i := 11) (fun _ => ⟨_, hs, by first | (simp; done) | exact fun e he => List.mem_append_right _ he⟩) ?_
          refine Z.t 12 rfl rfl rfl (by rfl) (by kernel_rfl) ⟨_, hs, by first | (simp; done) | exact fun e he => List.mem_append_right _ he⟩ (Z.Yd.buildL [(0, 1), (1, 1)] [.int .u64 0, .int .i64 0] rfl rfl (by intro w; kernel_rfl)) ?_
          refine Z.tn 15 rfl rfl (by kernel_rfl) rfl trivial ?_
          refine Z.ZO.call rfl rfl (by rfl) rfl rfl Try.call31 rfl (bit_any _ _) ?_
          rintro v8_15 w8_15 ⟨rfl, hy⟩
          replace hs := hs.call hy
          clear hy
          try simp only [List.cons_append, List.nil_append, List.append_nil] at hs
          refine Z.tk (Dn := fun _ => true) (i := 15) (fun _ => ⟨_, hs, by first | (simp; done) | exact fun e he => List.mem_append_right _ he⟩) ?_
          refine Z.t 16 rfl rfl rfl (by rfl) (by kernel_rfl) ⟨_, hs, by first | (simp; done) | exact fun e he => List.mem_append_right _ he⟩ (Z.Yd.buildL [(0, 1), (1, 1)] [.int .u64 0, .int .i64 0] rfl rfl (by intro w; kernel_rfl)) ?_
          refine Z.tn 17 rfl rfl (by kernel_rfl) rfl trivial ?_
          refine Z.ZO.litL (T' := 64) [(0, 2), (2, 2), (4, 2)] [.int .u64 0, .int .i64 0, .int .u64 0, .int .i64 0, .int .u64 0, .int .i64 0] rfl rfl (by rfl) rfl rfl (by intro W; kernel_rfl) hs ?_
          clear hs; intro g57 w57 hs
          refine Z.tk (Dn := fun _ => true) (i := 17) (fun _ => ⟨_, hs, by first | (simp; done) | exact fun e he => List.mem_append_right _ he⟩) ?_
          replace hs : SX.St w [] _ ([rowB sv bs] ++ [_, _, _]) := hs.sel [2, 0, 1, 3] (by decide)
          refine Z.tn 18 rfl rfl (by kernel_rfl) rfl trivial ?_
          refine Z.ZO.call rfl rfl (by rfl) rfl rfl Try.call30 rfl (refputall sv bs _ _ _ (nkF (decide ((k : Int) + 1 < (n : Int))) x) _ hs.lend (by have h0 := Z.blk_lentj hs (j := 0) rfl; exact h0) rfl (by decide) (by omega) hn8.1) ?_
          rintro v8_18 w8_18 ⟨sv1, rfl, hz⟩
          replace hs := hs.regain hz
          rw [resA_ok hn8] at hs
          refine Z.tk (Dn := fun _ => true) (i := 18) (fun _ => ⟨_, hs, by first | (simp; done) | exact fun e he => List.mem_append_right _ he⟩) ?_
          refine Z.tb [19, 20, 21, 22] (by kernel_rfl) rfl ⟨_, hs, by first | (simp; done) | exact fun e he => List.mem_append_right _ he⟩ rfl ?_
          refine Z.td (by rfl) (by kernel_rfl) ?_
          refine Z.only [1, 4, 6, 7] rfl ?_
          simp only [List.cons_append, List.nil_append] at hs
          refine Z.nthen ?_
          refine Z.seq ?_
          refine Z.region ?_
          refine Z.l rfl rfl (by rfl) (Z.keepS hs) (Z.Yd.fieldA (m := 1) rfl (by kernel_rfl)) ?_
          refine Z.l rfl rfl (by rfl) (Z.keepS hs) (Z.Yd.load rfl Try.isAgg4 (fun _ => Z.cellB (cs := x.cells.toArray) (by first | ((repeat (first | exact List.mem_cons_self | refine List.mem_cons_of_mem _ ?_ | refine List.mem_append_right _ ?_)); done) | fail) rfl)) ?_
          refine Z.lnil ?_
          refine Z.only [1, 4, 6, 7, 62] rfl ?_
          refine Z.nthen ?_
          refine Z.cond rfl (fun hc9 => ?_) (fun hc9 => ?_)
          · first
              | (exfalso; simp at hc9 <;> omega)
              | (
                (try simp at hc9)
                refine Z.region ?_
                refine Z.lb 1 rfl ?_
                refine Z.l rfl rfl (by rfl) (Z.keepS hs) (Z.Yd.fieldA (m := 2) rfl (by kernel_rfl)) ?_
                refine Z.l rfl rfl (by rfl) (Z.keepS hs) (Z.Yd.load rfl Try.isAgg3 (fun _ => Z.cellB (cs := x.cells.toArray) (by first | ((repeat (first | exact List.mem_cons_self | refine List.mem_cons_of_mem _ ?_ | refine List.mem_append_right _ ?_)); done) | fail) rfl)) ?_
                refine Z.l rfl rfl (by rfl) (Z.keepS hs) (Z.Yd.convI rfl ⟨_, Try.underlying3⟩ Try.underlying62 (fun hG => Z.wu64 (by first | omega | (have hG' := Z.gh rfl hG; simp at hG'; omega)))) ?_
                refine Z.l rfl rfl (by rfl) (Z.keepS hs) (Z.Yd.buildL [(0, 1), (1, 1)] [.int .u64 0, .int .i64 0] rfl rfl (by intro w; kernel_rfl)) ?_
                refine Z.l rfl rfl (by rfl) (Z.keepS hs) (Z.Yd.fieldA (m := 3) rfl (by kernel_rfl)) ?_
                refine Z.l rfl rfl (by rfl) (Z.keepS hs) (Z.Yd.load rfl Try.isAgg3 (fun _ => Z.cellB (cs := x.cells.toArray) (by first | ((repeat (first | exact List.mem_cons_self | refine List.mem_cons_of_mem _ ?_ | refine List.mem_append_right _ ?_)); done) | fail) rfl)) ?_
                refine Z.l rfl rfl (by rfl) (Z.keepS hs) (Z.Yd.convI rfl ⟨_, Try.underlying3⟩ Try.underlying62 (fun hG => Z.wu64 (by first | omega | (have hG' := Z.gh rfl hG; simp at hG'; omega)))) ?_
                refine Z.l rfl rfl (by rfl) (Z.keepS hs) (Z.Yd.buildL [(0, 1), (1, 1)] [.int .u64 0, .int .i64 0] rfl rfl (by intro w; kernel_rfl)) ?_
                refine Z.le rfl trivial ?_
                refine Z.ZO.litL (T' := 64) [(0, 2), (2, 2)] [.int .u64 0, .int .i64 0, .int .u64 0, .int .i64 0] rfl rfl (by rfl) rfl rfl (by intro W; kernel_rfl) hs ?_
                clear hs; intro g73 w73 hs
                replace hs : SX.St w [] _ ([rowB sv1 _] ++ [_, _, _, _]) := hs.sel [1, 0, 2, 3, 4] (by decide)
                refine Z.le rfl trivial ?_
                refine Z.ZO.call rfl rfl (by rfl) rfl rfl Try.call30 rfl (refputall sv1 _ _ _ _ (ptF x) _ hs.lend (by have h0 := Z.blk_lentj hs (j := 0) rfl; exact h0) rfl (by decide) hb8 hn10.1) ?_
                rintro v10_10 w10_10 ⟨sv2, rfl, hz⟩
                replace hs := hs.regain hz
                rw [resA_ok hn10] at hs
                refine Z.lb 4 rfl ?_
                refine Z.lnil ?_
                refine Z.only [1, 4, 6] rfl ?_
                refine Z.nblock ?_
                refine Z.nthen ?_
                refine Z.region ?_
                refine Z.lb 1 rfl ?_
                refine Z.l rfl rfl (by rfl) (Z.keepS hs) (Z.Yd.add rfl rfl (fun hG => Z.wi64 (by first | omega | (have hG' := Z.gh rfl hG; simp at hG'; omega)))) ?_
                refine Z.lb 1 rfl ?_
                refine Z.lnil ?_
                refine Z.only [1, 4, 6] rfl ?_
                refine Z.nthen ?_
                first
                | (refine Z.again (k + 1, sv2, _) (by refine ⟨?_, ?_, ?_, trivial⟩ <;> (first | rfl | (refine Z.lookv rfl ?_; simp; done) | (refine Z.lookv rfl ?_; simp; omega))) ⟨⟨by simp only; omega, ?_⟩, hs.sel [0, 4] (by decide)⟩ (by simp only; omega)
                   rw [← hbs]
                   have hp : x.part = true := by assumption
                   simp [entB, hp])
                | (refine Z.again (k + 1, sv1, _) (by refine ⟨?_, ?_, ?_, trivial⟩ <;> (first | rfl | (refine Z.lookv rfl ?_; simp; done) | (refine Z.lookv rfl ?_; simp; omega))) ⟨⟨by simp only; omega, ?_⟩, hs.sel [0, 3] (by decide)⟩ (by simp only; omega)
                   rw [← hbs]
                   simp_all [entB])
                )
          · first
              | (exfalso; simp at hc9 <;> omega)
              | (
                (try simp at hc9)
                refine Z.skip ?_
                refine Z.nblock ?_
                refine Z.nthen ?_
                refine Z.region ?_
                refine Z.lb 1 rfl ?_
                refine Z.l rfl rfl (by rfl) (Z.keepS hs) (Z.Yd.add rfl rfl (fun hG => Z.wi64 (by first | omega | (have hG' := Z.gh rfl hG; simp at hG'; omega)))) ?_
                refine Z.lb 1 rfl ?_
                refine Z.lnil ?_
                refine Z.only [1, 4, 6] rfl ?_
                refine Z.nthen ?_
                first
                | (refine Z.again (k + 1, sv2, _) (by refine ⟨?_, ?_, ?_, trivial⟩ <;> (first | rfl | (refine Z.lookv rfl ?_; simp; done) | (refine Z.lookv rfl ?_; simp; omega))) ⟨⟨by simp only; omega, ?_⟩, hs.sel [0, 4] (by decide)⟩ (by simp only; omega)
                   rw [← hbs]
                   have hp : x.part = true := by assumption
                   simp [entB, hp])
                | (refine Z.again (k + 1, sv1, _) (by refine ⟨?_, ?_, ?_, trivial⟩ <;> (first | rfl | (refine Z.lookv rfl ?_; simp; done) | (refine Z.lookv rfl ?_; simp; omega))) ⟨⟨by simp only; omega, ?_⟩, hs.sel [0, 3] (by decide)⟩ (by simp only; omega)
                   rw [← hbs]
                   simp_all [entB])
                )
          )
    · first
        | (exfalso; simp at hc5 <;> omega)
        | (
          (try simp at hc5)
          refine Z.exit ?_
          refine Z.xthen ?_
          refine Z.xthen ?_
          refine Z.xblock ?_
          refine Z.nthen ?_
          refine Z.seq ?_
          refine Z.region ?_
          obtain rfl : k = n := by omega
          rw [List.drop_of_length_le (by omega)] at hbs
          simp only [entsB, List.append_nil] at hbs
          rw [hbs] at hs
          obtain ⟨B0, c0, rfl, -, -, -⟩ := SX.row_slv hs (j := 0) rfl
          refine Z.l rfl rfl (by rfl) (Z.keepS hs) (Z.Yd.pure rfl) ?_
          refine Z.le rfl trivial ?_
          refine Z.ZO.call rfl rfl (by rfl) rfl rfl Try.call32 rfl (refbytes B0 _ c0 _ _ (SX.row_slB hs (j := 0) rfl) rfl (by omega)) ?_
          rintro v11_1 w11_1 hy
          replace hs := hs.call hy
          clear hy
          try simp only [List.cons_append, List.nil_append, List.append_nil] at hs
          obtain ⟨B, co, rfl, hco, -, -⟩ := SX.row_slv hs (j := 0) rfl
          refine Z.lb 2 rfl ?_
          refine Z.lnil ?_
          refine Z.only [2, 3] rfl ?_
          refine Z.nthen ?_
          refine Z.ret ?_
          -- ret#0
          refine Z.out2 (by exact ⟨rfl, rfl, trivial⟩) ?_
          exact ⟨_, rfl, B, co, co, rfl, hs.sel [0] (by decide)⟩
          )
  · have e1 : encE ack l = 2 := if_neg hv
    have e2 : encL ack l = [] := if_neg hv
    rw [e1, e2]
    refine Z.enter Try.func11 rfl Try.ntmps11 rfl rfl ?_
    refine Z.seq ?_
    refine Z.region ?_
    refine Z.le rfl trivial ?_
    refine Z.ZO.box rfl rfl (by rfl) rfl rfl hs ?_
    clear hs; intro g1 w1 hs
    refine Z.lb 2 rfl ?_
    refine Z.lnil ?_
    refine Z.only [1] rfl ?_
    refine Z.nthen ?_
    refine Z.seq ?_
    refine Z.seq ?_
    refine Z.region ?_
    refine Z.l rfl rfl (by rfl) (Z.keepS hs) (by first | exact Z.Yd.loadA _ rfl Try.isAgg24 (fun _ => Z.cellsB (by first | ((repeat (first | exact List.mem_cons_self | refine List.mem_cons_of_mem _ ?_ | refine List.mem_append_right _ ?_)); done) | fail)) (by exact Try.sizeOf24) | fail "load 1.0") ?_
    refine Z.le rfl trivial ?_
    refine Z.ZO.call rfl rfl (by rfl) rfl rfl Try.call15 rfl (rsvalid_any ack A n c l _ (hx.st (hs.sub (List.nil_sublist _))) hl hn) ?_
    rintro v1_1 w1_1 ⟨rfl, hy⟩
    replace hs := hs.call hy
    clear hy
    try simp only [List.cons_append, List.nil_append, List.append_nil] at hs
    refine Z.lb 1 rfl ?_
    refine Z.lnil ?_
    refine Z.only [1, 10] rfl ?_
    refine Z.nthen ?_
    refine Z.cond rfl (fun hc1 => ?_) (fun h => absurd h (by simp [hv]))
    refine Z.seq ?_
    refine Z.region ?_
    refine Z.lb 2 rfl ?_
    refine Z.lnil ?_
    refine Z.only [2, 3] rfl ?_
    refine Z.nthen ?_
    refine Z.ret ?_
    repeat (first | refine Z.rthen ?_ | refine Z.rblock ?_ | refine Z.rscope ?_)
    -- ret#0
    refine Z.out2 (by exact ⟨rfl, rfl, trivial⟩) ?_
    exact ⟨_, rfl, none, 0, 0, rfl, (hs.sub (List.nil_sublist _)).nil _ 1⟩
end Go.Proofs.Ytcieclifabbkjaa

/- Status reports: an entry read. -/
namespace Go.Proofs.Ytcieclifabbkjaa
open Go.RowKit
set_option linter.unusedSimpArgs false
set_option linter.unusedVariables false
--newlaws

/-- the number in bits a .. of some bytes -/
def gv (l : List Int) (a w : Nat) : Int := (val (bitsAt l a w) : Int)
def gvs (l : List Int) : Nat → List Nat → List Int
  | _, [] => []
  | a, w :: ws => gv l a w :: gvs l (a + w) ws
def toI (ws : List Nat) : List Int := ws.map fun (w : Nat) => (w : Int)
theorem gs_ok {l : List Int} : ∀ (ws : List Nat) (a : Nat), (∀ w ∈ ws, w ≤ 64) → a + ws.sum ≤ 8 * l.length → gsE l a (toI ws) = 0 ∧ gsA l a (toI ws) = a + ws.sum ∧ gsV l a (toI ws) = gvs l a ws
  | [], a, _, _ => ⟨rfl, rfl, rfl⟩
  | w :: ws, a, h64, h => by
    simp only [List.sum_cons] at h
    have h1 : getE l a (w : Int) = 0 := getE_ok (by omega) (h64 w (by simp))
    have h2 : getA l a (w : Int) = a + w := by unfold getA; rw [if_pos h1]; rfl
    have h3 : getV l a (w : Int) = gv l a w := by unfold getV; rw [if_pos h1]; rfl
    obtain ⟨i1, i2, i3⟩ := gs_ok (l := l) ws (a + w) (fun v hv => h64 v (by simp [hv])) (by omega)
    refine ⟨?_, ?_, ?_⟩
    · show gsE l a ((w : Int) :: toI ws) = 0
      rw [gsE, if_pos h1, h2, i1]
    · show gsA l (getA l a (w : Int)) (toI ws) = _
      rw [h2, i2, List.sum_cons]; omega
    · show getV l a (w : Int) :: gsV l (getA l a (w : Int)) (toI ws) = _
      rw [h2, h3, i3]; rfl
theorem gs_bad {l : List Int} : ∀ (ws : List Nat) (a : Nat), (∀ w ∈ ws, w ≤ 64) → a ≤ 8 * l.length → ¬ a + ws.sum ≤ 8 * l.length → gsE l a (toI ws) = 5
  | [], a, _, h1, h => absurd h1 (by simpa using h)
  | w :: ws, a, h64, h1, h => by
    simp only [List.sum_cons] at h
    show gsE l a ((w : Int) :: toI ws) = 5
    rw [gsE]
    by_cases hw : a + w ≤ 8 * l.length
    · have e1 : getE l a (w : Int) = 0 := getE_ok hw (h64 w (by simp))
      have e2 : getA l a (w : Int) = a + w := by unfold getA; rw [if_pos e1]; rfl
      rw [if_pos e1, e2]
      exact gs_bad (l := l) ws (a + w) (fun v hv => h64 v (by simp [hv])) hw (by omega)
    · have h64w := h64 w (by simp)
      have e1 : getE l a (w : Int) = 5 := by unfold getE; rw [if_neg (by omega), if_pos (by omega)]
      rw [e1, if_neg (by decide)]
theorem gv_bd (l : List Int) (a w : Nat) : 0 ≤ gv l a w ∧ gv l a w < ((2 ^ w : Nat) : Int) := by
  refine ⟨Int.natCast_nonneg _, ?_⟩
  have h1 := val_lt (bitsAt l a w)
  have h2 : (bitsAt l a w).length ≤ w := by unfold bitsAt; simp; omega
  have h3 : 2 ^ (bitsAt l a w).length ≤ 2 ^ w := Nat.pow_le_pow_right (by decide) h2
  unfold gv
  exact_mod_cast Nat.lt_of_lt_of_le h1 h3
/-- the entry at bit a -/
def partAt (l : List Int) (a : Nat) : Bool := gv l (a + 11) 1 == 1
def moreAt (l : List Int) (a : Nat) : Bool := gv l (a + 10) 1 == 1
def nkAt (l : List Int) (a : Nat) : NkV := ⟨gv l a 10, partAt l a, if partAt l a = true then gv l (a + 12) 15 else 0, if partAt l a = true then gv l (a + 27) 15 else 0⟩
def nkE (l : List Int) (a : Nat) : Int := if a + 12 ≤ 8 * l.length then (if partAt l a = true then (if a + 42 ≤ 8 * l.length then 0 else 5) else 0) else 5
def nkA (l : List Int) (a : Nat) : Nat := a + nkSz (nkAt l a)

/-- the panic with error e -/
def perr (e : Int) : List PanicEntry := Z.pe (.iface 27 (.int .i64 e))
def PanE (e : Int) (Φ : World → Prop) : Ending → World → Prop := Z.Pan fun c w' => c = perr e ∧ Φ w'
theorem must_ok (b : Bool) (e : Int) (w : World) (hb : b = true) : Calls Try.prog 42 #[.bool b, .int .i64 e] w (SX.Ret fun v w' => v = .tuple #[] ∧ SX.St w [] w' []) := by
  have hs := SX.St.start w
  subst hb
  refine Z.enter Try.func42 rfl Try.ntmps42 rfl rfl ?_
  refine Z.seq ?_
  refine Z.region ?_
  refine Z.lb 2 rfl ?_
  refine Z.lnil ?_
  refine Z.only [1, 5] rfl ?_
  refine Z.nthen ?_
  refine Z.cond rfl (fun h => absurd h (by simp)) (fun hc0 => ?_)
  refine Z.skip ?_
  -- ret#0
  refine Z.out0n trivial ?_
  first | exact ⟨_, rfl, rfl, hs⟩ | exact ⟨_, rfl, rfl, hs.sub (List.nil_sublist _)⟩
theorem must_bad (b : Bool) (e : Int) (w : World) (hb : b = false) : Calls Try.prog 42 #[.bool b, .int .i64 e] w (PanE e fun w' => SX.St w [] w' []) := by
  have hs := SX.St.start w
  subst hb
  refine Z.enter Try.func42 rfl Try.ntmps42 rfl rfl ?_
  refine Z.seq ?_
  refine Z.region ?_
  refine Z.lb 2 rfl ?_
  refine Z.lnil ?_
  refine Z.only [1, 5] rfl ?_
  refine Z.nthen ?_
  refine Z.cond rfl (fun hc0 => ?_) (fun h => absurd h (by simp))
  refine Z.region ?_
  refine Z.lb 1 rfl ?_
  refine Z.l rfl rfl (by rfl) (Z.keepS hs) (Z.Yd.iface rfl (by intro w; go_simp; try rfl)) ?_
  refine Z.le rfl trivial ?_
  refine Z.ZO.panic rfl rfl ?_
  -- ret#0
  refine Z.outp ?_
  exact ⟨_, rfl, rfl, hs⟩
theorem gots_ok (x : Value) (w : World) : Calls Try.prog 40 #[x, .int .i64 0] w (SX.Ret fun v w' => v = x ∧ SX.St w [] w' []) := by
  have hs := SX.St.start w
  refine Z.enter Try.func40 rfl Try.ntmps40 rfl rfl ?_
  refine Z.seq ?_
  refine Z.region ?_
  refine Z.lb 1 rfl ?_
  refine Z.lnil ?_
  refine Z.only [0, 1] rfl ?_
  refine Z.nthen ?_
  refine Z.seq ?_
  refine Z.region ?_
  refine Z.lb 3 rfl ?_
  refine Z.le rfl trivial ?_
  refine Z.ZO.call rfl rfl (by rfl) rfl rfl Try.call42 rfl (must_ok _ 0 _ (by simp)) ?_
  rintro v1_3 w1_3 ⟨rfl, hy⟩
  replace hs := hs.call hy
  clear hy
  try simp only [List.cons_append, List.nil_append, List.append_nil] at hs
  refine Z.lnil ?_
  refine Z.only [0] rfl ?_
  refine Z.nthen ?_
  refine Z.seq ?_
  refine Z.region ?_
  refine Z.lb 2 rfl ?_
  refine Z.lnil ?_
  refine Z.only [4] rfl ?_
  refine Z.nthen ?_
  refine Z.ret ?_
  -- ret#0
  refine Z.out1 (by exact ⟨rfl, trivial⟩) ?_
  first | exact ⟨_, rfl, rfl, hs⟩ | exact ⟨_, rfl, rfl, hs.sub (List.nil_sublist _)⟩
theorem gots_bad (x : Value) (e : Int) (w : World) (he : e ≠ 0) : Calls Try.prog 40 #[x, .int .i64 e] w (PanE e fun w' => SX.St w [] w' []) := by
  have hs := SX.St.start w
  refine Z.enter Try.func40 rfl Try.ntmps40 rfl rfl ?_
  refine Z.seq ?_
  refine Z.region ?_
  refine Z.lb 1 rfl ?_
  refine Z.lnil ?_
  refine Z.only [0, 1] rfl ?_
  refine Z.nthen ?_
  refine Z.seq ?_
  refine Z.region ?_
  refine Z.lb 3 rfl ?_
  refine Z.le rfl trivial ?_
  refine Z.ZO.callP rfl rfl rfl Try.call42 rfl (must_bad _ e _ (by simpa using he)) ?_
  rintro c1_3 w1_3 ⟨rfl, hy⟩
  replace hs := hs.call hy
  clear hy
  try simp only [List.cons_append, List.nil_append, List.append_nil] at hs
  repeat (first | refine Z.pthen ?_ | refine Z.pblock ?_ | refine Z.pscope ?_)
  -- ret#0
  refine Z.outp ?_
  exact ⟨_, rfl, rfl, hs⟩
set_option maxRecDepth 100000 in
theorem entry_ok (g T : Nat) (sv : Value) (l : List Int) (a : Nat) (w : World) (hs : SX.St w (SX.idsOf (RdL g T sv l a)) w (RdL g T sv l a)) (hl : l.length ≤ 1000000) (hb : ∀ x ∈ l, 0 ≤ x ∧ x < 256) (h : nkE l a = 0) :
    Calls Try.prog 43 #[.agg #[.pointer (some ⟨g, 0, none⟩)]] w (SX.Ret fun v w' => v = .tuple #[.agg (nkAt l a).cells.toArray, .bool (moreAt l a)] ∧ SX.St w (SX.idsOf (RdL g T sv l a)) w' (RdL g T sv l (nkA l a))) := by
  generalize hM : SX.idsOf (RdL g T sv l a) = M at *
  have h12 : a + 12 ≤ 8 * l.length := by unfold nkE at h; split at h <;> omega
  have b0 := gv_bd l a 10
  have b1 := gv_bd l (a + 10) 1
  have b2 := gv_bd l (a + 11) 1
  have b3 := gv_bd l (a + 12) 15
  have b4 := gv_bd l (a + 27) 15
  simp only [Nat.reducePow] at b0 b1 b2 b3 b4
  obtain ⟨q1, q2, q3⟩ := gs_ok (l := l) [10, 1, 1] a (by simp) h12
  obtain ⟨v0, hv0⟩ : ∃ v, v = gv l a 10 := ⟨_, rfl⟩
  obtain ⟨v1, hv1⟩ : ∃ v, v = gv l (a + 10) 1 := ⟨_, rfl⟩
  obtain ⟨v2, hv2⟩ : ∃ v, v = gv l (a + 11) 1 := ⟨_, rfl⟩
  have q3' : gsV l a [10, 1, 1] = [v0, v1, v2] := by rw [hv0, hv1, hv2]; exact q3
  have q1' : gsE l a [10, 1, 1] = 0 := q1
  have q2' : gsA l a [10, 1, 1] = a + 12 := q2
  rw [← hv0] at b0
  rw [← hv1] at b1
  rw [← hv2] at b2
  by_cases hp : partAt l a = true
  · have h42 : a + 42 ≤ 8 * l.length := by unfold nkE at h; rw [if_pos h12, if_pos hp] at h; split at h <;> omega
    obtain ⟨p1, p2, p3⟩ := gs_ok (l := l) [15, 15] (a + 12) (by simp) (by simp; omega)
    obtain ⟨v3, hv3⟩ : ∃ v, v = gv l (a + 12) 15 := ⟨_, rfl⟩
    obtain ⟨v4, hv4⟩ : ∃ v, v = gv l (a + 27) 15 := ⟨_, rfl⟩
    have p3' : gsV l (a + 12) [15, 15] = [v3, v4] := by rw [hv3, hv4]; exact p3
    have p1' : gsE l (a + 12) [15, 15] = 0 := p1
    have p2' : gsA l (a + 12) [15, 15] = a + 42 := p2
    rw [← hv3] at b3
    rw [← hv4] at b4
    have hp2 : v2 = 1 := by rw [hv2]; unfold partAt at hp; simpa using hp
    have eN : (nkAt l a).cells = [.int .i64 v0, .bool true, .int .i64 v3, .int .i64 v4] := by unfold nkAt NkV.cells; simp only [hp, if_true]; rw [hv0, hv3, hv4]
    have eM : moreAt l a = (v1 == 1) := by rw [hv1]; rfl
    have eA : nkA l a = a + 42 := by unfold nkA nkSz nkAt; simp [hp]
    rw [eN, eM, eA]
    have t22 : (v2 == 1) = true := by rw [hp2]; rfl
    refine Z.enter Try.func43 rfl Try.ntmps43 rfl rfl ?_
    refine Z.seq ?_
    refine Z.region ?_
    refine Z.le rfl trivial ?_
    refine Z.ZO.box rfl rfl (by rfl) rfl rfl hs ?_
    clear hs; intro g1 w1 hs
    refine Z.le rfl trivial ?_
    refine Z.ZO.alloc rfl rfl (by rfl) Try.zeroValue45 rfl hs ?_
    clear hs; intro g2 w2 hs
    refine Z.lb 1 rfl ?_
    refine Z.lnil ?_
    refine Z.only [1, 2] rfl ?_
    refine Z.nthen ?_
    refine Z.seq ?_
    refine Z.region ?_
    refine Z.l rfl rfl (by rfl) (Z.keepS hs) (Z.Yd.fieldA (m := 0) rfl (by kernel_rfl)) ?_
    refine Z.l rfl rfl (by rfl) (Z.keepS hs) (by first | exact Z.Yd.load rfl Try.isAgg74 (fun _ => Z.cellB (by first | ((repeat (first | exact List.mem_cons_self | refine List.mem_cons_of_mem _ ?_ | refine List.mem_append_right _ ?_)); done) | fail) rfl) | exact Z.Yd.load rfl Try.isAgg74 (fun _ => Z.cellO (by assumption) (by simp) (by assumption)) | fail "load 1.1") ?_
    refine Z.le rfl trivial ?_
    refine Z.ZO.litL (T' := 3) [(0, 1), (1, 1), (2, 1)] [.int .i64 0, .int .i64 0, .int .i64 0] rfl rfl (by rfl) rfl rfl (by intro W; kernel_rfl) hs ?_
    clear hs; intro g8 w8 hs
    replace hs : SX.St w M _ (RdL g T sv l a ++ [_, _, _]) := hs.rot (L1 := [_, _, _])
    refine Z.le rfl trivial ?_
    refine Z.ZO.call rfl rfl (by rfl) rfl rfl Try.call41 rfl (rgetall_any g T sv l a _ _ _ [10, 1, 1] _ hs.lend (by have h0 := Z.blk_lentj hs (j := 0) rfl; exact h0) rfl (by decide) hl (by omega) hb) ?_
    rintro v1_3 w1_3 ⟨so, rfl, hz⟩
    replace hs := hs.regain hz
    rw [q1']
    rw [q1', if_pos rfl, if_pos rfl, if_pos rfl, q2', q3'] at hs
    simp only [RdL, List.cons_append, List.nil_append] at hs
    obtain ⟨gso, cso, rfl, -, -⟩ := row_form (j := 2) hs rfl (by omega)
    refine Z.lb 2 rfl ?_
    refine Z.le rfl trivial ?_
    refine Z.ZO.call rfl rfl (by rfl) rfl rfl Try.call40 rfl (gots_ok _ _) ?_
    rintro v1_6 w1_6 ⟨rfl, hy⟩
    replace hs := hs.call hy
    clear hy
    try simp only [List.cons_append, List.nil_append, List.append_nil] at hs
    refine Z.lb 1 rfl ?_
    refine Z.lnil ?_
    refine Z.only [1, 2, 4] rfl ?_
    refine Z.nthen ?_
    refine Z.seq ?_
    refine Z.drawL [SX.Ent.row (.slice (some ⟨gso, 0, none⟩) 3 cso) 62 1 3 (ints .u64 [v0, v1, v2])] (fun j => j != 9) mixed hs ?_
    clear hs; intro wd2 hs
    refine Z.tb [0] (by kernel_rfl) rfl ⟨_, hs, by first | (simp; done) | exact fun e he => List.mem_append_right _ he⟩ rfl ?_
    refine Z.t 1 rfl rfl rfl (by rfl) (by kernel_rfl) ⟨_, hs, by first | (simp; done) | exact fun e he => List.mem_append_right _ he⟩ (Z.Yd.elem rfl rfl Try.underlying78 Try.sizeOf62 (fun hG => ⟨(by first | omega | (have hG' := Z.gh rfl hG; simp at hG'; omega)), (by first | omega | (have hG' := Z.gh rfl hG; simp at hG'; omega))⟩)) ?_
    refine Z.t 2 rfl rfl rfl (by rfl) (by kernel_rfl) ⟨_, hs, by first | (simp; done) | exact fun e he => List.mem_append_right _ he⟩ (Z.Yd.load rfl Try.isAgg62 (fun _ => Z.cellR (by first | ((repeat (first | exact List.mem_cons_self | refine List.mem_cons_of_mem _ ?_ | refine List.mem_append_right _ ?_)); done) | fail) rfl)) ?_
    refine Z.t 3 rfl rfl rfl (by rfl) (by kernel_rfl) ⟨_, hs, by first | (simp; done) | exact fun e he => List.mem_append_right _ he⟩ (Z.Yd.convI rfl ⟨_, Try.underlying62⟩ Try.underlying3 (fun hG => Z.wi64 (by first | omega | (have hG' := Z.gh rfl hG; simp at hG'; omega)))) ?_
    refine Z.tb [4] (by kernel_rfl) rfl ⟨_, hs, by first | (simp; done) | exact fun e he => List.mem_append_right _ he⟩ rfl ?_
    refine Z.t 5 rfl rfl rfl (by rfl) (by kernel_rfl) ⟨_, hs, by first | (simp; done) | exact fun e he => List.mem_append_right _ he⟩ (Z.Yd.elem rfl rfl Try.underlying78 Try.sizeOf62 (fun hG => ⟨(by first | omega | (have hG' := Z.gh rfl hG; simp at hG'; omega)), (by first | omega | (have hG' := Z.gh rfl hG; simp at hG'; omega))⟩)) ?_
    refine Z.t 6 rfl rfl rfl (by rfl) (by kernel_rfl) ⟨_, hs, by first | (simp; done) | exact fun e he => List.mem_append_right _ he⟩ (Z.Yd.load rfl Try.isAgg62 (fun _ => Z.cellR (by first | ((repeat (first | exact List.mem_cons_self | refine List.mem_cons_of_mem _ ?_ | refine List.mem_append_right _ ?_)); done) | fail) rfl)) ?_
    refine Z.tb [7] (by kernel_rfl) rfl ⟨_, hs, by first | (simp; done) | exact fun e he => List.mem_append_right _ he⟩ rfl ?_
    refine Z.t 8 rfl rfl rfl (by rfl) (by kernel_rfl) ⟨_, hs, by first | (simp; done) | exact fun e he => List.mem_append_right _ he⟩ (Z.Yd.buildL [(0, 1), (1, 1), (2, 1), (3, 1)] [.int .i64 0, .bool false, .int .i64 0, .int .i64 0] rfl rfl (by intro w; kernel_rfl)) ?_
    refine Z.tn 9 rfl rfl (by kernel_rfl) rfl trivial ?_
    first | refine Z.ZO.storeA rfl rfl hs rfl rfl (by kernel_rfl) (by first | (simp [Value.oneCell']; done) | (refine Z.all_one ?_; assumption)) (by first | exact SX.at0 | exact SX.at1 | exact SX.at2 | exact SX.at3 | exact SX.at4 | exact SX.at5 | exact Z.at6 | exact Z.at7 | exact Z.at8 | exact Z.at9 | exact Z.at10 | exact Z.at11 | exact Z.at12) (by rfl) ?_ | refine Z.ZO.storeP rfl rfl hs rfl rfl (by kernel_rfl) (by first | (simp [Value.oneCell']; done) | (refine Z.all_one ?_; assumption)) (by first | exact SX.at0 | exact SX.at1 | exact SX.at2 | exact SX.at3 | exact SX.at4 | exact SX.at5 | exact Z.at6 | exact Z.at7 | exact Z.at8 | exact Z.at9 | exact Z.at10 | exact Z.at11 | exact Z.at12) (by first | decide | (simp; done) | (simp; omega)) ?_ | refine Z.ZO.storePR rfl rfl hs rfl rfl (by kernel_rfl) (by first | (simp [Value.oneCell']; done) | (refine Z.all_one ?_; assumption)) (by first | exact SX.at0 | exact SX.at1 | exact SX.at2 | exact SX.at3 | exact SX.at4 | exact SX.at5 | exact Z.at6 | exact Z.at7 | exact Z.at8 | exact Z.at9 | exact Z.at10 | exact Z.at11 | exact Z.at12) (by first | decide | (simp; done) | (simp; omega)) ?_
    clear hs; intro ws hs
    simp only [Nat.zero_add, Nat.add_zero, Nat.reduceAdd, Int.reduceToNat, Nat.reduceMul, List.set_cons_zero, List.set_cons_succ, List.setIfInBounds_toArray] at hs
    try simp only [Z.putL, Nat.zero_add] at hs
    refine Z.tk (Dn := fun j => j != 9) (i := 9) (fun h => absurd h (by decide)) ?_
    refine Z.td (by rfl) (by kernel_rfl) ?_
    refine Z.only [1, 2, 4] rfl ?_
    rw [t22] at hs
    refine Z.nthen ?_
    refine Z.seq ?_
    refine Z.seq ?_
    refine Z.region ?_
    refine Z.l rfl rfl (by rfl) (Z.keepS hs) (Z.Yd.fieldA (m := 1) rfl (by kernel_rfl)) ?_
    refine Z.l rfl rfl (by rfl) (Z.keepS hs) (by first | exact Z.Yd.load rfl Try.isAgg4 (fun _ => Z.cellB (by first | ((repeat (first | exact List.mem_cons_self | refine List.mem_cons_of_mem _ ?_ | refine List.mem_append_right _ ?_)); done) | fail) rfl) | exact Z.Yd.load rfl Try.isAgg4 (fun _ => Z.cellO (by assumption) (by simp) (by assumption)) | fail "load 3.1") ?_
    refine Z.lnil ?_
    refine Z.only [1, 2, 4, 23] rfl ?_
    refine Z.nthen ?_
    refine Z.cond rfl (fun hc3 => ?_) (fun h => absurd h (by simp))
    refine Z.seq ?_
    refine Z.region ?_
    refine Z.l rfl rfl (by rfl) (Z.keepS hs) (Z.Yd.fieldA (m := 0) rfl (by kernel_rfl)) ?_
    refine Z.l rfl rfl (by rfl) (Z.keepS hs) (by first | exact Z.Yd.load rfl Try.isAgg74 (fun _ => Z.cellB (by first | ((repeat (first | exact List.mem_cons_self | refine List.mem_cons_of_mem _ ?_ | refine List.mem_append_right _ ?_)); done) | fail) rfl) | exact Z.Yd.load rfl Try.isAgg74 (fun _ => Z.cellO (by assumption) (by simp) (by assumption)) | fail "load 4.1") ?_
    refine Z.le rfl trivial ?_
    refine Z.ZO.litL (T' := 3) [(0, 1), (1, 1)] [.int .i64 0, .int .i64 0] rfl rfl (by rfl) rfl rfl (by intro W; kernel_rfl) hs ?_
    clear hs; intro g26 w26 hs
    replace hs : SX.St w M _ (RdL g T sv l (a + 12) ++ [_, _, _, _, _]) := hs.sel [1, 2, 0, 3, 4, 5, 6] (by decide)
    refine Z.le rfl trivial ?_
    refine Z.ZO.call rfl rfl (by rfl) rfl rfl Try.call41 rfl (rgetall_any g T sv l (a + 12) _ _ _ [15, 15] _ hs.lend (by have h0 := Z.blk_lentj hs (j := 0) rfl; exact h0) rfl (by decide) hl (by omega) hb) ?_
    rintro v4_3 w4_3 ⟨so2, rfl, hz⟩
    replace hs := hs.regain hz
    rw [p1']
    rw [p1', if_pos rfl, if_pos rfl, if_pos rfl, p2', p3'] at hs
    simp only [RdL, List.cons_append, List.nil_append] at hs
    obtain ⟨gst, cst, rfl, -, -⟩ := row_form (j := 2) hs rfl (by omega)
    refine Z.lb 2 rfl ?_
    refine Z.le rfl trivial ?_
    refine Z.ZO.call rfl rfl (by rfl) rfl rfl Try.call40 rfl (gots_ok _ _) ?_
    rintro v4_6 w4_6 ⟨rfl, hy⟩
    replace hs := hs.call hy
    clear hy
    try simp only [List.cons_append, List.nil_append, List.append_nil] at hs
    refine Z.lb 1 rfl ?_
    refine Z.lnil ?_
    refine Z.only [2, 4, 5] rfl ?_
    refine Z.nthen ?_
    refine Z.drawL [SX.Ent.row (.slice (some ⟨gst, 0, none⟩) 2 cst) 62 1 2 (ints .u64 [v3, v4])] (fun j => j != 11) mixed hs ?_
    clear hs; intro wd5 hs
    refine Z.tb [0] (by kernel_rfl) rfl ⟨_, hs, by first | (simp; done) | exact fun e he => List.mem_append_right _ he⟩ rfl ?_
    refine Z.t 1 rfl rfl rfl (by rfl) (by kernel_rfl) ⟨_, hs, by first | (simp; done) | exact fun e he => List.mem_append_right _ he⟩ (Z.Yd.elem rfl rfl Try.underlying78 Try.sizeOf62 (fun hG => ⟨(by first | omega | (have hG' := Z.gh rfl hG; simp at hG'; omega)), (by first | omega | (have hG' := Z.gh rfl hG; simp at hG'; omega))⟩)) ?_
    refine Z.t 2 rfl rfl rfl (by rfl) (by kernel_rfl) ⟨_, hs, by first | (simp; done) | exact fun e he => List.mem_append_right _ he⟩ (Z.Yd.load rfl Try.isAgg62 (fun _ => Z.cellR (by first | ((repeat (first | exact List.mem_cons_self | refine List.mem_cons_of_mem _ ?_ | refine List.mem_append_right _ ?_)); done) | fail) rfl)) ?_
    refine Z.t 3 rfl rfl rfl (by rfl) (by kernel_rfl) ⟨_, hs, by first | (simp; done) | exact fun e he => List.mem_append_right _ he⟩ (Z.Yd.convI rfl ⟨_, Try.underlying62⟩ Try.underlying3 (fun hG => Z.wi64 (by first | omega | (have hG' := Z.gh rfl hG; simp at hG'; omega)))) ?_
    refine Z.tb [4] (by kernel_rfl) rfl ⟨_, hs, by first | (simp; done) | exact fun e he => List.mem_append_right _ he⟩ rfl ?_
    refine Z.t 5 rfl rfl rfl (by rfl) (by kernel_rfl) ⟨_, hs, by first | (simp; done) | exact fun e he => List.mem_append_right _ he⟩ (Z.Yd.elem rfl rfl Try.underlying78 Try.sizeOf62 (fun hG => ⟨(by first | omega | (have hG' := Z.gh rfl hG; simp at hG'; omega)), (by first | omega | (have hG' := Z.gh rfl hG; simp at hG'; omega))⟩)) ?_
    refine Z.t 6 rfl rfl rfl (by rfl) (by kernel_rfl) ⟨_, hs, by first | (simp; done) | exact fun e he => List.mem_append_right _ he⟩ (Z.Yd.load rfl Try.isAgg62 (fun _ => Z.cellR (by first | ((repeat (first | exact List.mem_cons_self | refine List.mem_cons_of_mem _ ?_ | refine List.mem_append_right _ ?_)); done) | fail) rfl)) ?_
    refine Z.t 7 rfl rfl rfl (by rfl) (by kernel_rfl) ⟨_, hs, by first | (simp; done) | exact fun e he => List.mem_append_right _ he⟩ (Z.Yd.convI rfl ⟨_, Try.underlying62⟩ Try.underlying3 (fun hG => Z.wi64 (by first | omega | (have hG' := Z.gh rfl hG; simp at hG'; omega)))) ?_
    refine Z.t 8 rfl rfl rfl (by rfl) (by kernel_rfl) ⟨_, hs, by first | (simp; done) | exact fun e he => List.mem_append_right _ he⟩ (Z.Yd.fieldA (m := 2) rfl (by kernel_rfl)) ?_
    refine Z.tn 9 rfl rfl (by kernel_rfl) rfl trivial ?_
    first | refine Z.ZO.store rfl rfl hs Try.sizeOf3 rfl rfl rfl (by first | exact SX.at0 | exact SX.at1 | exact SX.at2 | exact SX.at3 | exact SX.at4 | exact SX.at5 | exact Z.at6 | exact Z.at7 | exact Z.at8 | exact Z.at9 | exact Z.at10 | exact Z.at11 | exact Z.at12) (by first | (simp; done) | (simp; omega)) ?_ | refine Z.ZO.storeR rfl rfl hs Try.sizeOf3 rfl rfl rfl (by first | exact SX.at0 | exact SX.at1 | exact SX.at2 | exact SX.at3 | exact SX.at4 | exact SX.at5 | exact Z.at6 | exact Z.at7 | exact Z.at8 | exact Z.at9 | exact Z.at10 | exact Z.at11 | exact Z.at12) (by first | omega | (simp [ints_length]; done) | (simp [ints_length]; omega)) ?_
    clear hs; intro ws hs
    simp only [Nat.zero_add, Nat.add_zero, Nat.reduceAdd, Int.reduceToNat, Nat.reduceMul, List.set_cons_zero, List.set_cons_succ, List.setIfInBounds_toArray] at hs
    refine Z.tk (Dn := fun j => j != 11) (i := 9) (fun _ => ⟨_, hs, by first | (simp; done) | exact fun e he => List.mem_append_right _ he⟩) ?_
    refine Z.t 10 rfl rfl rfl (by rfl) (by kernel_rfl) ⟨_, hs, by first | (simp; done) | exact fun e he => List.mem_append_right _ he⟩ (Z.Yd.fieldA (m := 3) rfl (by kernel_rfl)) ?_
    refine Z.tn 11 rfl rfl (by kernel_rfl) rfl trivial ?_
    first | refine Z.ZO.store rfl rfl hs Try.sizeOf3 rfl rfl rfl (by first | exact SX.at0 | exact SX.at1 | exact SX.at2 | exact SX.at3 | exact SX.at4 | exact SX.at5 | exact Z.at6 | exact Z.at7 | exact Z.at8 | exact Z.at9 | exact Z.at10 | exact Z.at11 | exact Z.at12) (by first | (simp; done) | (simp; omega)) ?_ | refine Z.ZO.storeR rfl rfl hs Try.sizeOf3 rfl rfl rfl (by first | exact SX.at0 | exact SX.at1 | exact SX.at2 | exact SX.at3 | exact SX.at4 | exact SX.at5 | exact Z.at6 | exact Z.at7 | exact Z.at8 | exact Z.at9 | exact Z.at10 | exact Z.at11 | exact Z.at12) (by first | omega | (simp [ints_length]; done) | (simp [ints_length]; omega)) ?_
    clear hs; intro ws hs
    simp only [Nat.zero_add, Nat.add_zero, Nat.reduceAdd, Int.reduceToNat, Nat.reduceMul, List.set_cons_zero, List.set_cons_succ, List.setIfInBounds_toArray] at hs
    refine Z.tk (Dn := fun j => j != 11) (i := 11) (fun h => absurd h (by decide)) ?_
    refine Z.td (by rfl) (by kernel_rfl) ?_
    refine Z.only [2, 4] rfl ?_
    refine Z.nthen ?_
    refine Z.seq ?_
    refine Z.drawK (fun _ => true) mixed hs ?_
    clear hs; intro wd6 hs
    refine Z.t 0 rfl rfl rfl (by rfl) (by kernel_rfl) ⟨_, hs, by first | (simp; done) | exact fun e he => List.mem_append_right _ he⟩ (by first | exact Z.Yd.loadA _ rfl Try.isAgg45 (fun _ => Z.cellsB (by first | ((repeat (first | exact List.mem_cons_self | refine List.mem_cons_of_mem _ ?_ | refine List.mem_append_right _ ?_)); done) | fail)) (by exact Try.sizeOf45) | fail "load 6.0") ?_
    refine Z.tb [1] (by kernel_rfl) rfl ⟨_, hs, by first | (simp; done) | exact fun e he => List.mem_append_right _ he⟩ rfl ?_
    refine Z.t 2 rfl rfl rfl (by rfl) (by kernel_rfl) ⟨_, hs, by first | (simp; done) | exact fun e he => List.mem_append_right _ he⟩ (Z.Yd.elem rfl rfl Try.underlying78 Try.sizeOf62 (fun hG => ⟨(by first | omega | (have hG' := Z.gh rfl hG; simp at hG'; omega)), (by first | omega | (have hG' := Z.gh rfl hG; simp at hG'; omega))⟩)) ?_
    refine Z.t 3 rfl rfl rfl (by rfl) (by kernel_rfl) ⟨_, hs, by first | (simp; done) | exact fun e he => List.mem_append_right _ he⟩ (Z.Yd.load rfl Try.isAgg62 (fun _ => Z.cellR (by first | ((repeat (first | exact List.mem_cons_self | refine List.mem_cons_of_mem _ ?_ | refine List.mem_append_right _ ?_)); done) | fail) rfl)) ?_
    refine Z.tb [4] (by kernel_rfl) rfl ⟨_, hs, by first | (simp; done) | exact fun e he => List.mem_append_right _ he⟩ rfl ?_
    refine Z.tn 5 rfl rfl (by kernel_rfl) rfl trivial ?_
    first | refine Z.ZO.storeA rfl rfl hs rfl rfl (by kernel_rfl) (by first | (simp [Value.oneCell']; done) | (refine Z.all_one ?_; assumption)) (by first | exact SX.at0 | exact SX.at1 | exact SX.at2 | exact SX.at3 | exact SX.at4 | exact SX.at5 | exact Z.at6 | exact Z.at7 | exact Z.at8 | exact Z.at9 | exact Z.at10 | exact Z.at11 | exact Z.at12) (by rfl) ?_ | refine Z.ZO.storeP rfl rfl hs rfl rfl (by kernel_rfl) (by first | (simp [Value.oneCell']; done) | (refine Z.all_one ?_; assumption)) (by first | exact SX.at0 | exact SX.at1 | exact SX.at2 | exact SX.at3 | exact SX.at4 | exact SX.at5 | exact Z.at6 | exact Z.at7 | exact Z.at8 | exact Z.at9 | exact Z.at10 | exact Z.at11 | exact Z.at12) (by first | decide | (simp; done) | (simp; omega)) ?_ | refine Z.ZO.storePR rfl rfl hs rfl rfl (by kernel_rfl) (by first | (simp [Value.oneCell']; done) | (refine Z.all_one ?_; assumption)) (by first | exact SX.at0 | exact SX.at1 | exact SX.at2 | exact SX.at3 | exact SX.at4 | exact SX.at5 | exact Z.at6 | exact Z.at7 | exact Z.at8 | exact Z.at9 | exact Z.at10 | exact Z.at11 | exact Z.at12) (by first | decide | (simp; done) | (simp; omega)) ?_
    clear hs; intro ws hs
    simp only [Nat.zero_add, Nat.add_zero, Nat.reduceAdd, Int.reduceToNat, Nat.reduceMul, List.set_cons_zero, List.set_cons_succ, List.setIfInBounds_toArray] at hs
    try simp only [Z.putL, Nat.zero_add] at hs
    refine Z.tk (Dn := fun _ => true) (i := 5) (fun _ => ⟨_, hs, by first | (simp; done) | exact fun e he => List.mem_append_right _ he⟩) ?_
    refine Z.tb [6] (by kernel_rfl) rfl ⟨_, hs, by first | (simp; done) | exact fun e he => List.mem_append_right _ he⟩ rfl ?_
    refine Z.td (by rfl) (by kernel_rfl) ?_
    refine Z.only [2, 3] rfl ?_
    refine Z.nthen ?_
    refine Z.ret ?_
    -- ret#0
    refine Z.out2 (by exact ⟨⟨_, rfl, Z.rvcA hs Try.isAgg45 (by first | ((repeat (first | exact List.mem_cons_self | refine List.mem_cons_of_mem _ ?_ | refine List.mem_append_right _ ?_)); done) | fail) (by exact Try.sizeOf45)⟩, rfl, trivial⟩) ?_
    exact ⟨_, rfl, rfl, hs.sel [0, 1] (by decide)⟩
  · have hp2 : (v2 == 1) = false := by rw [hv2]; unfold partAt at hp; simpa using hp
    have hpf : partAt l a = false := by simpa using hp
    have eN : (nkAt l a).cells = [.int .i64 v0, .bool false, .int .i64 0, .int .i64 0] := by unfold nkAt NkV.cells; simp only [hpf]; rw [hv0]; rfl
    have eM : moreAt l a = (v1 == 1) := by rw [hv1]; rfl
    have eA : nkA l a = a + 12 := by unfold nkA nkSz nkAt; simp [hpf]
    rw [eN, eM, eA]
    refine Z.enter Try.func43 rfl Try.ntmps43 rfl rfl ?_
    refine Z.seq ?_
    refine Z.region ?_
    refine Z.le rfl trivial ?_
    refine Z.ZO.box rfl rfl (by rfl) rfl rfl hs ?_
    clear hs; intro g1 w1 hs
    refine Z.le rfl trivial ?_
    refine Z.ZO.alloc rfl rfl (by rfl) Try.zeroValue45 rfl hs ?_
    clear hs; intro g2 w2 hs
    refine Z.lb 1 rfl ?_
    refine Z.lnil ?_
    refine Z.only [1, 2] rfl ?_
    refine Z.nthen ?_
    refine Z.seq ?_
    refine Z.region ?_
    refine Z.l rfl rfl (by rfl) (Z.keepS hs) (Z.Yd.fieldA (m := 0) rfl (by kernel_rfl)) ?_
    refine Z.l rfl rfl (by rfl) (Z.keepS hs) (by first | exact Z.Yd.load rfl Try.isAgg74 (fun _ => Z.cellB (by first | ((repeat (first | exact List.mem_cons_self | refine List.mem_cons_of_mem _ ?_ | refine List.mem_append_right _ ?_)); done) | fail) rfl) | exact Z.Yd.load rfl Try.isAgg74 (fun _ => Z.cellO (by assumption) (by simp) (by assumption)) | fail "load 1.1") ?_
    refine Z.le rfl trivial ?_
    refine Z.ZO.litL (T' := 3) [(0, 1), (1, 1), (2, 1)] [.int .i64 0, .int .i64 0, .int .i64 0] rfl rfl (by rfl) rfl rfl (by intro W; kernel_rfl) hs ?_
    clear hs; intro g8 w8 hs
    replace hs : SX.St w M _ (RdL g T sv l a ++ [_, _, _]) := hs.rot (L1 := [_, _, _])
    refine Z.le rfl trivial ?_
    refine Z.ZO.call rfl rfl (by rfl) rfl rfl Try.call41 rfl (rgetall_any g T sv l a _ _ _ [10, 1, 1] _ hs.lend (by have h0 := Z.blk_lentj hs (j := 0) rfl; exact h0) rfl (by decide) hl (by omega) hb) ?_
    rintro v1_3 w1_3 ⟨so, rfl, hz⟩
    replace hs := hs.regain hz
    rw [q1']
    rw [q1', if_pos rfl, if_pos rfl, if_pos rfl, q2', q3'] at hs
    simp only [RdL, List.cons_append, List.nil_append] at hs
    obtain ⟨gso, cso, rfl, -, -⟩ := row_form (j := 2) hs rfl (by omega)
    refine Z.lb 2 rfl ?_
    refine Z.le rfl trivial ?_
    refine Z.ZO.call rfl rfl (by rfl) rfl rfl Try.call40 rfl (gots_ok _ _) ?_
    rintro v1_6 w1_6 ⟨rfl, hy⟩
    replace hs := hs.call hy
    clear hy
    try simp only [List.cons_append, List.nil_append, List.append_nil] at hs
    refine Z.lb 1 rfl ?_
    refine Z.lnil ?_
    refine Z.only [1, 2, 4] rfl ?_
    refine Z.nthen ?_
    refine Z.seq ?_
    refine Z.drawL [SX.Ent.row (.slice (some ⟨gso, 0, none⟩) 3 cso) 62 1 3 (ints .u64 [v0, v1, v2])] (fun j => j != 9) mixed hs ?_
    clear hs; intro wd2 hs
    refine Z.tb [0] (by kernel_rfl) rfl ⟨_, hs, by first | (simp; done) | exact fun e he => List.mem_append_right _ he⟩ rfl ?_
    refine Z.t 1 rfl rfl rfl (by rfl) (by kernel_rfl) ⟨_, hs, by first | (simp; done) | exact fun e he => List.mem_append_right _ he⟩ (Z.Yd.elem rfl rfl Try.underlying78 Try.sizeOf62 (fun hG => ⟨(by first | omega | (have hG' := Z.gh rfl hG; simp at hG'; omega)), (by first | omega | (have hG' := Z.gh rfl hG; simp at hG'; omega))⟩)) ?_
    refine Z.t 2 rfl rfl rfl (by rfl) (by kernel_rfl) ⟨_, hs, by first | (simp; done) | exact fun e he => List.mem_append_right _ he⟩ (Z.Yd.load rfl Try.isAgg62 (fun _ => Z.cellR (by first | ((repeat (first | exact List.mem_cons_self | refine List.mem_cons_of_mem _ ?_ | refine List.mem_append_right _ ?_)); done) | fail) rfl)) ?_
    refine Z.t 3 rfl rfl rfl (by rfl) (by kernel_rfl) ⟨_, hs, by first | (simp; done) | exact fun e he => List.mem_append_right _ he⟩ (Z.Yd.convI rfl ⟨_, Try.underlying62⟩ Try.underlying3 (fun hG => Z.wi64 (by first | omega | (have hG' := Z.gh rfl hG; simp at hG'; omega)))) ?_
    refine Z.tb [4] (by kernel_rfl) rfl ⟨_, hs, by first | (simp; done) | exact fun e he => List.mem_append_right _ he⟩ rfl ?_
    refine Z.t 5 rfl rfl rfl (by rfl) (by kernel_rfl) ⟨_, hs, by first | (simp; done) | exact fun e he => List.mem_append_right _ he⟩ (Z.Yd.elem rfl rfl Try.underlying78 Try.sizeOf62 (fun hG => ⟨(by first | omega | (have hG' := Z.gh rfl hG; simp at hG'; omega)), (by first | omega | (have hG' := Z.gh rfl hG; simp at hG'; omega))⟩)) ?_
    refine Z.t 6 rfl rfl rfl (by rfl) (by kernel_rfl) ⟨_, hs, by first | (simp; done) | exact fun e he => List.mem_append_right _ he⟩ (Z.Yd.load rfl Try.isAgg62 (fun _ => Z.cellR (by first | ((repeat (first | exact List.mem_cons_self | refine List.mem_cons_of_mem _ ?_ | refine List.mem_append_right _ ?_)); done) | fail) rfl)) ?_
    refine Z.tb [7] (by kernel_rfl) rfl ⟨_, hs, by first | (simp; done) | exact fun e he => List.mem_append_right _ he⟩ rfl ?_
    refine Z.t 8 rfl rfl rfl (by rfl) (by kernel_rfl) ⟨_, hs, by first | (simp; done) | exact fun e he => List.mem_append_right _ he⟩ (Z.Yd.buildL [(0, 1), (1, 1), (2, 1), (3, 1)] [.int .i64 0, .bool false, .int .i64 0, .int .i64 0] rfl rfl (by intro w; kernel_rfl)) ?_
    refine Z.tn 9 rfl rfl (by kernel_rfl) rfl trivial ?_
    first | refine Z.ZO.storeA rfl rfl hs rfl rfl (by kernel_rfl) (by first | (simp [Value.oneCell']; done) | (refine Z.all_one ?_; assumption)) (by first | exact SX.at0 | exact SX.at1 | exact SX.at2 | exact SX.at3 | exact SX.at4 | exact SX.at5 | exact Z.at6 | exact Z.at7 | exact Z.at8 | exact Z.at9 | exact Z.at10 | exact Z.at11 | exact Z.at12) (by rfl) ?_ | refine Z.ZO.storeP rfl rfl hs rfl rfl (by kernel_rfl) (by first | (simp [Value.oneCell']; done) | (refine Z.all_one ?_; assumption)) (by first | exact SX.at0 | exact SX.at1 | exact SX.at2 | exact SX.at3 | exact SX.at4 | exact SX.at5 | exact Z.at6 | exact Z.at7 | exact Z.at8 | exact Z.at9 | exact Z.at10 | exact Z.at11 | exact Z.at12) (by first | decide | (simp; done) | (simp; omega)) ?_ | refine Z.ZO.storePR rfl rfl hs rfl rfl (by kernel_rfl) (by first | (simp [Value.oneCell']; done) | (refine Z.all_one ?_; assumption)) (by first | exact SX.at0 | exact SX.at1 | exact SX.at2 | exact SX.at3 | exact SX.at4 | exact SX.at5 | exact Z.at6 | exact Z.at7 | exact Z.at8 | exact Z.at9 | exact Z.at10 | exact Z.at11 | exact Z.at12) (by first | decide | (simp; done) | (simp; omega)) ?_
    clear hs; intro ws hs
    simp only [Nat.zero_add, Nat.add_zero, Nat.reduceAdd, Int.reduceToNat, Nat.reduceMul, List.set_cons_zero, List.set_cons_succ, List.setIfInBounds_toArray] at hs
    try simp only [Z.putL, Nat.zero_add] at hs
    refine Z.tk (Dn := fun j => j != 9) (i := 9) (fun h => absurd h (by decide)) ?_
    refine Z.td (by rfl) (by kernel_rfl) ?_
    refine Z.only [1, 2, 4] rfl ?_
    rw [hp2] at hs
    refine Z.nthen ?_
    refine Z.seq ?_
    refine Z.seq ?_
    refine Z.region ?_
    refine Z.l rfl rfl (by rfl) (Z.keepS hs) (Z.Yd.fieldA (m := 1) rfl (by kernel_rfl)) ?_
    refine Z.l rfl rfl (by rfl) (Z.keepS hs) (by first | exact Z.Yd.load rfl Try.isAgg4 (fun _ => Z.cellB (by first | ((repeat (first | exact List.mem_cons_self | refine List.mem_cons_of_mem _ ?_ | refine List.mem_append_right _ ?_)); done) | fail) rfl) | exact Z.Yd.load rfl Try.isAgg4 (fun _ => Z.cellO (by assumption) (by simp) (by assumption)) | fail "load 3.1") ?_
    refine Z.lnil ?_
    refine Z.only [1, 2, 4, 23] rfl ?_
    refine Z.nthen ?_
    refine Z.cond rfl (fun h => absurd h (by simp)) (fun hc3 => ?_)
    refine Z.skip ?_
    refine Z.nthen ?_
    refine Z.seq ?_
    refine Z.drawK (fun _ => true) mixed hs ?_
    clear hs; intro wd6 hs
    refine Z.t 0 rfl rfl rfl (by rfl) (by kernel_rfl) ⟨_, hs, by first | (simp; done) | exact fun e he => List.mem_append_right _ he⟩ (by first | exact Z.Yd.loadA _ rfl Try.isAgg45 (fun _ => Z.cellsB (by first | ((repeat (first | exact List.mem_cons_self | refine List.mem_cons_of_mem _ ?_ | refine List.mem_append_right _ ?_)); done) | fail)) (by exact Try.sizeOf45) | fail "load 6.0") ?_
    refine Z.tb [1] (by kernel_rfl) rfl ⟨_, hs, by first | (simp; done) | exact fun e he => List.mem_append_right _ he⟩ rfl ?_
    refine Z.t 2 rfl rfl rfl (by rfl) (by kernel_rfl) ⟨_, hs, by first | (simp; done) | exact fun e he => List.mem_append_right _ he⟩ (Z.Yd.elem rfl rfl Try.underlying78 Try.sizeOf62 (fun hG => ⟨(by first | omega | (have hG' := Z.gh rfl hG; simp at hG'; omega)), (by first | omega | (have hG' := Z.gh rfl hG; simp at hG'; omega))⟩)) ?_
    refine Z.t 3 rfl rfl rfl (by rfl) (by kernel_rfl) ⟨_, hs, by first | (simp; done) | exact fun e he => List.mem_append_right _ he⟩ (Z.Yd.load rfl Try.isAgg62 (fun _ => Z.cellR (by first | ((repeat (first | exact List.mem_cons_self | refine List.mem_cons_of_mem _ ?_ | refine List.mem_append_right _ ?_)); done) | fail) rfl)) ?_
    refine Z.tb [4] (by kernel_rfl) rfl ⟨_, hs, by first | (simp; done) | exact fun e he => List.mem_append_right _ he⟩ rfl ?_
    refine Z.tn 5 rfl rfl (by kernel_rfl) rfl trivial ?_
    first | refine Z.ZO.storeA rfl rfl hs rfl rfl (by kernel_rfl) (by first | (simp [Value.oneCell']; done) | (refine Z.all_one ?_; assumption)) (by first | exact SX.at0 | exact SX.at1 | exact SX.at2 | exact SX.at3 | exact SX.at4 | exact SX.at5 | exact Z.at6 | exact Z.at7 | exact Z.at8 | exact Z.at9 | exact Z.at10 | exact Z.at11 | exact Z.at12) (by rfl) ?_ | refine Z.ZO.storeP rfl rfl hs rfl rfl (by kernel_rfl) (by first | (simp [Value.oneCell']; done) | (refine Z.all_one ?_; assumption)) (by first | exact SX.at0 | exact SX.at1 | exact SX.at2 | exact SX.at3 | exact SX.at4 | exact SX.at5 | exact Z.at6 | exact Z.at7 | exact Z.at8 | exact Z.at9 | exact Z.at10 | exact Z.at11 | exact Z.at12) (by first | decide | (simp; done) | (simp; omega)) ?_ | refine Z.ZO.storePR rfl rfl hs rfl rfl (by kernel_rfl) (by first | (simp [Value.oneCell']; done) | (refine Z.all_one ?_; assumption)) (by first | exact SX.at0 | exact SX.at1 | exact SX.at2 | exact SX.at3 | exact SX.at4 | exact SX.at5 | exact Z.at6 | exact Z.at7 | exact Z.at8 | exact Z.at9 | exact Z.at10 | exact Z.at11 | exact Z.at12) (by first | decide | (simp; done) | (simp; omega)) ?_
    clear hs; intro ws hs
    simp only [Nat.zero_add, Nat.add_zero, Nat.reduceAdd, Int.reduceToNat, Nat.reduceMul, List.set_cons_zero, List.set_cons_succ, List.setIfInBounds_toArray] at hs
    try simp only [Z.putL, Nat.zero_add] at hs
    refine Z.tk (Dn := fun _ => true) (i := 5) (fun _ => ⟨_, hs, by first | (simp; done) | exact fun e he => List.mem_append_right _ he⟩) ?_
    refine Z.tb [6] (by kernel_rfl) rfl ⟨_, hs, by first | (simp; done) | exact fun e he => List.mem_append_right _ he⟩ rfl ?_
    refine Z.td (by rfl) (by kernel_rfl) ?_
    refine Z.only [2, 3] rfl ?_
    refine Z.nthen ?_
    refine Z.ret ?_
    -- ret#0
    refine Z.out2 (by exact ⟨⟨_, rfl, Z.rvcA hs Try.isAgg45 (by first | ((repeat (first | exact List.mem_cons_self | refine List.mem_cons_of_mem _ ?_ | refine List.mem_append_right _ ?_)); done) | fail) (by exact Try.sizeOf45)⟩, rfl, trivial⟩) ?_
    exact ⟨_, rfl, rfl, hs.sel [0, 1] (by decide)⟩
end Go.Proofs.Ytcieclifabbkjaa

/- Status reports: an entry that is not there; what is decoded. -/
namespace Go.Proofs.Ytcieclifabbkjaa
open Go.RowKit
set_option linter.unusedSimpArgs false
set_option linter.unusedVariables false
--newlaws

set_option maxRecDepth 100000 in
theorem entry_bad (g T : Nat) (sv : Value) (l : List Int) (a : Nat) (w : World) (hs : SX.St w (SX.idsOf (RdL g T sv l a)) w (RdL g T sv l a)) (hl : l.length ≤ 1000000) (hb : ∀ x ∈ l, 0 ≤ x ∧ x < 256) (ha : a ≤ 8 * l.length) (h : nkE l a ≠ 0) :
    Calls Try.prog 43 #[.agg #[.pointer (some ⟨g, 0, none⟩)]] w (PanE 5 fun w' => ∃ a', SX.St w (SX.idsOf (RdL g T sv l a)) w' (RdL g T sv l a')) := by
  generalize hM : SX.idsOf (RdL g T sv l a) = M at *
  by_cases h12 : a + 12 ≤ 8 * l.length
  · have hp : partAt l a = true := by
      by_cases hp : partAt l a = true
      · exact hp
      · unfold nkE at h; rw [if_pos h12, if_neg hp] at h; simp at h
    have h42 : ¬ a + 42 ≤ 8 * l.length := by unfold nkE at h; rw [if_pos h12, if_pos hp] at h; intro h42; rw [if_pos h42] at h; simp at h
    have b0 := gv_bd l a 10
    have b1 := gv_bd l (a + 10) 1
    have b2 := gv_bd l (a + 11) 1
    simp only [Nat.reducePow] at b0 b1 b2
    obtain ⟨q1, q2, q3⟩ := gs_ok (l := l) [10, 1, 1] a (by simp) h12
    obtain ⟨v0, hv0⟩ : ∃ v, v = gv l a 10 := ⟨_, rfl⟩
    obtain ⟨v1, hv1⟩ : ∃ v, v = gv l (a + 10) 1 := ⟨_, rfl⟩
    obtain ⟨v2, hv2⟩ : ∃ v, v = gv l (a + 11) 1 := ⟨_, rfl⟩
    have q3' : gsV l a [10, 1, 1] = [v0, v1, v2] := by rw [hv0, hv1, hv2]; exact q3
    have q1' : gsE l a [10, 1, 1] = 0 := q1
    have q2' : gsA l a [10, 1, 1] = a + 12 := q2
    rw [← hv0] at b0
    rw [← hv1] at b1
    rw [← hv2] at b2
    have p1' : gsE l (a + 12) [15, 15] = 5 := gs_bad (l := l) [15, 15] (a + 12) (by simp) h12 (by simp; omega)
    have hp2 : v2 = 1 := by rw [hv2]; unfold partAt at hp; simpa using hp
    have t22 : (v2 == 1) = true := by rw [hp2]; rfl
    refine Z.enter Try.func43 rfl Try.ntmps43 rfl rfl ?_
    refine Z.seq ?_
    refine Z.region ?_
    refine Z.le rfl trivial ?_
    refine Z.ZO.box rfl rfl (by rfl) rfl rfl hs ?_
    clear hs; intro g1 w1 hs
    refine Z.le rfl trivial ?_
    refine Z.ZO.alloc rfl rfl (by rfl) Try.zeroValue45 rfl hs ?_
    clear hs; intro g2 w2 hs
    refine Z.lb 1 rfl ?_
    refine Z.lnil ?_
    refine Z.only [1, 2] rfl ?_
    refine Z.nthen ?_
    refine Z.seq ?_
    refine Z.region ?_
    refine Z.l rfl rfl (by rfl) (Z.keepS hs) (Z.Yd.fieldA (m := 0) rfl (by kernel_rfl)) ?_
    refine Z.l rfl rfl (by rfl) (Z.keepS hs) (by first | exact Z.Yd.load rfl Try.isAgg74 (fun _ => Z.cellB (by first | ((repeat (first | exact List.mem_cons_self | refine List.mem_cons_of_mem _ ?_ | refine List.mem_append_right _ ?_)); done) | fail) rfl) | exact Z.Yd.load rfl Try.isAgg74 (fun _ => Z.cellO (by assumption) (by simp) (by assumption)) | fail "load 1.1") ?_
    refine Z.le rfl trivial ?_
    refine Z.ZO.litL (T' := 3) [(0, 1), (1, 1), (2, 1)] [.int .i64 0, .int .i64 0, .int .i64 0] rfl rfl (by rfl) rfl rfl (by intro W; kernel_rfl) hs ?_
    clear hs; intro g8 w8 hs
    replace hs : SX.St w M _ (RdL g T sv l a ++ [_, _, _]) := hs.rot (L1 := [_, _, _])
    refine Z.le rfl trivial ?_
    refine Z.ZO.call rfl rfl (by rfl) rfl rfl Try.call41 rfl (rgetall_any g T sv l a _ _ _ [10, 1, 1] _ hs.lend (by have h0 := Z.blk_lentj hs (j := 0) rfl; exact h0) rfl (by decide) hl (by omega) hb) ?_
    rintro v1_3 w1_3 ⟨so, rfl, hz⟩
    replace hs := hs.regain hz
    rw [q1']
    rw [q1', if_pos rfl, if_pos rfl, if_pos rfl, q2', q3'] at hs
    simp only [RdL, List.cons_append, List.nil_append] at hs
    obtain ⟨gso, cso, rfl, -, -⟩ := row_form (j := 2) hs rfl (by omega)
    refine Z.lb 2 rfl ?_
    refine Z.le rfl trivial ?_
    refine Z.ZO.call rfl rfl (by rfl) rfl rfl Try.call40 rfl (gots_ok _ _) ?_
    rintro v1_6 w1_6 ⟨rfl, hy⟩
    replace hs := hs.call hy
    clear hy
    try simp only [List.cons_append, List.nil_append, List.append_nil] at hs
    refine Z.lb 1 rfl ?_
    refine Z.lnil ?_
    refine Z.only [1, 2, 4] rfl ?_
    refine Z.nthen ?_
    refine Z.seq ?_
    refine Z.drawL [SX.Ent.row (.slice (some ⟨gso, 0, none⟩) 3 cso) 62 1 3 (ints .u64 [v0, v1, v2])] (fun j => j != 9) mixed hs ?_
    clear hs; intro wd2 hs
    refine Z.tb [0] (by kernel_rfl) rfl ⟨_, hs, by first | (simp; done) | exact fun e he => List.mem_append_right _ he⟩ rfl ?_
    refine Z.t 1 rfl rfl rfl (by rfl) (by kernel_rfl) ⟨_, hs, by first | (simp; done) | exact fun e he => List.mem_append_right _ he⟩ (Z.Yd.elem rfl rfl Try.underlying78 Try.sizeOf62 (fun hG => ⟨(by first | omega | (have hG' := Z.gh rfl hG; simp at hG'; omega)), (by first | omega | (have hG' := Z.gh rfl hG; simp at hG'; omega))⟩)) ?_
    refine Z.t 2 rfl rfl rfl (by rfl) (by kernel_rfl) ⟨_, hs, by first | (simp; done) | exact fun e he => List.mem_append_right _ he⟩ (Z.Yd.load rfl Try.isAgg62 (fun _ => Z.cellR (by first | ((repeat (first | exact List.mem_cons_self | refine List.mem_cons_of_mem _ ?_ | refine List.mem_append_right _ ?_)); done) | fail) rfl)) ?_
    refine Z.t 3 rfl rfl rfl (by rfl) (by kernel_rfl) ⟨_, hs, by first | (simp; done) | exact fun e he => List.mem_append_right _ he⟩ (Z.Yd.convI rfl ⟨_, Try.underlying62⟩ Try.underlying3 (fun hG => Z.wi64 (by first | omega | (have hG' := Z.gh rfl hG; simp at hG'; omega)))) ?_
    refine Z.tb [4] (by kernel_rfl) rfl ⟨_, hs, by first | (simp; done) | exact fun e he => List.mem_append_right _ he⟩ rfl ?_
    refine Z.t 5 rfl rfl rfl (by rfl) (by kernel_rfl) ⟨_, hs, by first | (simp; done) | exact fun e he => List.mem_append_right _ he⟩ (Z.Yd.elem rfl rfl Try.underlying78 Try.sizeOf62 (fun hG => ⟨(by first | omega | (have hG' := Z.gh rfl hG; simp at hG'; omega)), (by first | omega | (have hG' := Z.gh rfl hG; simp at hG'; omega))⟩)) ?_
    refine Z.t 6 rfl rfl rfl (by rfl) (by kernel_rfl) ⟨_, hs, by first | (simp; done) | exact fun e he => List.mem_append_right _ he⟩ (Z.Yd.load rfl Try.isAgg62 (fun _ => Z.cellR (by first | ((repeat (first | exact List.mem_cons_self | refine List.mem_cons_of_mem _ ?_ | refine List.mem_append_right _ ?_)); done) | fail) rfl)) ?_
    refine Z.tb [7] (by kernel_rfl) rfl ⟨_, hs, by first | (simp; done) | exact fun e he => List.mem_append_right _ he⟩ rfl ?_
    refine Z.t 8 rfl rfl rfl (by rfl) (by kernel_rfl) ⟨_, hs, by first | (simp; done) | exact fun e he => List.mem_append_right _ he⟩ (Z.Yd.buildL [(0, 1), (1, 1), (2, 1), (3, 1)] [.int .i64 0, .bool false, .int .i64 0, .int .i64 0] rfl rfl (by intro w; kernel_rfl)) ?_
    refine Z.tn 9 rfl rfl (by kernel_rfl) rfl trivial ?_
    first | refine Z.ZO.storeA rfl rfl hs rfl rfl (by kernel_rfl) (by first | (simp [Value.oneCell']; done) | (refine Z.all_one ?_; assumption)) (by first | exact SX.at0 | exact SX.at1 | exact SX.at2 | exact SX.at3 | exact SX.at4 | exact SX.at5 | exact Z.at6 | exact Z.at7 | exact Z.at8 | exact Z.at9 | exact Z.at10 | exact Z.at11 | exact Z.at12) (by rfl) ?_ | refine Z.ZO.storeP rfl rfl hs rfl rfl (by kernel_rfl) (by first | (simp [Value.oneCell']; done) | (refine Z.all_one ?_; assumption)) (by first | exact SX.at0 | exact SX.at1 | exact SX.at2 | exact SX.at3 | exact SX.at4 | exact SX.at5 | exact Z.at6 | exact Z.at7 | exact Z.at8 | exact Z.at9 | exact Z.at10 | exact Z.at11 | exact Z.at12) (by first | decide | (simp; done) | (simp; omega)) ?_ | refine Z.ZO.storePR rfl rfl hs rfl rfl (by kernel_rfl) (by first | (simp [Value.oneCell']; done) | (refine Z.all_one ?_; assumption)) (by first | exact SX.at0 | exact SX.at1 | exact SX.at2 | exact SX.at3 | exact SX.at4 | exact SX.at5 | exact Z.at6 | exact Z.at7 | exact Z.at8 | exact Z.at9 | exact Z.at10 | exact Z.at11 | exact Z.at12) (by first | decide | (simp; done) | (simp; omega)) ?_
    clear hs; intro ws hs
    simp only [Nat.zero_add, Nat.add_zero, Nat.reduceAdd, Int.reduceToNat, Nat.reduceMul, List.set_cons_zero, List.set_cons_succ, List.setIfInBounds_toArray] at hs
    try simp only [Z.putL, Nat.zero_add] at hs
    refine Z.tk (Dn := fun j => j != 9) (i := 9) (fun h => absurd h (by decide)) ?_
    refine Z.td (by rfl) (by kernel_rfl) ?_
    refine Z.only [1, 2, 4] rfl ?_
    rw [t22] at hs
    refine Z.nthen ?_
    refine Z.seq ?_
    refine Z.seq ?_
    refine Z.region ?_
    refine Z.l rfl rfl (by rfl) (Z.keepS hs) (Z.Yd.fieldA (m := 1) rfl (by kernel_rfl)) ?_
    refine Z.l rfl rfl (by rfl) (Z.keepS hs) (by first | exact Z.Yd.load rfl Try.isAgg4 (fun _ => Z.cellB (by first | ((repeat (first | exact List.mem_cons_self | refine List.mem_cons_of_mem _ ?_ | refine List.mem_append_right _ ?_)); done) | fail) rfl) | exact Z.Yd.load rfl Try.isAgg4 (fun _ => Z.cellO (by assumption) (by simp) (by assumption)) | fail "load 3.1") ?_
    refine Z.lnil ?_
    refine Z.only [1, 2, 4, 23] rfl ?_
    refine Z.nthen ?_
    refine Z.cond rfl (fun hc3 => ?_) (fun h => absurd h (by simp))
    refine Z.seq ?_
    refine Z.region ?_
    refine Z.l rfl rfl (by rfl) (Z.keepS hs) (Z.Yd.fieldA (m := 0) rfl (by kernel_rfl)) ?_
    refine Z.l rfl rfl (by rfl) (Z.keepS hs) (by first | exact Z.Yd.load rfl Try.isAgg74 (fun _ => Z.cellB (by first | ((repeat (first | exact List.mem_cons_self | refine List.mem_cons_of_mem _ ?_ | refine List.mem_append_right _ ?_)); done) | fail) rfl) | exact Z.Yd.load rfl Try.isAgg74 (fun _ => Z.cellO (by assumption) (by simp) (by assumption)) | fail "load 4.1") ?_
    refine Z.le rfl trivial ?_
    refine Z.ZO.litL (T' := 3) [(0, 1), (1, 1)] [.int .i64 0, .int .i64 0] rfl rfl (by rfl) rfl rfl (by intro W; kernel_rfl) hs ?_
    clear hs; intro g26 w26 hs
    replace hs : SX.St w M _ (RdL g T sv l (a + 12) ++ [_, _, _, _, _]) := hs.sel [1, 2, 0, 3, 4, 5, 6] (by decide)
    refine Z.le rfl trivial ?_
    refine Z.ZO.call rfl rfl (by rfl) rfl rfl Try.call41 rfl (rgetall_any g T sv l (a + 12) _ _ _ [15, 15] _ hs.lend (by have h0 := Z.blk_lentj hs (j := 0) rfl; exact h0) rfl (by decide) hl (by omega) hb) ?_
    rintro v4_3 w4_3 ⟨so2, rfl, hz⟩
    replace hs := hs.regain hz
    rw [p1']
    rw [p1', if_neg (by decide), if_neg (by decide), if_neg (by decide)] at hs
    simp only [RdL, List.cons_append, List.nil_append] at hs
    refine Z.lb 2 rfl ?_
    refine Z.le rfl trivial ?_
    refine Z.ZO.callP rfl rfl rfl Try.call40 rfl (gots_bad _ 5 _ (by decide)) ?_
    rintro c4_6 w4_6 ⟨rfl, hy⟩
    replace hs := hs.call hy
    clear hy
    try simp only [List.cons_append, List.nil_append, List.append_nil] at hs
    repeat (first | refine Z.pthen ?_ | refine Z.pblock ?_ | refine Z.pscope ?_)
    -- ret#0
    refine Z.outp ?_
    exact ⟨_, rfl, rfl, a + 12, hs.sel [0, 1] (by decide)⟩
  · have q1' : gsE l a [10, 1, 1] = 5 := gs_bad (l := l) [10, 1, 1] a (by simp) ha (by simp; omega)
    refine Z.enter Try.func43 rfl Try.ntmps43 rfl rfl ?_
    refine Z.seq ?_
    refine Z.region ?_
    refine Z.le rfl trivial ?_
    refine Z.ZO.box rfl rfl (by rfl) rfl rfl hs ?_
    clear hs; intro g1 w1 hs
    refine Z.le rfl trivial ?_
    refine Z.ZO.alloc rfl rfl (by rfl) Try.zeroValue45 rfl hs ?_
    clear hs; intro g2 w2 hs
    refine Z.lb 1 rfl ?_
    refine Z.lnil ?_
    refine Z.only [1, 2] rfl ?_
    refine Z.nthen ?_
    refine Z.seq ?_
    refine Z.region ?_
    refine Z.l rfl rfl (by rfl) (Z.keepS hs) (Z.Yd.fieldA (m := 0) rfl (by kernel_rfl)) ?_
    refine Z.l rfl rfl (by rfl) (Z.keepS hs) (by first | exact Z.Yd.load rfl Try.isAgg74 (fun _ => Z.cellB (by first | ((repeat (first | exact List.mem_cons_self | refine List.mem_cons_of_mem _ ?_ | refine List.mem_append_right _ ?_)); done) | fail) rfl) | exact Z.Yd.load rfl Try.isAgg74 (fun _ => Z.cellO (by assumption) (by simp) (by assumption)) | fail "load 1.1") ?_
    refine Z.le rfl trivial ?_
    refine Z.ZO.litL (T' := 3) [(0, 1), (1, 1), (2, 1)] [.int .i64 0, .int .i64 0, .int .i64 0] rfl rfl (by rfl) rfl rfl (by intro W; kernel_rfl) hs ?_
    clear hs; intro g8 w8 hs
    replace hs : SX.St w M _ (RdL g T sv l a ++ [_, _, _]) := hs.rot (L1 := [_, _, _])
    refine Z.le rfl trivial ?_
    refine Z.ZO.call rfl rfl (by rfl) rfl rfl Try.call41 rfl (rgetall_any g T sv l a _ _ _ [10, 1, 1] _ hs.lend (by have h0 := Z.blk_lentj hs (j := 0) rfl; exact h0) rfl (by decide) hl (by omega) hb) ?_
    rintro v1_3 w1_3 ⟨so, rfl, hz⟩
    replace hs := hs.regain hz
    rw [q1']
    rw [q1', if_neg (by decide), if_neg (by decide), if_neg (by decide)] at hs
    simp only [RdL, List.cons_append, List.nil_append] at hs
    refine Z.lb 2 rfl ?_
    refine Z.le rfl trivial ?_
    refine Z.ZO.callP rfl rfl rfl Try.call40 rfl (gots_bad _ 5 _ (by decide)) ?_
    rintro c1_6 w1_6 ⟨rfl, hy⟩
    replace hs := hs.call hy
    clear hy
    try simp only [List.cons_append, List.nil_append, List.append_nil] at hs
    repeat (first | refine Z.pthen ?_ | refine Z.pblock ?_ | refine Z.pscope ?_)
    -- ret#0
    refine Z.outp ?_
    exact ⟨_, rfl, rfl, a, hs.sel [0, 1] (by decide)⟩
/-- what the entries from bit a on give, behind some others -/
def okNext (ack : Int) (acc : List NkV) (n : NkV) : Bool := decide (acc.length < 512) && (decide (alone ack n) && (if acc.length = 0 then true else match acc[acc.length - 1]? with
  | some p => decide (follows ack p n)
  | none => false))
def decGo (l : List Int) (ack : Int) : Nat → Nat → List NkV → Bool → Int × List NkV
  | 0, _, _, _ => (0, [])
  | f + 1, a, acc, more =>
    if more = false then (if endE l a = 0 then (0, acc) else (9, []))
    else if nkE l a ≠ 0 then (5, [])
    else if okNext ack acc (nkAt l a) = true then decGo l ack f (nkA l a) (acc ++ [nkAt l a]) (moreAt l a)
    else (9, [])
def decE (l : List Int) : Int := if 15 ≤ 8 * l.length then (if gv l 0 4 = 0 then (decGo l (gv l 4 10) (8 * l.length + 1) 15 [] (gv l 14 1 == 1)).1 else 9) else 5
def decA (l : List Int) : Int := if decE l = 0 then gv l 4 10 else 0
def decL (l : List Int) : List NkV := if decE l = 0 then (decGo l (gv l 4 10) (8 * l.length + 1) 15 [] (gv l 14 1 == 1)).2 else []
theorem nkA_ok {l : List Int} {a : Nat} (h : nkE l a = 0) : a + 12 ≤ nkA l a ∧ nkA l a ≤ 8 * l.length := by
  unfold nkE at h
  unfold nkA nkSz nkAt
  dsimp only
  split at h
  · split at h
    · rename_i hp
      split at h
      · rw [if_pos hp]; omega
      · simp at h
    · rename_i hp
      rw [if_neg hp]; omega
  · simp at h
theorem nkE_val (l : List Int) (a : Nat) : nkE l a = 0 ∨ nkE l a = 5 := by
  unfold nkE
  split
  · split
    · split
      · exact .inl rfl
      · exact .inr rfl
    · exact .inl rfl
  · exact .inr rfl
theorem decGo_err (l : List Int) (ack : Int) : ∀ (f a : Nat) (acc : List NkV) (more : Bool), ((decGo l ack f a acc more).1 = 0 ∨ (decGo l ack f a acc more).1 = 5 ∨ (decGo l ack f a acc more).1 = 9)
  | 0, _, _, _ => .inl rfl
  | f + 1, a, acc, more => by
    unfold decGo
    split
    · split
      · exact .inl rfl
      · exact .inr (.inr rfl)
    · split
      · exact .inr (.inl rfl)
      · split
        · exact decGo_err l ack f _ _ _
        · exact .inr (.inr rfl)
end Go.Proofs.Ytcieclifabbkjaa

/- Structs and arrays compared. -/
namespace Go.Proofs.Ytcieclifabbkjaa
open Go.RowKit
set_option linter.unusedVariables false
set_option linter.unusedSimpArgs false
namespace Z
/-- the shape of a type whose values are compared cell by cell -/
inductive Sh where
  | b | i | fn
  | st (l : Sh)
  | fc (off size : Nat) (h t : Sh)
  | ar (n size : Nat) (e : Sh)
def Sh.isA : Sh → Bool
  | .st _ => true
  | .ar _ _ _ => true
  | _ => false
def andO : Option Bool → Option Bool → Option Bool
  | some a, some b => some (a && b)
  | _, _ => none
/-- a part of a struct or array -/
def prt (ag : Bool) (off size : Nat) : Value → Option Value
  | .agg cs => bif ag then some (.agg ((cs.toList.drop off).take size).toArray) else nth cs.toList off
  | _ => none
def eqAr (f : Value → Value → Option Bool) (ag : Bool) (size : Nat) (x y : Value) : Nat → Nat → Option Bool
  | _, 0 => some true
  | i, n + 1 => match prt ag (i * size) size x, prt ag (i * size) size y with
    | some u, some v => andO (f u v) (eqAr f ag size x y (i + 1) n)
    | _, _ => none
def eqS : Sh → Value → Value → Option Bool
  | .b, .bool a, .bool b => some (a == b)
  | .i, .int k a, .int k' b => bif sameK k k' then some (a == b) else none
  | .st l, .agg xs, .agg ys => eqS l (.agg xs) (.agg ys)
  | .fn, _, _ => some true
  | .fc off size h t, x, y => match prt h.isA off size x, prt h.isA off size y with
    | some u, some v => andO (eqS h u v) (eqS t x y)
    | _, _ => none
  | .ar n size e, .agg xs, .agg ys => eqAr (fun u v => eqS e u v) e.isA size (.agg xs) (.agg ys) 0 n
  | _, _, _ => none
def szB (P : Program) (T size : Nat) : Bool := match P.info? T with
  | some i => Nat.beq i.size size
  | none => false
def isVal : Sh → Bool
  | .fn => false
  | .fc _ _ _ _ => false
  | _ => true
def okS (P : Program) : Sh → TypeId → List Field → Bool
  | .b, T, _ => match P.underlying T with
    | some .bool => true
    | _ => false
  | .i, T, _ => match P.underlying T with
    | some (.int _) => true
    | _ => false
  | .st l, T, _ => match P.underlying T with
    | some (.struct fs) => !P.stoodInHeld T && (okS P l 0 fs.toList && !isVal l)
    | _ => false
  | .fn, _, [] => true
  | .fc off size h t, _, f :: fs => f.name != "_" && (Nat.beq f.offset off && (okS P h f.type [] && (szB P f.type size && (okS P t 0 fs && (isVal h && !isVal t)))))
  | .ar n size e, T, _ => match P.underlying T with
    | some (.array m el) => Nat.beq n m && (okS P e el [] && (szB P el size && isVal e))
    | _ => false
  | _, _, _ => false
def dp : Sh → Nat
  | .b => 1
  | .i => 1
  | .fn => 0
  | .st l => dp l + 1
  | .fc _ _ h t => max (dp h) (dp t)
  | .ar _ _ e => dp e + 1
variable {P : Program} {w : World}
theorem szB_run {T size : Nat} (h : szB P T size = true) : (sizeOf T).run P w = .ok size w := by
  unfold szB at h
  split at h
  · rename_i i hi
    simp [Go.sizeOf, typeInfo, hi, Nat.eq_of_beq_eq_true h]
  · cases h
theorem isAgg_run {sh : Sh} {T : TypeId} (hv : isVal sh = true) (h : okS P sh T [] = true) : (isAgg T).run P w = .ok sh.isA w := by
  cases sh <;> simp only [okS] at h <;> try (simp [isVal] at hv; done)
  all_goals
    (split at h
     · rename_i hu; simp [isAgg, run_underlying hu, Sh.isA]
     · cases h)
theorem part_run {sh : Sh} {T : TypeId} {off size : Nat} {cs : Array Value} {u : Value} (hv : isVal sh = true) (h : okS P sh T [] = true) (hs : szB P T size = true) (hp : prt sh.isA off size (.agg cs) = some u) : (part T cs off).run P w = .ok u w := by
  unfold part
  simp only [Sem.run_bind, isAgg_run hv h, Result.andThen_ok]
  unfold prt at hp
  cases hA : sh.isA with
  | true =>
    rw [hA] at hp
    simp only [cond_true, Option.some.injEq] at hp
    subst hp
    simp only [if_true, Sem.run_bind, szB_run hs, Result.andThen_ok, Sem.run_pure]
    congr 2
    apply Array.ext'
    simp [List.take_drop, Nat.add_comm]
  | false =>
    rw [hA] at hp
    simp only [cond_false, nth_eq] at hp
    have : cs[off]? = some u := by simpa using hp
    simp [this]

def loopB : Option Bool × Unit → Bool
  | (some r, _) => r
  | (none, _) => true
/-- the loop over the fields -/
def FieldsRun (P : Program) (d : Nat) (xs ys : Array Value) (fs : List Field) (r : Bool) : Prop := ∀ w, ∃ z, (forIn (m := Sem) fs ((none, ()) : Option Bool × Unit) fun f __s =>
      if f.name ≠ "_" then do
        let __do_lift ← part f.type xs f.offset
        let __do_lift_1 ← part f.type ys f.offset
        let __do_lift ← Op.equalIn d f.type __do_lift __do_lift_1
        if (!__do_lift) = true then pure (ForInStep.done (some false, ())) else pure (ForInStep.yield (none, ()))
      else pure (ForInStep.yield (none, ()))).run P w = .ok z w ∧ loopB z = r
def ElemsRun (P : Program) (d : Nat) (e : TypeId) (size : Nat) (xs ys : Array Value) (is : List Nat) (r : Bool) : Prop := ∀ w, ∃ z, (forIn (m := Sem) is ((none, ()) : Option Bool × Unit) fun i __s => do
        let __do_lift ← part e xs (i * size)
        let __do_lift_1 ← part e ys (i * size)
        let __do_lift ← Op.equalIn d e __do_lift __do_lift_1
        if (!__do_lift) = true then pure (ForInStep.done (some false, ())) else pure (ForInStep.yield (none, ()))).run P w = .ok z w ∧ loopB z = r
theorem andO_some {a b : Option Bool} {r : Bool} (h : andO a b = some r) : ∃ x y, a = some x ∧ b = some y ∧ r = (x && y) := by
  cases a <;> cases b <;> simp [andO] at h
  exact ⟨_, _, rfl, rfl, h.symm⟩
theorem prt_agg {ag : Bool} {off size : Nat} {x u : Value} (h : prt ag off size x = some u) : ∃ cs, x = .agg cs := by
  cases x <;> simp [prt] at h
  exact ⟨_, rfl⟩
theorem elems_run {xs ys : Array Value} {d : Nat} {e : Sh} {el : TypeId} {size : Nat} (hv : isVal e = true) (hok : okS P e el [] = true) (hs : szB P el size = true)
    (H : ∀ x y r, eqS e x y = some r → ∀ w, (Op.equalIn d el x y).run P w = .ok r w) : ∀ (n i : Nat) (r : Bool), eqAr (fun u v => eqS e u v) e.isA size (.agg xs) (.agg ys) i n = some r → ElemsRun P d el size xs ys (List.range' i n) r := by
  intro n
  induction n with
  | zero =>
    intro i r he w
    simp [eqAr] at he
    subst he
    exact ⟨(none, ()), by simp, rfl⟩
  | succ n ih =>
    intro i r he w
    simp only [eqAr] at he
    cases hu : prt e.isA (i * size) size (.agg xs) with
    | none => rw [hu] at he; simp at he
    | some u =>
      cases hv2 : prt e.isA (i * size) size (.agg ys) with
      | none => rw [hu, hv2] at he; simp at he
      | some v =>
        rw [hu, hv2] at he
        simp only at he
        obtain ⟨a, b, ha, hb, rfl⟩ := andO_some he
        obtain ⟨z, hz, hzb⟩ := ih (i + 1) b hb w
        have p1 := part_run (w := w) hv hok hs hu
        have p2 := part_run (w := w) hv hok hs hv2
        have p3 := H u v a ha w
        rw [List.range'_succ]
        cases a with
        | true => exact ⟨z, by
            rw [List.forIn_cons]
            simp only [Sem.run_bind, p1, p2, p3, Result.andThen_ok, Bool.not_true, Bool.false_eq_true, if_false, Sem.run_pure]
            exact hz, by simp [hzb]⟩
        | false => exact ⟨(some false, ()), by simp [p1, p2, p3], rfl⟩
theorem eqS_run (sh : Sh) : (∀ T x y r d, isVal sh = true → dp sh ≤ d → okS P sh T [] = true → eqS sh x y = some r → ∀ w, (Op.equalIn d T x y).run P w = .ok r w) ∧
    (isVal sh = false → ∀ fs xs ys r d, dp sh ≤ d → okS P sh 0 fs = true → eqS sh (.agg xs) (.agg ys) = some r → FieldsRun P d xs ys fs r) := by
  induction sh with
  | b =>
    refine ⟨fun T x y r d _ hd hok he w => ?_, fun h => (by cases h)⟩
    obtain ⟨d, rfl⟩ : ∃ k, d = k + 1 := ⟨d - 1, by simp [dp] at hd; omega⟩
    simp only [okS] at hok
    split at hok
    · rename_i hu
      cases x <;> cases y <;> simp [eqS] at he
      subst he
      simp [Op.equalIn, run_underlying hu]
    · cases hok
  | i =>
    refine ⟨fun T x y r d _ hd hok he w => ?_, fun h => (by cases h)⟩
    obtain ⟨d, rfl⟩ : ∃ k, d = k + 1 := ⟨d - 1, by simp [dp] at hd; omega⟩
    simp only [okS] at hok
    split at hok
    · rename_i hu
      cases x <;> cases y <;> simp only [eqS] at he <;> first | (cases he; done) | skip
      rename_i k a k' b
      cases hk : sameK k k' with
      | false => rw [hk] at he; cases he
      | true =>
        rw [hk] at he
        simp only [cond_true, Option.some.injEq] at he
        subst he
        obtain rfl := sameK_eq hk
        simp [Op.equalIn, run_underlying hu]
    · cases hok
  | fn =>
    refine ⟨fun T x y r d h => (by cases h), fun _ fs xs ys r d _ hok he w => ?_⟩
    cases fs with
    | nil =>
      simp [eqS] at he
      subst he
      exact ⟨(none, ()), by simp, rfl⟩
    | cons f fs => simp [okS] at hok
  | st l ih =>
    refine ⟨fun T x y r d _ hd hok he w => ?_, fun h => (by cases h)⟩
    obtain ⟨d, rfl⟩ : ∃ k, d = k + 1 := ⟨d - 1, by simp [dp] at hd; omega⟩
    simp only [okS] at hok
    split at hok
    · rename_i fs hu
      simp only [Bool.and_eq_true, Bool.not_eq_true'] at hok
      obtain ⟨hst, hok, hl⟩ := hok
      cases x <;> cases y <;> simp only [eqS] at he <;> first | (cases he; done) | skip
      rename_i xs ys
      obtain ⟨z, hz, hzb⟩ := ih.2 hl fs.toList xs ys r d (by simp [dp] at hd; omega) hok he w
      simp only [Op.equalIn, Sem.run_bind, run_underlying hu, Result.andThen_ok, run_program, hst, Bool.false_eq_true, if_false]
      rw [← Array.forIn_toList, hz]
      simp only [Result.andThen_ok]
      obtain ⟨o, u⟩ := z
      cases o <;> simp [loopB] at hzb ⊢ <;> exact hzb
    · cases hok
  | fc off size h t ihh iht =>
    refine ⟨fun T x y r d h => (by cases h), fun _ fs xs ys r d hd hok he w => ?_⟩
    cases fs with
    | nil => simp [okS] at hok
    | cons f fs =>
      simp only [okS, Bool.and_eq_true, bne_iff_ne, ne_eq, Bool.not_eq_true'] at hok
      obtain ⟨h1, h2, h3, h4, h5, h6, h7⟩ := hok
      have hoff := Nat.eq_of_beq_eq_true h2
      simp only [eqS] at he
      cases hu : prt h.isA off size (.agg xs) with
      | none => rw [hu] at he; simp at he
      | some u =>
        cases hv2 : prt h.isA off size (.agg ys) with
        | none => rw [hu, hv2] at he; simp at he
        | some v =>
          rw [hu, hv2] at he
          simp only at he
          obtain ⟨a, b, ha, hb, rfl⟩ := andO_some he
          simp only [dp] at hd
          obtain ⟨z, hz, hzb⟩ := iht.2 h7 fs xs ys b d (by omega) h5 hb w
          rw [← hoff] at hu hv2
          have p1 := part_run (w := w) h6 h3 h4 hu
          have p2 := part_run (w := w) h6 h3 h4 hv2
          have p3 := ihh.1 f.type u v a d h6 (by omega) h3 ha w
          cases a with
          | true => exact ⟨z, by
              rw [List.forIn_cons, if_pos h1]
              simp only [Sem.run_bind, p1, p2, p3, Result.andThen_ok, Bool.not_true, Bool.false_eq_true, if_false, Sem.run_pure]
              exact hz, by simp [hzb]⟩
          | false => exact ⟨(some false, ()), by simp [h1, p1, p2, p3], rfl⟩
  | ar n size e ih =>
    refine ⟨fun T x y r d _ hd hok he w => ?_, fun h => (by cases h)⟩
    obtain ⟨d, rfl⟩ : ∃ k, d = k + 1 := ⟨d - 1, by simp [dp] at hd; omega⟩
    simp only [okS] at hok
    split at hok
    · rename_i m el hu
      simp only [Bool.and_eq_true] at hok
      obtain ⟨hn, hok, hsz, hv⟩ := hok
      have hn := Nat.eq_of_beq_eq_true hn
      subst hn
      cases x <;> cases y <;> simp only [eqS] at he <;> first | (cases he; done) | skip
      rename_i xs ys
      obtain ⟨z, hz, hzb⟩ := elems_run (xs := xs) (ys := ys) (d := d) hv hok hsz (fun x y r he w => ih.1 el x y r d hv (by simp [dp] at hd; omega) hok he w) n 0 r he w
      simp only [Op.equalIn, Sem.run_bind, run_underlying hu, Result.andThen_ok, szB_run hsz]
      rw [Std.Legacy.Range.forIn_eq_forIn_range']
      simp only [Std.Legacy.Range.size, Nat.sub_zero, Nat.add_sub_cancel, Nat.div_one]
      rw [hz]
      simp only [Result.andThen_ok]
      obtain ⟨o, u⟩ := z
      cases o <;> simp [loopB] at hzb ⊢ <;> exact hzb
    · cases hok

variable {N : Nat} {E : Env} {D : List Deferred} {G : Guards} {S : World → Prop} {x y : Operand} {T T' : TypeId} {u v : Value}
theorem equal_run (sh : Sh) {r : Bool} (hd : Nat.ble (dp sh) 100 = true) (hv : isVal sh = true) (hok : okS P sh T [] = true) (he : eqS sh u v = some r) : (Op.equal T u v).run P w = .ok r w :=
  (eqS_run sh).1 T u v r Op.maxDepth hv (Nat.le_trans (Nat.le_of_ble_eq_true hd) (by decide)) hok he w
theorem eqGuard_agg {op : BinOp} {xs ys : Array Value} (hg : P.eqGuardType P.depth T = false) : (eqGuard op T x y (.agg xs) (.agg ys)).run P w = .ok () w := by
  unfold eqGuard
  cases op <;> simp [run_program, hg]
theorem Yd.eqA (sh : Sh) {xs ys : Array Value} {r : Bool} (hx : ev E G x = some (.agg xs)) (hy : ev E G y = some (.agg ys)) (hd : Nat.ble (dp sh) 100 = true) (hv : isVal sh = true) (hok : okS P sh T [] = true) (hg : P.eqGuardType P.depth T = false) (he : eqS sh (.agg xs) (.agg ys) = some r) : Yd P N D S E G (.binOp .eql T x y T') (.bool r) :=
  Yd.bin hx hy fun _ w => by
    rw [Sem.run_bind, eqGuard_agg hg]
    simp [binOp, equal_run sh hd hv hok he]
theorem Yd.neA (sh : Sh) {xs ys : Array Value} {r : Bool} (hx : ev E G x = some (.agg xs)) (hy : ev E G y = some (.agg ys)) (hd : Nat.ble (dp sh) 100 = true) (hv : isVal sh = true) (hok : okS P sh T [] = true) (hg : P.eqGuardType P.depth T = false) (he : eqS sh (.agg xs) (.agg ys) = some r) : Yd P N D S E G (.binOp .neq T x y T') (.bool (!r)) :=
  Yd.bin hx hy fun _ w => by
    rw [Sem.run_bind, eqGuard_agg hg]
    simp [binOp, equal_run sh hd hv hok he]
/-- a function value is not nil -/
theorem Yd.fnNil {f : Fn} {a b : Array Value} {ps rs : Array TypeId} {vd : Bool} (hx : ev E G x = some (.func f a b)) (hy : ev E G y = some .nilFunc) (ht : P.underlying T = some (.func ps rs vd)) : Yd P N D S E G (.binOp .eql T x y T') (.bool false) :=
  Yd.bin hx hy fun _ w => by
    have : eqGuard .eql T x y (.func f a b) .nilFunc = Pure.pure () := rfl
    rw [this]
    have h : ∀ q, (Op.equalIn (q + 1) T (.func f a b) .nilFunc).run P w = .ok false w := fun q => by simp [Op.equalIn, run_underlying ht]
    simp only [binOp]
    simp [Op.equal, Op.maxDepth, h 9999]

/-! ## a struct stored in a part of a block or of a row -/
theorem putL_cons : ∀ (n : Nat) (v : Value) (vs l : List Value), n < l.length → putL n (v :: vs) l = putL (n + 1) vs (l.set n v)
  | 0, v, vs, [], h => by simp at h
  | 0, v, vs, x :: l, _ => by simp [putL]
  | n + 1, v, vs, [], h => by simp at h
  | n + 1, v, vs, x :: l, h => by
    simp only [putL, List.set_cons_succ]
    rw [putL_cons n v vs l (by simpa using h)]
theorem putL_nil : ∀ (n : Nat) (l : List Value), putL n [] l = l
  | 0, [] => rfl
  | 0, _ :: _ => rfl
  | _ + 1, [] => rfl
  | n + 1, x :: l => by simp [putL, putL_nil n l]
theorem putL_length : ∀ (n : Nat) (vs l : List Value), n + vs.length ≤ l.length → (putL n vs l).length = l.length
  | n, [], l, _ => by rw [putL_nil]
  | n, v :: vs, l, h => by
    simp only [List.length_cons] at h
    rw [putL_cons n v vs l (by omega), putL_length (n + 1) vs _ (by simp; omega), List.length_set]
/-- what is put in place by place -/
theorem putL_eq : ∀ (n : Nat) (vs l : List Value), n + vs.length ≤ l.length → putL n vs l = l.take n ++ vs ++ l.drop (n + vs.length)
  | n, [], l, _ => by rw [putL_nil]; simp
  | n, v :: vs, l, h => by
    simp only [List.length_cons] at h
    rw [putL_cons n v vs l (by omega), putL_eq (n + 1) vs _ (by simp; omega)]
    rw [List.take_set, List.drop_set_of_lt (by omega), List.take_add_one, List.getElem?_eq_getElem (by omega)]
    rw [List.set_append_right _ _ (by simp; omega)]
    simp only [List.length_take, Nat.min_eq_left (show n ≤ l.length by omega), Nat.sub_self, Option.toList, List.set_cons_zero, List.length_cons]
    simp [Nat.add_assoc, Nat.add_comm 1]
variable {M : List Nat} {L : List SX.Ent} {w0 : World}
theorem storeCells_blk {g T' o j : Nat} : ∀ (vs : List Value) (i : Nat) (w : World) (L : List SX.Ent) (cs : List Value), SX.St w0 M w L → L[j]? = some (SX.Ent.blk g T' cs.toArray) → (∀ u ∈ vs, u.oneCell' = true) → o + i + vs.length ≤ cs.length →
    ∃ w', (storeCells ⟨g, o, none⟩ vs i).run P w = .ok () w' ∧ SX.St w0 M w' (L.set j (SX.Ent.blk g T' (putL (o + i) vs cs).toArray))
  | [], i, w, L, cs, hs, hj, _, _ => ⟨w, by simp [storeCells], by
      rw [putL_nil]
      have hjl := (List.getElem?_eq_some_iff.1 hj)
      obtain ⟨h1, h2⟩ := hjl
      rw [← h2, List.set_getElem_self]
      exact hs⟩
  | v :: vs, i, w, L, cs, hs, hj, h1, hl => by
    simp only [List.length_cons] at hl
    have hjl := (List.getElem?_eq_some_iff.1 hj).1
    have hc : w.cell? ⟨g, o + i, none⟩ = some (cs[o + i]'(by omega)) := (SX.cell_blk (hs.blk hj) (o + i)).trans (by simp)
    have hf : w.frozen? ⟨g, o + i, none⟩ = false := SX.frozen_blk (hs.blk hj) (o + i)
    have hs2 := hs.set (i := o + i) hj v
    rw [List.setIfInBounds_toArray] at hs2
    obtain ⟨w', hrun, hs3⟩ := storeCells_blk (g := g) (T' := T') (o := o) (j := j) vs (i + 1) _ _ (cs.set (o + i) v) hs2 (by simp [hjl]) (fun u hu => h1 u (by simp [hu])) (by simp; omega)
    refine ⟨w', ?_, ?_⟩
    · simp only [storeCells, add_none, Sem.run_bind, run_store P w ⟨g, o + i, none⟩ v _ (h1 v (by simp)), hc, hf]
      simpa using hrun
    · rw [List.set_set] at hs3
      rw [putL_cons _ _ _ _ (by omega)]
      exact hs3
theorem storeCells_row {g T' o j kk cc size m : Nat} : ∀ (vs : List Value) (i : Nat) (w : World) (L : List SX.Ent) (cs : List Value), SX.St w0 M w L → L[j]? = some (SX.Ent.row (.slice (some ⟨g, 0, none⟩) kk cc) T' size m cs) → (∀ u ∈ vs, u.oneCell' = true) → o + i + vs.length ≤ cs.length →
    ∃ w', (storeCells ⟨g, o, none⟩ vs i).run P w = .ok () w' ∧ SX.St w0 M w' (L.set j (SX.Ent.row (.slice (some ⟨g, 0, none⟩) kk cc) T' size m (putL (o + i) vs cs)))
  | [], i, w, L, cs, hs, hj, _, _ => ⟨w, by simp [storeCells], by
      rw [putL_nil]
      have hjl := (List.getElem?_eq_some_iff.1 hj)
      obtain ⟨h1, h2⟩ := hjl
      rw [← h2, List.set_getElem_self]
      exact hs⟩
  | v :: vs, i, w, L, cs, hs, hj, h1, hl => by
    simp only [List.length_cons] at hl
    have hjl := (List.getElem?_eq_some_iff.1 hj).1
    have hc : w.cell? ⟨g, o + i, none⟩ = some (cs[o + i]'(by omega)) := SX.row_cell hs hj (by simp)
    have hf : w.frozen? ⟨g, o + i, none⟩ = false := SX.row_frozen hs hj
    have hs2 := SX.row_set (i := o + i) hs hj v
    obtain ⟨w', hrun, hs3⟩ := storeCells_row (g := g) (T' := T') (o := o) (j := j) (kk := kk) (cc := cc) (size := size) (m := m) vs (i + 1) _ _ (cs.set (o + i) v) hs2 (by simp [hjl]) (fun u hu => h1 u (by simp [hu])) (by simp; omega)
    refine ⟨w', ?_, ?_⟩
    · simp only [storeCells, add_none, Sem.run_bind, run_store P w ⟨g, o + i, none⟩ v _ (h1 v (by simp)), hc, hf]
      simpa using hrun
    · rw [List.set_set] at hs3
      rw [putL_cons _ _ _ _ (by omega)]
      exact hs3
theorem storeVar_run {a : Addr} {vs : List Value} {w' : World} (hsz : (P.info? T).map (·.size) = some vs.length) (h : (storeCells a vs 0).run P w = .ok () w') : (storeVar T a (.agg vs.toArray)).run P w = .ok () w' := by
  cases hq : P.info? T with
  | none => simp [hq] at hsz
  | some i =>
    have hi : i.size = vs.length := by simpa [hq] using hsz
    simp [storeVar, Go.sizeOf, typeInfo, hq, hi, Value.cells, h]
variable {F : Fence} {n : Nat} {o : Oper} {K : Act → World → Prop} {Q : Exit → Act → World → Prop}
theorem ZO.storeP [Wide F] {g off j : Nat} {cs vs : List Value} (ho : o.op = .store T x y) (hd : o.dst = none) (hs : SX.St w0 M w L)
    (hx : ev E [] x = some (.pointer (some ⟨g, off, none⟩))) (hy : ev E [] y = some (.agg vs.toArray)) (hsz : (P.info? T).map (·.size) = some vs.length) (h1 : (vs.toArray).all (·.oneCell') = true) (hj : L[j]? = some (SX.Ent.blk g T' cs.toArray)) (hi : off + vs.length ≤ cs.length)
    (h : ∀ w', SX.St w0 M w' (L.set j (SX.Ent.blk g T' (putL off vs cs).toArray)) → Z N E D K w') : ZO F n P N E D o K Q w := by
  obtain ⟨w', hrun, hs'⟩ := storeCells_blk (P := P) (o := off) vs 0 w L cs hs hj (fun u hu => by rw [List.all_toArray] at h1; exact List.all_eq_true.1 h1 u hu) (by omega)
  exact ZO.unit (by intro c e; rw [ho] at e; cases e) hd (fun a ha => by simp [execOp, ho, ev0 ha hx, ev0 ha hy, Instr.storeAt, Instr.sureAddr, storeVar_run hsz hrun]) (h w' hs')
theorem ZO.storePR [Wide F] {g off j kk cc size m : Nat} {cs vs : List Value} (ho : o.op = .store T x y) (hd : o.dst = none) (hs : SX.St w0 M w L)
    (hx : ev E [] x = some (.pointer (some ⟨g, off, none⟩))) (hy : ev E [] y = some (.agg vs.toArray)) (hsz : (P.info? T).map (·.size) = some vs.length) (h1 : (vs.toArray).all (·.oneCell') = true) (hj : L[j]? = some (SX.Ent.row (.slice (some ⟨g, 0, none⟩) kk cc) T' size m cs)) (hi : off + vs.length ≤ cs.length)
    (h : ∀ w', SX.St w0 M w' (L.set j (SX.Ent.row (.slice (some ⟨g, 0, none⟩) kk cc) T' size m (putL off vs cs))) → Z N E D K w') : ZO F n P N E D o K Q w := by
  obtain ⟨w', hrun, hs'⟩ := storeCells_row (P := P) (o := off) vs 0 w L cs hs hj (fun u hu => by rw [List.all_toArray] at h1; exact List.all_eq_true.1 h1 u hu) (by omega)
  exact ZO.unit (by intro c e; rw [ho] at e; cases e) hd (fun a ha => by simp [execOp, ho, ev0 ha hx, ev0 ha hy, Instr.storeAt, Instr.sureAddr, storeVar_run hsz hrun]) (h w' hs')
end Z
end Go.Proofs.Ytcieclifabbkjaa
