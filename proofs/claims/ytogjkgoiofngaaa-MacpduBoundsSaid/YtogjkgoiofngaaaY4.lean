/- Part 4 of the proofs that lead to the statement. -/
import Derived.Test.YtogjkgoiofngaaaY3
/- MAC PDUs: the document's Valid, join. -/
namespace Go.Proofs.Ytogjkgoiofngaaa
open Go.RowKit
set_option linter.unusedSimpArgs false
set_option linter.unusedVariables false
--newlaws

theorem mr_valid (A : Option Addr) (n c : Nat) (ps : List MpV) (w : World) (hx : Sl w A (ps.flatMap MpV.cells)) (hl : ps.length = n) (hn : n ≤ 9223372036854775807) :
    Calls Try.prog 25 #[.slice A n c] w (SX.Ret fun v w' => v = .bool (vldP false (ps.map MpV.plain)) ∧ SX.St w [] w' []) := by
  have hs := SX.St.start w
  refine Z.enter Try.func25 rfl Try.ntmps25 rfl rfl ?_
  refine Z.seq ?_
  refine Z.region ?_
  refine Z.lb 1 rfl ?_
  refine Z.lnil ?_
  refine Z.only [0] rfl ?_
  refine Z.nthen ?_
  refine Z.seq ?_
  refine Z.region ?_
  refine Z.lb 1 rfl ?_
  refine Z.lnil ?_
  refine Z.only [0, 3] rfl ?_
  refine Z.nthen ?_
  refine Z.seq ?_
  refine Z.seq ?_
  refine Z.region ?_
  refine Z.lb 1 rfl ?_
  refine Z.lnil ?_
  refine Z.only [0, 3, 4] rfl ?_
  refine Z.nthen ?_
  refine Z.block ?_
  refine Z.loopk (ι := Nat × Bool) [0] rfl (fun x => [(3, [], .bool x.2), (4, [], .int .i64 (x.1 : Int))]) (fun x wr => (x.1 ≤ n ∧ vldP false (ps.map MpV.plain) = vldP x.2 ((ps.map MpV.plain).drop x.1)) ∧ SX.St w [] wr []) (fun x => n - x.1) (0, false) (by refine ⟨?_, ?_, trivial⟩ <;> (first | rfl | (refine Z.lookv rfl ?_; simp; done) | (refine Z.lookv rfl ?_; simp; omega))) ⟨⟨Nat.zero_le _, rfl⟩, hs⟩ ?_
  clear hs
  rintro ⟨i, d⟩ w3 ⟨⟨hi, hV⟩, hs⟩
  refine Z.only [0, 3, 4] rfl ?_
  (try dsimp only at hs)
  dsimp only at hi hV
  refine Z.seq ?_
  refine Z.seq ?_
  refine Z.region ?_
  refine Z.lb 2 rfl ?_
  refine Z.l rfl rfl (by rfl) (Z.keepS hs) (Z.Yd.lenS rfl Try.underlying22) ?_
  refine Z.lb 1 rfl ?_
  refine Z.lnil ?_
  refine Z.only [0, 3, 4, 9] rfl ?_
  refine Z.nthen ?_
  refine Z.cond rfl (fun hc3 => ?_) (fun hc3 => ?_)
  · first
      | (exfalso; simp at hc3 <;> omega)
      | (
        (try simp at hc3)
        obtain ⟨b, off, rfl, hb0, hx2⟩ := Z.Sl.some hx (by rw [fl_len mp_len]; omega)
        obtain ⟨q, hqi⟩ : ∃ q, ps[i]? = some q := ⟨_, List.getElem?_eq_getElem (by omega)⟩
        rw [plain_at hqi] at hV
        have e1 : q.plain.1 = q.lc := rfl
        have e2 : q.plain.2 = q.l := rfl
        rw [vldP_cons, e1, e2] at hV
        have hsc : sduB q.lc → ctlN q.lc = 0 := sdu_ctl
        refine Z.skip ?_
        refine Z.nthen ?_
        refine Z.seq ?_
        refine Z.block ?_
        refine Z.seq ?_
        refine Z.region ?_
        refine Z.lb 2 rfl ?_
        refine Z.l rfl rfl (by rfl) (Z.keepS hs) (Z.Yd.elem rfl rfl Try.underlying22 Try.sizeOf47 (fun hG => ⟨(by first | omega | (have hG' := Z.gh rfl hG; simp at hG'; omega)), (by first | omega | (have hG' := Z.gh rfl hG; simp at hG'; omega))⟩)) ?_
        refine Z.l rfl rfl (by rfl) (Z.keepS hs) (Z.Yd.fieldA (m := 1) rfl (by kernel_rfl)) ?_
        refine Z.l rfl rfl (by rfl) (Z.keepS hs) (Z.Yd.load rfl Try.isAgg26 (fun _ => Z.cellXf hx2.sx mp_len hqi rfl)) ?_
        refine Z.l rfl rfl (by rfl) (Z.keepS hs) (Z.Yd.lenS rfl Try.underlying26) ?_
        refine Z.lb 1 rfl ?_
        refine Z.lnil ?_
        refine Z.only [0, 3, 4, 5] rfl ?_
        refine Z.nthen ?_
        refine Z.block ?_
        refine Z.seq ?_
        refine Z.region ?_
        refine Z.lb 2 rfl ?_
        refine Z.l rfl rfl (by rfl) (Z.keepS hs) (Z.Yd.elem rfl rfl Try.underlying22 Try.sizeOf47 (fun hG => ⟨(by first | omega | (have hG' := Z.gh rfl hG; simp at hG'; omega)), (by first | omega | (have hG' := Z.gh rfl hG; simp at hG'; omega))⟩)) ?_
        refine Z.l rfl rfl (by rfl) (Z.keepS hs) (Z.Yd.fieldA (m := 0) rfl (by kernel_rfl)) ?_
        refine Z.l rfl rfl (by rfl) (Z.keepS hs) (Z.Yd.load rfl Try.isAgg3 (fun _ => Z.cellXf hx2.sx mp_len hqi rfl)) ?_
        refine Z.le rfl trivial ?_
        refine Z.ZO.call rfl rfl (by rfl) rfl rfl Try.call48 rfl (mr_sdu q.lc _) ?_
        rintro v6_5 w6_5 ⟨rfl, hy⟩
        replace hs := hs.call hy
        clear hy
        try simp only [List.cons_append, List.nil_append, List.append_nil] at hs
        refine Z.lb 9 rfl ?_
        refine Z.lnil ?_
        refine Z.only [0, 3, 4, 5, 18] rfl ?_
        refine Z.nthen ?_
        refine Z.cond rfl (fun hc6 => ?_) (fun hc6 => ?_)
        · first
            | (exfalso; simp at hc6 <;> omega)
            | (
              (try simp at hc6)
              refine Z.region ?_
              refine Z.lb 1 rfl ?_
              refine Z.lnil ?_
              refine Z.only [0, 3, 4] rfl ?_
              refine Z.nblock ?_
              refine Z.nblock ?_
              refine Z.nthen ?_
              refine Z.region ?_
              refine Z.lb 1 rfl ?_
              refine Z.l rfl rfl (by rfl) (Z.keepS hs) (Z.Yd.add rfl rfl (fun hG => Z.wi64 (by first | omega | (have hG' := Z.gh rfl hG; simp at hG'; omega)))) ?_
              refine Z.lb 1 rfl ?_
              refine Z.lnil ?_
              refine Z.only [0, 3, 4] rfl ?_
              refine Z.nthen ?_
              first
              | exact Z.again (i + 1, true) (by refine ⟨?_, ?_, ?_, trivial⟩ <;> (first | rfl | (refine Z.lookv rfl ?_; simp; done) | (refine Z.lookv rfl ?_; simp; omega))) ⟨⟨by simp only; omega, by rw [hV, if_pos (by simp_all), decide_eq_true (by omega), Bool.true_and]⟩, hs⟩ (by simp only; omega)
              | exact Z.again (i + 1, d) (by refine ⟨?_, ?_, ?_, trivial⟩ <;> (first | rfl | (refine Z.lookv rfl ?_; simp; done) | (refine Z.lookv rfl ?_; simp; omega))) ⟨⟨by simp only; omega, by rw [hV]; by_cases hsd : sduB q.lc; (have := hsc hsd; simp_all); (simp_all)⟩, hs⟩ (by simp only; omega)
              )
        · first
            | (exfalso; simp at hc6 <;> omega)
            | (
              (try simp at hc6)
              have hF : sduB q.lc → ¬ (1 ≤ q.l.length ∧ q.l.length ≤ 32767) := fun h1 h2 => by first | (simp_all; done) | (simp_all; omega)
              refine Z.seq ?_
              refine Z.region ?_
              refine Z.lb 2 rfl ?_
              refine Z.split (s := 35) rfl (fun hsp35 => ?_) (fun hsp35 => ?_)
              · first
                  | (exfalso; simp at hsp35 <;> omega)
                  | (
                    refine Z.yes (s := 35) (b := true) rfl hsp35 rfl ?_
                    (try simp at hsp35)
                    refine Z.ls rfl rfl rfl (by rfl) ?_
                    refine Z.ls rfl rfl rfl (by rfl) ?_
                    refine Z.ls rfl rfl rfl (by rfl) ?_
                    refine Z.ls rfl rfl rfl (by rfl) ?_
                    refine Z.ls rfl rfl rfl (by rfl) ?_
                    refine Z.ls rfl rfl rfl (by rfl) ?_
                    refine Z.ls rfl rfl rfl (by rfl) ?_
                    refine Z.l rfl rfl (by rfl) (Z.keepS hs) (Z.Yd.pickT rfl rfl) ?_
                    refine Z.lb 1 rfl ?_
                    refine Z.split (s := 44) rfl (fun hsp44 => ?_) (fun hsp44 => ?_)
                    · first
                        | (exfalso; simp at hsp44 <;> omega)
                        | (
                          refine Z.yes (s := 44) (b := true) rfl hsp44 rfl ?_
                          (try simp at hsp44)
                          refine Z.ls rfl rfl rfl (by rfl) ?_
                          refine Z.ls rfl rfl rfl (by rfl) ?_
                          refine Z.ls rfl rfl rfl (by rfl) ?_
                          refine Z.ls rfl rfl rfl (by rfl) ?_
                          refine Z.ls rfl rfl rfl (by rfl) ?_
                          refine Z.ls rfl rfl rfl (by rfl) ?_
                          refine Z.ls rfl rfl rfl (by rfl) ?_
                          refine Z.ls rfl rfl rfl (by rfl) ?_
                          refine Z.l rfl rfl (by rfl) (Z.keepS hs) (Z.Yd.pickT rfl rfl) ?_
                          refine Z.lb 1 rfl ?_
                          refine Z.lnil ?_
                          refine Z.only [0, 3, 4, 33] rfl ?_
                          refine Z.nthen ?_
                          refine Z.cond rfl (fun hc8 => ?_) (fun hc8 => ?_)
                          · first
                              | (exfalso; simp at hc8 <;> omega)
                              | (
                                (try simp at hc8)
                                refine Z.seq ?_
                                refine Z.region ?_
                                refine Z.lb 1 rfl ?_
                                refine Z.lnil ?_
                                refine Z.only [2] rfl ?_
                                refine Z.nthen ?_
                                refine Z.ret ?_
                                repeat (first | refine Z.rthen ?_ | refine Z.rblock ?_ | refine Z.rscope ?_)
                                -- ret#0
                                refine Z.out1 (by exact ⟨rfl, trivial⟩) ?_
                                first
                                | (obtain rfl : i = n := by omega
                                   rw [List.drop_of_length_le (by simp; omega)] at hV
                                   exact ⟨_, rfl, by rw [hV]; rfl, hs⟩)
                                | exact ⟨_, rfl, by rw [hV]; by_cases hsd : sduB q.lc; (rw [if_pos hsd, decide_eq_false (hF hsd), Bool.false_and]); (simp_all), hs⟩
                                )
                          · first
                              | (exfalso; simp at hc8 <;> omega)
                              | (
                                (try simp at hc8)
                                refine Z.skip ?_
                                refine Z.nblock ?_
                                refine Z.nblock ?_
                                refine Z.nthen ?_
                                refine Z.region ?_
                                refine Z.lb 1 rfl ?_
                                refine Z.l rfl rfl (by rfl) (Z.keepS hs) (Z.Yd.add rfl rfl (fun hG => Z.wi64 (by first | omega | (have hG' := Z.gh rfl hG; simp at hG'; omega)))) ?_
                                refine Z.lb 1 rfl ?_
                                refine Z.lnil ?_
                                refine Z.only [0, 3, 4] rfl ?_
                                refine Z.nthen ?_
                                first
                                | exact Z.again (i + 1, true) (by refine ⟨?_, ?_, ?_, trivial⟩ <;> (first | rfl | (refine Z.lookv rfl ?_; simp; done) | (refine Z.lookv rfl ?_; simp; omega))) ⟨⟨by simp only; omega, by rw [hV, if_pos (by simp_all), decide_eq_true (by omega), Bool.true_and]⟩, hs⟩ (by simp only; omega)
                                | exact Z.again (i + 1, d) (by refine ⟨?_, ?_, ?_, trivial⟩ <;> (first | rfl | (refine Z.lookv rfl ?_; simp; done) | (refine Z.lookv rfl ?_; simp; omega))) ⟨⟨by simp only; omega, by rw [hV]; by_cases hsd : sduB q.lc; (have := hsc hsd; simp_all); (simp_all)⟩, hs⟩ (by simp only; omega)
                                )
                          )
                    · first
                        | (exfalso; simp at hsp44 <;> omega)
                        | (
                          refine Z.yes (s := 44) (b := false) rfl hsp44 rfl ?_
                          (try simp at hsp44)
                          refine Z.lb 3 rfl ?_
                          refine Z.l rfl rfl (by rfl) (Z.keepS hs) (Z.Yd.elem rfl rfl Try.underlying22 Try.sizeOf47 (fun hG => ⟨(by first | omega | (have hG' := Z.gh rfl hG; simp at hG'; omega)), (by first | omega | (have hG' := Z.gh rfl hG; simp at hG'; omega))⟩)) ?_
                          refine Z.l rfl rfl (by rfl) (Z.keepS hs) (Z.Yd.fieldA (m := 0) rfl (by kernel_rfl)) ?_
                          refine Z.l rfl rfl (by rfl) (Z.keepS hs) (Z.Yd.load rfl Try.isAgg3 (fun _ => Z.cellXf hx2.sx mp_len hqi rfl)) ?_
                          refine Z.yes (s := 44) (b := false) rfl rfl rfl ?_
                          refine Z.le rfl (by exact ⟨rfl, trivial⟩) ?_
                          refine Z.ZO.call rfl rfl (by rfl) rfl rfl Try.call22 rfl (mr_Control q.lc _) ?_
                          rintro v8_17 w8_17 ⟨rfl, hy⟩
                          replace hs := hs.call hy
                          clear hy
                          try simp only [List.cons_append, List.nil_append, List.append_nil] at hs
                          refine Z.lb 1 rfl ?_
                          refine Z.yes (s := 44) (b := false) rfl rfl rfl ?_
                          refine Z.l rfl rfl (by rfl) (Z.keepS hs) (Z.Yd.pickF rfl rfl) ?_
                          refine Z.lb 1 rfl ?_
                          refine Z.lnil ?_
                          refine Z.only [0, 3, 4, 33] rfl ?_
                          refine Z.nthen ?_
                          refine Z.cond rfl (fun hc8 => ?_) (fun hc8 => ?_)
                          · first
                              | (exfalso; simp at hc8 <;> omega)
                              | (
                                (try simp at hc8)
                                refine Z.seq ?_
                                refine Z.region ?_
                                refine Z.lb 1 rfl ?_
                                refine Z.lnil ?_
                                refine Z.only [2] rfl ?_
                                refine Z.nthen ?_
                                refine Z.ret ?_
                                repeat (first | refine Z.rthen ?_ | refine Z.rblock ?_ | refine Z.rscope ?_)
                                -- ret#1
                                refine Z.out1 (by exact ⟨rfl, trivial⟩) ?_
                                first
                                | (obtain rfl : i = n := by omega
                                   rw [List.drop_of_length_le (by simp; omega)] at hV
                                   exact ⟨_, rfl, by rw [hV]; rfl, hs⟩)
                                | exact ⟨_, rfl, by rw [hV]; by_cases hsd : sduB q.lc; (rw [if_pos hsd, decide_eq_false (hF hsd), Bool.false_and]); (simp_all), hs⟩
                                )
                          · first
                              | (exfalso; simp at hc8 <;> omega)
                              | (
                                (try simp at hc8)
                                refine Z.skip ?_
                                refine Z.nblock ?_
                                refine Z.nblock ?_
                                refine Z.nthen ?_
                                refine Z.region ?_
                                refine Z.lb 1 rfl ?_
                                refine Z.l rfl rfl (by rfl) (Z.keepS hs) (Z.Yd.add rfl rfl (fun hG => Z.wi64 (by first | omega | (have hG' := Z.gh rfl hG; simp at hG'; omega)))) ?_
                                refine Z.lb 1 rfl ?_
                                refine Z.lnil ?_
                                refine Z.only [0, 3, 4] rfl ?_
                                refine Z.nthen ?_
                                first
                                | exact Z.again (i + 1, true) (by refine ⟨?_, ?_, ?_, trivial⟩ <;> (first | rfl | (refine Z.lookv rfl ?_; simp; done) | (refine Z.lookv rfl ?_; simp; omega))) ⟨⟨by simp only; omega, by rw [hV, if_pos (by simp_all), decide_eq_true (by omega), Bool.true_and]⟩, hs⟩ (by simp only; omega)
                                | exact Z.again (i + 1, d) (by refine ⟨?_, ?_, ?_, trivial⟩ <;> (first | rfl | (refine Z.lookv rfl ?_; simp; done) | (refine Z.lookv rfl ?_; simp; omega))) ⟨⟨by simp only; omega, by rw [hV]; by_cases hsd : sduB q.lc; (have := hsc hsd; simp_all); (simp_all)⟩, hs⟩ (by simp only; omega)
                                )
                          )
                    )
              · first
                  | (exfalso; simp at hsp35 <;> omega)
                  | (
                    refine Z.yes (s := 35) (b := false) rfl hsp35 rfl ?_
                    (try simp at hsp35)
                    refine Z.lb 2 rfl ?_
                    refine Z.l rfl rfl (by rfl) (Z.keepS hs) (Z.Yd.elem rfl rfl Try.underlying22 Try.sizeOf47 (fun hG => ⟨(by first | omega | (have hG' := Z.gh rfl hG; simp at hG'; omega)), (by first | omega | (have hG' := Z.gh rfl hG; simp at hG'; omega))⟩)) ?_
                    refine Z.l rfl rfl (by rfl) (Z.keepS hs) (Z.Yd.fieldA (m := 0) rfl (by kernel_rfl)) ?_
                    refine Z.l rfl rfl (by rfl) (Z.keepS hs) (Z.Yd.load rfl Try.isAgg3 (fun _ => Z.cellXf hx2.sx mp_len hqi rfl)) ?_
                    refine Z.yes (s := 35) (b := false) rfl rfl rfl ?_
                    refine Z.le rfl (by exact ⟨rfl, trivial⟩) ?_
                    refine Z.ZO.call rfl rfl (by rfl) rfl rfl Try.call22 rfl (mr_Control q.lc _) ?_
                    rintro v8_7 w8_7 ⟨rfl, hy⟩
                    replace hs := hs.call hy
                    clear hy
                    try simp only [List.cons_append, List.nil_append, List.append_nil] at hs
                    refine Z.lb 1 rfl ?_
                    refine Z.yes (s := 35) (b := false) rfl rfl rfl ?_
                    refine Z.l rfl rfl (by rfl) (Z.keepS hs) (Z.Yd.pickF rfl rfl) ?_
                    refine Z.lb 1 rfl ?_
                    refine Z.split (s := 44) rfl (fun hsp44 => ?_) (fun hsp44 => ?_)
                    · first
                        | (exfalso; simp at hsp44 <;> omega)
                        | (
                          refine Z.yes (s := 44) (b := true) rfl hsp44 rfl ?_
                          (try simp at hsp44)
                          refine Z.ls rfl rfl rfl (by rfl) ?_
                          refine Z.ls rfl rfl rfl (by rfl) ?_
                          refine Z.ls rfl rfl rfl (by rfl) ?_
                          refine Z.ls rfl rfl rfl (by rfl) ?_
                          refine Z.ls rfl rfl rfl (by rfl) ?_
                          refine Z.ls rfl rfl rfl (by rfl) ?_
                          refine Z.ls rfl rfl rfl (by rfl) ?_
                          refine Z.ls rfl rfl rfl (by rfl) ?_
                          refine Z.l rfl rfl (by rfl) (Z.keepS hs) (Z.Yd.pickT rfl rfl) ?_
                          refine Z.lb 1 rfl ?_
                          refine Z.lnil ?_
                          refine Z.only [0, 3, 4, 33] rfl ?_
                          refine Z.nthen ?_
                          refine Z.cond rfl (fun hc8 => ?_) (fun hc8 => ?_)
                          · first
                              | (exfalso; simp at hc8 <;> omega)
                              | (
                                (try simp at hc8)
                                refine Z.seq ?_
                                refine Z.region ?_
                                refine Z.lb 1 rfl ?_
                                refine Z.lnil ?_
                                refine Z.only [2] rfl ?_
                                refine Z.nthen ?_
                                refine Z.ret ?_
                                repeat (first | refine Z.rthen ?_ | refine Z.rblock ?_ | refine Z.rscope ?_)
                                -- ret#2
                                refine Z.out1 (by exact ⟨rfl, trivial⟩) ?_
                                first
                                | (obtain rfl : i = n := by omega
                                   rw [List.drop_of_length_le (by simp; omega)] at hV
                                   exact ⟨_, rfl, by rw [hV]; rfl, hs⟩)
                                | exact ⟨_, rfl, by rw [hV]; by_cases hsd : sduB q.lc; (rw [if_pos hsd, decide_eq_false (hF hsd), Bool.false_and]); (simp_all), hs⟩
                                )
                          · first
                              | (exfalso; simp at hc8 <;> omega)
                              | (
                                (try simp at hc8)
                                refine Z.skip ?_
                                refine Z.nblock ?_
                                refine Z.nblock ?_
                                refine Z.nthen ?_
                                refine Z.region ?_
                                refine Z.lb 1 rfl ?_
                                refine Z.l rfl rfl (by rfl) (Z.keepS hs) (Z.Yd.add rfl rfl (fun hG => Z.wi64 (by first | omega | (have hG' := Z.gh rfl hG; simp at hG'; omega)))) ?_
                                refine Z.lb 1 rfl ?_
                                refine Z.lnil ?_
                                refine Z.only [0, 3, 4] rfl ?_
                                refine Z.nthen ?_
                                first
                                | exact Z.again (i + 1, true) (by refine ⟨?_, ?_, ?_, trivial⟩ <;> (first | rfl | (refine Z.lookv rfl ?_; simp; done) | (refine Z.lookv rfl ?_; simp; omega))) ⟨⟨by simp only; omega, by rw [hV, if_pos (by simp_all), decide_eq_true (by omega), Bool.true_and]⟩, hs⟩ (by simp only; omega)
                                | exact Z.again (i + 1, d) (by refine ⟨?_, ?_, ?_, trivial⟩ <;> (first | rfl | (refine Z.lookv rfl ?_; simp; done) | (refine Z.lookv rfl ?_; simp; omega))) ⟨⟨by simp only; omega, by rw [hV]; by_cases hsd : sduB q.lc; (have := hsc hsd; simp_all); (simp_all)⟩, hs⟩ (by simp only; omega)
                                )
                          )
                    · first
                        | (exfalso; simp at hsp44 <;> omega)
                        | (
                          refine Z.yes (s := 44) (b := false) rfl hsp44 rfl ?_
                          (try simp at hsp44)
                          refine Z.lb 3 rfl ?_
                          refine Z.l rfl rfl (by rfl) (Z.keepS hs) (Z.Yd.elem rfl rfl Try.underlying22 Try.sizeOf47 (fun hG => ⟨(by first | omega | (have hG' := Z.gh rfl hG; simp at hG'; omega)), (by first | omega | (have hG' := Z.gh rfl hG; simp at hG'; omega))⟩)) ?_
                          refine Z.l rfl rfl (by rfl) (Z.keepS hs) (Z.Yd.fieldA (m := 0) rfl (by kernel_rfl)) ?_
                          refine Z.l rfl rfl (by rfl) (Z.keepS hs) (Z.Yd.load rfl Try.isAgg3 (fun _ => Z.cellXf hx2.sx mp_len hqi rfl)) ?_
                          refine Z.yes (s := 44) (b := false) rfl rfl rfl ?_
                          refine Z.le rfl (by exact ⟨rfl, trivial⟩) ?_
                          refine Z.ZO.call rfl rfl (by rfl) rfl rfl Try.call22 rfl (mr_Control q.lc _) ?_
                          rintro v8_17 w8_17 ⟨rfl, hy⟩
                          replace hs := hs.call hy
                          clear hy
                          try simp only [List.cons_append, List.nil_append, List.append_nil] at hs
                          refine Z.lb 1 rfl ?_
                          refine Z.yes (s := 44) (b := false) rfl rfl rfl ?_
                          refine Z.l rfl rfl (by rfl) (Z.keepS hs) (Z.Yd.pickF rfl rfl) ?_
                          refine Z.lb 1 rfl ?_
                          refine Z.lnil ?_
                          refine Z.only [0, 3, 4, 33] rfl ?_
                          refine Z.nthen ?_
                          refine Z.cond rfl (fun hc8 => ?_) (fun hc8 => ?_)
                          · first
                              | (exfalso; simp at hc8 <;> omega)
                              | (
                                (try simp at hc8)
                                refine Z.seq ?_
                                refine Z.region ?_
                                refine Z.lb 1 rfl ?_
                                refine Z.lnil ?_
                                refine Z.only [2] rfl ?_
                                refine Z.nthen ?_
                                refine Z.ret ?_
                                repeat (first | refine Z.rthen ?_ | refine Z.rblock ?_ | refine Z.rscope ?_)
                                -- ret#3
                                refine Z.out1 (by exact ⟨rfl, trivial⟩) ?_
                                first
                                | (obtain rfl : i = n := by omega
                                   rw [List.drop_of_length_le (by simp; omega)] at hV
                                   exact ⟨_, rfl, by rw [hV]; rfl, hs⟩)
                                | exact ⟨_, rfl, by rw [hV]; by_cases hsd : sduB q.lc; (rw [if_pos hsd, decide_eq_false (hF hsd), Bool.false_and]); (simp_all), hs⟩
                                )
                          · first
                              | (exfalso; simp at hc8 <;> omega)
                              | (
                                (try simp at hc8)
                                refine Z.skip ?_
                                refine Z.nblock ?_
                                refine Z.nblock ?_
                                refine Z.nthen ?_
                                refine Z.region ?_
                                refine Z.lb 1 rfl ?_
                                refine Z.l rfl rfl (by rfl) (Z.keepS hs) (Z.Yd.add rfl rfl (fun hG => Z.wi64 (by first | omega | (have hG' := Z.gh rfl hG; simp at hG'; omega)))) ?_
                                refine Z.lb 1 rfl ?_
                                refine Z.lnil ?_
                                refine Z.only [0, 3, 4] rfl ?_
                                refine Z.nthen ?_
                                first
                                | exact Z.again (i + 1, true) (by refine ⟨?_, ?_, ?_, trivial⟩ <;> (first | rfl | (refine Z.lookv rfl ?_; simp; done) | (refine Z.lookv rfl ?_; simp; omega))) ⟨⟨by simp only; omega, by rw [hV, if_pos (by simp_all), decide_eq_true (by omega), Bool.true_and]⟩, hs⟩ (by simp only; omega)
                                | exact Z.again (i + 1, d) (by refine ⟨?_, ?_, ?_, trivial⟩ <;> (first | rfl | (refine Z.lookv rfl ?_; simp; done) | (refine Z.lookv rfl ?_; simp; omega))) ⟨⟨by simp only; omega, by rw [hV]; by_cases hsd : sduB q.lc; (have := hsc hsd; simp_all); (simp_all)⟩, hs⟩ (by simp only; omega)
                                )
                          )
                    )
              )
        )
  · first
      | (exfalso; simp at hc3 <;> omega)
      | (
        (try simp at hc3)
        refine Z.exit ?_
        refine Z.xthen ?_
        refine Z.xthen ?_
        refine Z.xblock ?_
        refine Z.nthen ?_
        refine Z.seq ?_
        refine Z.region ?_
        refine Z.lb 1 rfl ?_
        refine Z.lnil ?_
        refine Z.only [2] rfl ?_
        refine Z.nthen ?_
        refine Z.ret ?_
        -- ret#4
        refine Z.out1 (by exact ⟨rfl, trivial⟩) ?_
        first
        | (obtain rfl : i = n := by omega
           rw [List.drop_of_length_le (by simp; omega)] at hV
           exact ⟨_, rfl, by rw [hV]; rfl, hs⟩)
        | exact ⟨_, rfl, by rw [hV]; by_cases hsd : sduB q.lc; (rw [if_pos hsd, decide_eq_false (hF hsd), Bool.false_and]); (simp_all), hs⟩
        )
/-- the length field -/
def lenF (n : Nat) : List Int := if n ≤ 127 then [(n : Int)] else [128 + (n : Int) / 256, (n : Int) % 256]
theorem lenF_bd {n : Nat} (h : n ≤ 32767) : (∀ x ∈ lenF n, 0 ≤ x ∧ x < 256) ∧ (lenF n).length ≤ 2 := by
  unfold lenF
  split
  · refine ⟨fun x hx => ?_, by simp⟩
    obtain rfl : x = n := by simpa using hx
    omega
  · refine ⟨fun x hx => ?_, by simp⟩
    simp at hx
    rcases hx with rfl | rfl <;> omega
theorem mr_field (n : Nat) (w : World) (hn : n ≤ 32767) : Calls Try.prog 54 #[.int .i64 (n : Int)] w (SX.Ret fun v w' => ∃ g, v = .slice (some ⟨g, 0, none⟩) (lenF n).length (lenF n).length ∧ SX.St w [] w' [SX.Ent.blk g 5 (ints .u8 (lenF n)).toArray]) := by
  have hs := SX.St.start w
  unfold lenF
  refine Z.enter Try.func54 rfl Try.ntmps54 rfl rfl ?_
  refine Z.seq ?_
  refine Z.region ?_
  refine Z.lb 1 rfl ?_
  refine Z.lnil ?_
  refine Z.only [0] rfl ?_
  refine Z.nthen ?_
  refine Z.seq ?_
  refine Z.seq ?_
  refine Z.region ?_
  refine Z.lb 2 rfl ?_
  refine Z.lnil ?_
  refine Z.only [0, 4] rfl ?_
  refine Z.nthen ?_
  refine Z.cond rfl (fun hc1 => ?_) (fun hc1 => ?_)
  · first
      | (exfalso; simp at hc1 <;> omega)
      | (
        (try simp at hc1)
        refine Z.seq ?_
        refine Z.region ?_
        refine Z.lb 1 rfl ?_
        refine Z.l rfl rfl (by rfl) (Z.keepS hs) (Z.Yd.convI rfl ⟨_, Try.underlying3⟩ Try.underlying5 (fun _ => Z.wu8 (by omega))) ?_
        refine Z.le rfl trivial ?_
        refine Z.ZO.litL (T' := 5) [(0, 1)] [.int .u8 0] rfl rfl (by rfl) rfl rfl (by intro W; kernel_rfl) hs ?_
        clear hs; intro g7 w7 hs
        refine Z.lb 1 rfl ?_
        refine Z.lnil ?_
        refine Z.only [2] rfl ?_
        refine Z.nthen ?_
        refine Z.ret ?_
        repeat (first | refine Z.rthen ?_ | refine Z.rblock ?_ | refine Z.rscope ?_)
        -- ret#0
        refine Z.out1 (by exact ⟨rfl, trivial⟩) ?_
        first
        | (rw [if_pos (by omega)]; exact ⟨_, rfl, _, rfl, hs⟩)
        | (rw [if_neg (by omega)]; exact ⟨_, rfl, _, rfl, hs⟩)
        )
  · first
      | (exfalso; simp at hc1 <;> omega)
      | (
        (try simp at hc1)
        refine Z.skip ?_
        refine Z.nthen ?_
        refine Z.seq ?_
        refine Z.region ?_
        refine Z.lb 1 rfl ?_
        refine Z.l rfl rfl (by rfl) (Z.keepS hs) (Z.Yd.quo rfl rfl (by intro hG; first | decide | omega) (by intro hG; first | exact Z.qi64 ⟨by omega, by omega⟩ (by omega) | exact rfl)) ?_
        refine Z.l rfl rfl (by rfl) (Z.keepS hs) (Z.Yd.add rfl rfl (fun hG => Z.wi64 (by first | omega | (have hG' := Z.gh rfl hG; simp at hG'; omega)))) ?_
        refine Z.l rfl rfl (by rfl) (Z.keepS hs) (Z.Yd.convI rfl ⟨_, Try.underlying3⟩ Try.underlying5 (fun hG => Z.wu8 (by first | omega | (have hG' := Z.gh rfl hG; simp at hG'; omega)))) ?_
        refine Z.lb 1 rfl ?_
        refine Z.l rfl rfl (by rfl) (Z.keepS hs) (Z.Yd.rem rfl rfl (by intro hG; first | decide | omega) (by intro hG; first | exact Z.tmodn (by omega) | exact rfl)) ?_
        refine Z.l rfl rfl (by rfl) (Z.keepS hs) (Z.Yd.convI rfl ⟨_, Try.underlying3⟩ Try.underlying5 (fun hG => Z.wu8 (by first | omega | (have hG' := Z.gh rfl hG; simp at hG'; omega)))) ?_
        refine Z.le rfl trivial ?_
        refine Z.ZO.litL (T' := 5) [(0, 1), (1, 1)] [.int .u8 0, .int .u8 0] rfl rfl (by rfl) rfl rfl (by intro W; kernel_rfl) hs ?_
        clear hs; intro g15 w15 hs
        refine Z.lb 1 rfl ?_
        refine Z.lnil ?_
        refine Z.only [2] rfl ?_
        refine Z.nthen ?_
        refine Z.ret ?_
        -- ret#1
        refine Z.out1 (by exact ⟨rfl, trivial⟩) ?_
        first
        | (rw [if_pos (by omega)]; exact ⟨_, rfl, _, rfl, hs⟩)
        | (rw [if_neg (by omega)]; exact ⟨_, rfl, _, rfl, hs⟩)
        )
/-- the subheaders; whether padding follows -/
def hdsR : List Prt → Bool → List Int
  | [], _ => []
  | p :: r, a => (if r.isEmpty && !a then [p.1] else (p.1 + 32) :: (if sduB p.1 then lenF p.2.length else [])) ++ hdsR r a
def datR (r : List Prt) : List Int := r.flatMap (·.2)
def joinB (r : List Prt) (front : Nat) (after : Int) : List Int :=
  List.replicate front 63 ++ hdsR r (decide (0 ≤ after)) ++ (if 0 ≤ after then [31] else []) ++ (datR r ++ if 0 ≤ after then List.replicate after.toNat 0 else [])
/-- what is known of a valid list -/
theorem vldP_mem : ∀ {r : List Prt} {d : Bool}, vldP d r = true → ∀ p ∈ r, (1 ≤ p.1 ∧ p.1 ≤ 30) ∧ p.2.length ≤ 32767
  | [], _, _, p, hp => by cases hp
  | q :: r, d, h, p, hp => by
    rw [vldP_cons] at h
    rcases List.mem_cons.1 hp with rfl | hp
    · by_cases hs : sduB p.1
      · rw [if_pos hs] at h
        simp at h
        unfold sduB at hs
        omega
      · rw [if_neg hs] at h
        simp at h
        have h2 := h.1
        have h3 := ctlN_bd p.1
        refine ⟨?_, by omega⟩
        unfold ctlN at h2
        split at h2
        · omega
        · split at h2
          · omega
          · split at h2
            · omega
            · split at h2
              · omega
              · simp at h2
    · by_cases hs : sduB q.1
      · rw [if_pos hs] at h
        simp at h
        exact vldP_mem h.2 p hp
      · rw [if_neg hs] at h
        simp at h
        exact vldP_mem h.2 p hp
end Go.Proofs.Ytogjkgoiofngaaa

/- Zeros appended to a row of ours: append(s, make([]T, n)...). -/
namespace Go.Proofs.Ytogjkgoiofngaaa
open Go.RowKit
set_option linter.unusedVariables false
set_option linter.unusedSimpArgs false
theorem zeroCells_one (z : Value) (n : Nat) : (Builtin.zeroCells #[z] n) = (List.replicate n z).toArray := by
  apply Array.ext'
  apply List.ext_getElem?
  intro i
  by_cases h : i < n
  · simp [Builtin.zeroCells, List.getElem?_replicate, h, Nat.mod_one]
  · rw [List.getElem?_eq_none (by simp [Builtin.zeroCells]; omega), List.getElem?_eq_none (by simp; omega)]
theorem wrap_nat {m : Nat} (h : m ≤ 140737488355328) : IntKind.i64.wrap (m : Int) = (m : Int) := Z.wi64 (by omega)
theorem run_appendZ {P : Program} (w : World) (t ti ty e : TypeId) (i : TypeInfo) (z : Value) (k kd : IntKind) (ht : P.underlying t = some (.slice e)) (hti : P.underlying ti = some (.int kd)) (hi : P.info? e = some i) (hz : i.zero = some z)
    (hsize : i.size = 1) (hby : i.bytes = 1) (hzs : z.cells = #[z]) (h1 : z.oneCell' = true) (v : Value) (n : Nat) (xs : List Value) (hown : w.ownsRow 0 e 1 v n xs) (m : Nat) (hm : n + m ≤ 140737488355328) :
    ∃ v' w', (Builtin.append_ #[t, ti] ty #[v, .int k (m : Int)]).run P w = .ok v' w' ∧ w'.ownsRow 0 e 1 v' (n + m) (xs ++ List.replicate m z) ∧ w.grownBy w' v.ownBlock ∧ (v'.ownBlock = v.ownBlock ∨ v'.ownBlock = some w.heap.size) := by
  have hw := wrap_nat (m := m) (by omega)
  have h48 : ¬ (281474976710656 < (m : Int)) := by omega
  have hw0 : IntKind.i64.wrap 0 = 0 := rfl
  have hneg : ¬ ((m : Int) < 0) := by omega
  have hmx : n + m ≤ maxLen := by unfold maxLen; omega
  have hlen : (xs ++ List.replicate m z).length = (n + m) * 1 := by rw [List.length_append, hown.1, List.length_replicate]; omega
  have grown : ∀ (old : Nat), old < n + m → ∀ (row : Option Nat),
      (w.drew.alloc (.cells (xs.toArray ++ (List.replicate m z).toArray ++ Builtin.zeroCells z.cells (grownCap w (n + m) old e - (n + m))) e)).ownsRow 0 e 1
        (.slice (some ⟨w.heap.size, 0, none⟩) (n + m) (grownCap w (n + m) old e)) (n + m) (xs ++ List.replicate m z) ∧
      w.grownBy (w.drew.alloc (.cells (xs.toArray ++ (List.replicate m z).toArray ++ Builtin.zeroCells z.cells (grownCap w (n + m) old e - (n + m))) e)) row := by
    intro old ho row
    have hge := grownCap_ge w (n + m) old e
    have hcm : grownCap w (n + m) old e ≤ maxLen := grownCap_le_maxLen w (n + m) old e hmx
    have hx := hown.1
    refine ⟨⟨hlen, .inr ⟨w.heap.size, _, _, rfl, Nat.zero_le _, heap_alloc_new w.drew _, hge, hcm, ?_, ?_⟩⟩, ⟨rfl, rfl, rfl, by simp, fun k hk _ => heap_alloc_old w.drew _ hk⟩⟩
    · simp only [Array.size_append, List.size_toArray, size_zeroCells, hzs, List.length_replicate, List.length_cons, List.length_nil]
      omega
    · simp only [Array.toList_append, List.append_assoc]
      rw [← List.append_assoc, ← hlen]
      exact List.take_left
  rcases hown.2 with ⟨rfl, rfl⟩ | ⟨g, cap, cur, rfl, hbg, hg, hnc, hcm, hcs, htake⟩
  · have hx : xs = [] := List.eq_nil_of_length_eq_zero (by simpa using hown.1)
    subst hx
    by_cases hm0 : m = 0
    · subst hm0
      refine ⟨.slice none 0 0, w, ?_, by simpa using World.ownsRow_nil w 0 e 1, ⟨rfl, rfl, rfl, Nat.le_refl _, fun _ _ _ => rfl⟩, Or.inl rfl⟩
      simp [Builtin.append_, run_underlying ht, run_underlying hti, sizeOf, typeInfo, hi, asIntOf, asInt, hw, hw0, hby, hsize]
    · have hgr := grown 0 (by omega) (Value.ownBlock (.slice none 0 0))
      simp only [Nat.zero_add, List.nil_append, Array.empty_append] at hgr ⊢
      refine ⟨_, _, ?_, hgr.1, hgr.2, Or.inr rfl⟩
      have h63' : ¬ (9223372036854775807 < (m : Int)) := by omega
      have h48' : ¬ (281474976710656 < Builtin.nextslicecap m 0) := by rw [nextslicecap_zero (by omega)]; omega
      simp [Builtin.append_, run_underlying ht, run_underlying hti, sizeOf, typeInfo, zeroValue, hi, hz, asIntOf, asInt, hw, hw0, hby, hsize, hm0, h48, hneg, h63', h48', Question.forced, run_firstCells_none, newRow, grownCap, hzs, zeroCells_one]
  · by_cases hroom : n + m ≤ cap
    · have hfit : n * 1 + (List.replicate m z).length ≤ cur.size := by rw [List.length_replicate, hcs]; omega
      have hst := run_storeCells_at P g (n * 1) e (List.replicate m z) 0 cur w hg (by simpa using hfit) (fun u hu => by rw [(List.mem_replicate.1 hu).2]; exact h1)
      have hr : (Builtin.append_ #[t, ti] ty #[.slice (some ⟨g, 0, none⟩) n cap, .int k (m : Int)]).run P w = .ok (.slice (some ⟨g, 0, none⟩) (n + m) cap) (w.setRow g (cur.toList.take (n * 1) ++ List.replicate m z ++ cur.toList.drop (n * 1 + (List.replicate m z).length)).toArray) := by
        simp only [Nat.add_zero, Nat.mul_one, List.length_replicate] at hst
        by_cases hm0 : m = 0
        · subst hm0
          simp only [List.replicate_zero] at hst ⊢
          simp [Builtin.append_, run_underlying ht, run_underlying hti, sizeOf, typeInfo, hi, asIntOf, asInt, hw, hw0, hby, hsize, hroom, hnc, Addr.add_lit, hst]
        · simp [Builtin.append_, run_underlying ht, run_underlying hti, sizeOf, typeInfo, zeroValue, hi, hz, asIntOf, asInt, hw, hw0, hby, hsize, hm0, h48, hneg, hroom, Addr.add_lit, hzs, zeroCells_one, hst]
      refine ⟨_, _, hr, ⟨hlen, .inr ⟨g, cap, _, rfl, hbg, setRow_heap w g cur _ e _ hg, hroom, hcm, ?_, ?_⟩⟩, ⟨rfl, rfl, rfl, by simp, fun k _ hk => setRow_other w g k _ (fun e => hk (by simp [Value.ownBlock, e]))⟩, Or.inl rfl⟩
      · simp only [List.size_toArray, List.length_append, List.length_take, List.length_drop, Array.length_toList]
        omega
      · rw [htake, ← hlen]
        exact List.take_left
    · have holds : ∀ j u, xs[j]? = some u → w.cell? ((⟨g, 0, none⟩ : Addr).add j) = some u := hown.cells (g := g) rfl
      have hfo := run_firstCells_some (P := P) w.drew 1 n ⟨g, 0, none⟩ n cap xs hown.1 (by simpa using holds)
      have hgr := grown cap (by omega) (Value.ownBlock (.slice (some ⟨g, 0, none⟩) n cap))
      refine ⟨_, _, ?_, hgr.1, hgr.2, Or.inr rfl⟩
      have hn : ¬ (n + m ≤ cap) := hroom
      have h63' : ¬ (9223372036854775807 < ((n : Int) + (m : Int))) := by omega
      have h48' : ¬ (281474976710656 < Builtin.nextslicecap (n + m) cap) := by
        have := growslice_fits (need := n + m) (old := cap) (bytes := 1) (by omega) (by omega)
        omega
      have hm0 : ¬ m = 0 := by omega
      simp [Builtin.append_, run_underlying ht, run_underlying hti, sizeOf, typeInfo, zeroValue, hi, hz, asIntOf, asInt, hw, hw0, hby, hsize, hm0, h48, hneg, hn, h63', h48', Question.forced, hfo, newRow, grownCap, hzs, zeroCells_one]
      try (congr 2; apply Array.ext'; simp [List.append_assoc])
namespace Z
variable {N : Nat} {E E' : Env} {D : List Deferred} {a : Act} {G : Guards} {F : Fence} {n : Nat} {P : Program} {S : World → Prop} {ops : Array Oper} {o : Oper} {v : Value}
variable {K : Act → World → Prop} {Q : Exit → Act → World → Prop} {w w' w0 : World} {M : List Nat} {L : List SX.Ent} {x : Operand} {d : Nat} {T' : TypeId}
/-- append(s, make([]T, m)...) -/
theorem ZO.appendZ [Wide F] {s z : Operand} {t ti : TypeId} {kk m j : Nat} {k kd : IntKind} {c : Int} {xs : List Value} {i0 : TypeInfo} {zv : Value}
    (ho : o.op = .call { callee := .builtin .append, args := #[s, z], argTypes := #[t, ti] }) (hd : o.dst = some d) (hc : chk N d E [] = true) (hs : SX.St w0 M w L)
    (ht : P.underlying t = some (.slice T')) (hti : P.underlying ti = some (.int kd)) (hi : P.info? T' = some i0) (hz : i0.zero = some zv) (hsize : i0.size = 1) (hby : i0.bytes = 1) (hzs : zv.cells = #[zv]) (h1 : zv.oneCell' = true)
    (hv : ev E [] s = some v) (hx : ev E [] z = some (.int k c)) (hj : L[j]? = some (SX.Ent.row v T' 1 kk xs)) (hcm : c = (m : Int)) (hbytes : kk + m ≤ 140737488355328)
    (h : ∀ v' w', SX.St w0 M w' (L.set j (SX.Ent.row v' T' 1 (kk + m) (xs ++ List.replicate m zv))) → Z N ((d, [], v') :: E) D K w') : ZO F n P N E D o K Q w := by
  subst hcm
  intro a ha
  obtain ⟨c1, c2, c3⟩ := chk_spec hc
  have hr : w.ownsRow 0 T' 1 v kk xs := hs.get hj
  obtain ⟨v', w', hrun, h2, h3, h5⟩ := run_appendZ (P := P) w t ti o.type T' i0 zv k kd ht hti hi hz hsize hby hzs h1 v kk xs hr m hbytes
  refine ⟨fun f _ => Wide.fn f, ?_⟩
  rw [Oper.semAt_plain F _ _ (by intro c hc; rw [ho] at hc; cases hc)]
  simp only [execOp, ho, resolve, invoke, builtin, Sem.run_bind, Sem.run_pure, Result.andThen_ok, List.map_toArray, List.map_cons, List.map_nil, ev0 ha hv, ev0 ha hx, hrun]
  have hst : SX.St w0 M w' (L.set j (SX.Ent.row v' T' 1 (kk + m) (xs ++ List.replicate m zv))) := SX.St.back hj ((hs.front hj).step h3.os h3.tape h3.output h3.size (fun b hb hne => h3.block b hb (fun e => hne (by simp [SX.Ent.row, ← e])))
    (by cases h : v'.ownBlock <;> simp [SX.Ent.row, h]) (fun b hb => by
      have hb' : v'.ownBlock = some b := by
        cases h : v'.ownBlock with
        | none => simp [SX.Ent.row, h] at hb
        | some q => simp [SX.Ent.row, h] at hb; rw [hb]
      rcases h5 with h5 | h5
      · left
        rw [h5] at hb'
        simp [SX.Ent.row, hb']
      · right
        rw [h5] at hb'
        simp only [Option.some.injEq] at hb'
        omega) h2)
  show K (a.put o.dst v') w'
  rw [hd]
  exact h v' w' hst _ (ha.put c1 c2 c3 (by rw [if_pos gnil]))
end Z
end Go.Proofs.Ytogjkgoiofngaaa
