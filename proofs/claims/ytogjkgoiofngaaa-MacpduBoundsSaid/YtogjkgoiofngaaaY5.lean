/- Part 5 of the proofs that lead to the statement. -/
import Derived.Test.YtogjkgoiofngaaaY4
/- MAC PDUs: the document's join. -/
namespace Go.Proofs.Ytogjkgoiofngaaa
open Go.RowKit
set_option linter.unusedSimpArgs false
set_option linter.unusedVariables false
--newlaws

theorem ints_app (k : IntKind) (a b : List Int) : ints k (a ++ b) = ints k a ++ ints k b := by simp [ints]
theorem hdsR_cons (p : Prt) (r : List Prt) (a : Bool) : hdsR (p :: r) a = (if r.isEmpty && !a then [p.1] else (p.1 + 32) :: (if sduB p.1 then lenF p.2.length else [])) ++ hdsR r a := rfl
theorem datR_snoc (r : List Prt) (p : Prt) : datR (r ++ [p]) = datR r ++ p.2 := by simp [datR]
theorem datR_le {ps : List MpV} (hf : ∀ q ∈ ps, q.l.length ≤ 100000) : (datR (ps.map MpV.plain)).length ≤ ps.length * 100000 := by
  induction ps with
  | nil => simp [datR]
  | cons q r ih =>
    have h1 := ih fun x hx => hf x (by simp [hx])
    have h2 := hf q (by simp)
    have e : (datR ((q :: r).map MpV.plain)).length = q.l.length + (datR (r.map MpV.plain)).length := by simp [datR, MpV.plain]
    rw [e, List.length_cons]
    omega
theorem drop_empty {ps : List MpV} {i n : Nat} (hl : ps.length = n) (hi : i < n) : ((ps.map MpV.plain).drop (i + 1)).isEmpty = decide ((i : Int) = (n : Int) - 1) := by
  rw [Bool.eq_iff_iff]
  simp [List.isEmpty_iff]
  omega
set_option maxHeartbeats 1000000 in
set_option maxRecDepth 100000 in
theorem mr_join (A : Option Addr) (n c front : Nat) (after : Int) (ps : List MpV) (w : World) (hx : Sl w A (ps.flatMap MpV.cells)) (hl : ps.length = n) (hn : n ≤ 100) (hf : ∀ q ∈ ps, q.l.length ≤ 100000) (hB : ∀ q ∈ ps, Sl w q.B (ints .u8 q.l))
    (hv : vldP false (ps.map MpV.plain) = true) (hfr : front ≤ 2) (haf : -1 ≤ after ∧ after ≤ 20000) :
    Calls Try.prog 39 #[.slice A n c, .int .i64 (front : Int), .int .i64 after] w (SX.Ret fun v w' => SX.St w [] w' [SX.Ent.row v 5 1 (joinB (ps.map MpV.plain) front after).length (ints .u8 (joinB (ps.map MpV.plain) front after))]) := by
  have hs := SX.St.start w
  have hmem := vldP_mem hv
  refine Z.enter Try.func39 rfl Try.ntmps39 rfl rfl ?_
  refine Z.seq ?_
  refine Z.region ?_
  refine Z.lb 1 rfl ?_
  refine Z.lnil ?_
  refine Z.only [0, 1, 2] rfl ?_
  refine Z.nthen ?_
  refine Z.seq ?_
  refine Z.region ?_
  refine Z.lb 2 rfl ?_
  refine Z.lnil ?_
  refine Z.only [0, 1, 2, 7, 8] rfl ?_
  refine Z.nthen ?_
  refine Z.seq ?_
  refine Z.seq ?_
  refine Z.region ?_
  replace hs := (hs.nil 5 1).nil 5 1
  refine Z.l rfl rfl (by rfl) (Z.keepS hs) (Z.Yd.pure rfl) ?_
  refine Z.lnil ?_
  refine Z.only [0, 1, 2, 7, 8, 9] rfl ?_
  refine Z.nthen ?_
  refine Z.block ?_
  refine Z.loopk (ι := Nat × Value) [0, 1, 2, 8] rfl (fun x => [(7, [], x.2), (9, [], .int .i64 (x.1 : Int))]) (fun x wr => x.1 ≤ front ∧ SX.St w [] wr [SX.Ent.row x.2 5 1 x.1 (ints .u8 (List.replicate x.1 63)), SX.Ent.row (.slice none 0 0) 5 1 0 []]) (fun x => front - x.1) (0, .slice none 0 0) (by refine ⟨?_, ?_, trivial⟩ <;> (first | rfl | (refine Z.lookv rfl ?_; simp; done) | (refine Z.lookv rfl ?_; simp; omega))) ⟨Nat.zero_le _, hs⟩ ?_
  clear hs
  rintro ⟨i, hv1⟩ w3 ⟨hi, hs⟩
  refine Z.only [0, 1, 2, 7, 8, 9] rfl ?_
  (try dsimp only at hs)
  dsimp only at hi hs
  refine Z.seq ?_
  refine Z.seq ?_
  refine Z.region ?_
  refine Z.lb 3 rfl ?_
  refine Z.lnil ?_
  refine Z.only [0, 1, 2, 7, 8, 9, 15] rfl ?_
  refine Z.nthen ?_
  refine Z.cond rfl (fun hc3 => ?_) (fun hc3 => ?_)
  · first
      | (exfalso; simp at hc3 <;> omega)
      | (
        (try simp at hc3)
        refine Z.skip ?_
        refine Z.nthen ?_
        refine Z.seq ?_
        refine Z.block ?_
        refine Z.region ?_
        refine Z.lb 1 rfl ?_
        refine Z.le rfl trivial ?_
        refine Z.ZO.litL (T' := 5) [(0, 1)] [.int .u8 0] rfl rfl (by rfl) rfl rfl (by intro W; kernel_rfl) hs ?_
        clear hs; intro g19 w19 hs
        refine Z.le rfl trivial ?_
        refine Z.ZO.append (i0 := Try.t5) (size := 1) (bytes := 1) rfl rfl (by rfl) hs Try.underlying26 (by kernel_rfl) rfl rfl rfl rfl (by decide) rfl rfl (by first | exact SX.at0 | exact SX.at1 | exact SX.at2 | exact SX.at3 | exact SX.at4 | exact SX.at5 | exact Z.at6 | exact Z.at7 | exact Z.at8 | exact Z.at9 | exact Z.at10 | exact Z.at11 | exact Z.at12) (by first | exact SX.at0 | exact SX.at1 | exact SX.at2 | exact SX.at3 | exact SX.at4 | exact SX.at5 | exact Z.at6 | exact Z.at7 | exact Z.at8 | exact Z.at9 | exact Z.at10 | exact Z.at11 | exact Z.at12) (by first | rfl | simp) (by simp [Value.oneCell']) (by decide) (by unfold maxLen; omega) (by omega) ?_
        clear hs; intro g20 cap20 w20 hs
        simp only [List.set_cons_zero, List.set_cons_succ, List.eraseIdx_cons_zero, List.eraseIdx_cons_succ] at hs
        refine Z.lb 1 rfl ?_
        refine Z.lnil ?_
        refine Z.only [0, 1, 2, 7, 8, 9] rfl ?_
        refine Z.nblock ?_
        refine Z.nthen ?_
        refine Z.region ?_
        refine Z.lb 1 rfl ?_
        refine Z.l rfl rfl (by rfl) (Z.keepS hs) (Z.Yd.add rfl rfl (fun hG => Z.wi64 (by first | omega | (have hG' := Z.gh rfl hG; simp at hG'; omega)))) ?_
        refine Z.lb 1 rfl ?_
        refine Z.lnil ?_
        refine Z.only [0, 1, 2, 7, 8, 9] rfl ?_
        refine Z.nthen ?_
        have e : ints .u8 (List.replicate (i + 1) 63) = ints .u8 (List.replicate i 63) ++ [.int .u8 63] := by rw [List.replicate_succ']; simp [ints]
        exact Z.again (i + 1, _) (by refine ⟨?_, ?_, ?_, ?_, ?_, ?_, trivial⟩ <;> (first | rfl | (refine Z.lookv rfl ?_; simp; done) | (refine Z.lookv rfl ?_; simp; omega))) ⟨by simp only; omega, by simp only; rw [e]; exact hs⟩ (by simp only; omega)
        )
  · first
      | (exfalso; simp at hc3 <;> omega)
      | (
        (try simp at hc3)
        refine Z.exit ?_
        refine Z.xthen ?_
        refine Z.xthen ?_
        refine Z.xblock ?_
        refine Z.nthen ?_
        refine Z.seq ?_
        refine Z.seq ?_
        refine Z.region ?_
        obtain rfl : i = front := by omega
        refine Z.l rfl rfl (by rfl) (Z.keepS hs) (Z.Yd.pure rfl) ?_
        refine Z.lnil ?_
        refine Z.only [0, 2, 7, 8, 10] rfl ?_
        refine Z.nthen ?_
        refine Z.block ?_
        refine Z.loopk (ι := Nat × Value × Value × List Int) [0, 2] rfl (fun x => [(7, [], x.2.1), (8, [], x.2.2.1), (10, [], .int .i64 (x.1 : Int))]) (fun x wr => (x.1 ≤ n ∧ x.2.2.2 ++ hdsR ((ps.map MpV.plain).drop x.1) (decide (0 ≤ after)) = List.replicate i 63 ++ hdsR (ps.map MpV.plain) (decide (0 ≤ after)) ∧ x.2.2.2.length ≤ 2 + 3 * x.1) ∧ SX.St w [] wr [SX.Ent.row x.2.1 5 1 x.2.2.2.length (ints .u8 x.2.2.2), SX.Ent.row x.2.2.1 5 1 (datR ((ps.map MpV.plain).take x.1)).length (ints .u8 (datR ((ps.map MpV.plain).take x.1)))]) (fun x => n - x.1) (0, hv1, .slice none 0 0, List.replicate i 63) (by refine ⟨?_, ?_, ?_, trivial⟩ <;> (first | rfl | (refine Z.lookv rfl ?_; simp; done) | (refine Z.lookv rfl ?_; simp; omega))) ⟨⟨Nat.zero_le _, rfl, by simp only [List.length_replicate]; omega⟩, by simp only [List.length_replicate]; exact hs⟩ ?_
        clear hs
        rintro ⟨k, h1, d1, acc⟩ w7 ⟨⟨hk, hacc, hal⟩, hs⟩
        refine Z.only [0, 2, 7, 8, 10] rfl ?_
        (try dsimp only at hs)
        dsimp only at hk hacc hal hs
        refine Z.seq ?_
        refine Z.seq ?_
        refine Z.region ?_
        refine Z.lb 2 rfl ?_
        refine Z.l rfl rfl (by rfl) (Z.keepS hs) (Z.Yd.lenS rfl Try.underlying22) ?_
        refine Z.lb 1 rfl ?_
        refine Z.lnil ?_
        refine Z.only [0, 2, 7, 8, 10, 24] rfl ?_
        refine Z.nthen ?_
        refine Z.cond rfl (fun hc7 => ?_) (fun hc7 => ?_)
        · first
            | (exfalso; simp at hc7 <;> omega)
            | (
              (try simp at hc7)
              obtain ⟨b, off, rfl, hb0, hx2⟩ := Z.Sl.some hx (by rw [fl_len mp_len]; omega)
              obtain ⟨q, hqi⟩ : ∃ q, ps[k]? = some q := ⟨_, List.getElem?_eq_getElem (by omega)⟩
              have hqm := List.mem_of_getElem? hqi
              have hqf := hf q hqm
              have hqB := hB q hqm
              obtain ⟨⟨q1, q2⟩, q3⟩ := hmem q.plain (List.mem_map_of_mem hqm)
              have e1 : q.plain.1 = q.lc := rfl
              have e2 : q.plain.2 = q.l := rfl
              rw [e1] at q1 q2
              rw [e2] at q3
              rw [plain_at hqi, hdsR_cons, e1, e2, drop_empty hl (by omega)] at hacc
              have htk := plain_take hqi
              have hdl := datR_le (ps := ps.take k) fun x hx => hf x (List.mem_of_mem_take hx)
              rw [List.map_take, List.length_take] at hdl
              have hdl2 : (datR ((ps.map MpV.plain).take k)).length ≤ 10000000 := by
                have : min k ps.length * 100000 ≤ 100 * 100000 := Nat.mul_le_mul_right _ (by omega)
                omega
              obtain ⟨lb1, lb2⟩ := lenF_bd q3
              refine Z.skip ?_
              refine Z.nthen ?_
              refine Z.seq ?_
              refine Z.block ?_
              refine Z.seq ?_
              refine Z.region ?_
              refine Z.lb 2 rfl ?_
              refine Z.l rfl rfl (by rfl) (Z.keepS hs) (Z.Yd.lenS rfl Try.underlying22) ?_
              refine Z.l rfl rfl (by rfl) (Z.keepS hs) (Z.Yd.sub rfl rfl (fun hG => Z.wi64 (by first | omega | (have hG' := Z.gh rfl hG; simp at hG'; omega)))) ?_
              refine Z.lb 6 rfl ?_
              refine Z.lnil ?_
              refine Z.only [0, 2, 7, 8, 10, 11] rfl ?_
              refine Z.nthen ?_
              refine Z.seq ?_
              refine Z.region ?_
              refine Z.lb 2 rfl ?_
              refine Z.l rfl rfl (by rfl) (Z.keepS hs) (Z.Yd.elem rfl rfl Try.underlying22 Try.sizeOf47 (fun hG => ⟨(by first | omega | (have hG' := Z.gh rfl hG; simp at hG'; omega)), (by first | omega | (have hG' := Z.gh rfl hG; simp at hG'; omega))⟩)) ?_
              refine Z.l rfl rfl (by rfl) (Z.keepS hs) (Z.Yd.fieldA (m := 0) rfl (by kernel_rfl)) ?_
              refine Z.l rfl rfl (by rfl) (Z.keepS hs) (Z.Yd.load rfl Try.isAgg3 (fun _ => Z.cellXf hx2.sx mp_len hqi rfl)) ?_
              refine Z.l rfl rfl (by rfl) (Z.keepS hs) (Z.Yd.convI rfl ⟨_, Try.underlying3⟩ Try.underlying5 (fun hG => Z.wu8 (by first | omega | (have hG' := Z.gh rfl hG; simp at hG'; omega)))) ?_
              refine Z.lb 1 rfl ?_
              refine Z.lnil ?_
              refine Z.only [0, 2, 7, 8, 10, 11, 12] rfl ?_
              refine Z.nthen ?_
              refine Z.seq ?_
              refine Z.seq ?_
              refine Z.region ?_
              refine Z.lb 2 rfl ?_
              refine Z.lnil ?_
              refine Z.only [0, 2, 7, 8, 10, 11, 12, 43] rfl ?_
              refine Z.nthen ?_
              refine Z.cond rfl (fun hc11 => ?_) (fun hc11 => ?_)
              · first
                  | (exfalso; simp at hc11 <;> omega)
                  | (
                    (try simp at hc11)
                    have hla : ¬ ((decide ((k : Int) = (n : Int) - 1) && !decide (0 ≤ after)) = true) := fun h => by simp at h hc11; omega
                    rw [if_neg hla] at hacc
                    refine Z.region ?_
                    refine Z.lb 1 rfl ?_
                    refine Z.l rfl rfl (by rfl) (Z.keepS hs) (Z.Yd.add rfl rfl (fun hG => Z.wu8 (by first | omega | (have hG' := Z.gh rfl hG; simp at hG'; omega)))) ?_
                    refine Z.lb 1 rfl ?_
                    refine Z.lnil ?_
                    refine Z.only [0, 2, 7, 8, 10, 11, 12] rfl ?_
                    refine Z.nthen ?_
                    refine Z.seq ?_
                    refine Z.region ?_
                    refine Z.lb 2 rfl ?_
                    refine Z.le rfl trivial ?_
                    refine Z.ZO.litL (T' := 5) [(0, 1)] [.int .u8 0] rfl rfl (by rfl) rfl rfl (by intro W; kernel_rfl) hs ?_
                    clear hs; intro g48 w48 hs
                    refine Z.le rfl trivial ?_
                    refine Z.ZO.append (i0 := Try.t5) (size := 1) (bytes := 1) rfl rfl (by rfl) hs Try.underlying26 (by kernel_rfl) rfl rfl rfl rfl (by decide) rfl rfl (by first | exact SX.at0 | exact SX.at1 | exact SX.at2 | exact SX.at3 | exact SX.at4 | exact SX.at5 | exact Z.at6 | exact Z.at7 | exact Z.at8 | exact Z.at9 | exact Z.at10 | exact Z.at11 | exact Z.at12) (by first | exact SX.at0 | exact SX.at1 | exact SX.at2 | exact SX.at3 | exact SX.at4 | exact SX.at5 | exact Z.at6 | exact Z.at7 | exact Z.at8 | exact Z.at9 | exact Z.at10 | exact Z.at11 | exact Z.at12) (by first | rfl | simp) (by simp [Value.oneCell']) (by decide) (by unfold maxLen; omega) (by omega) ?_
                    clear hs; intro g49 cap49 w49 hs
                    simp only [List.set_cons_zero, List.set_cons_succ, List.eraseIdx_cons_zero, List.eraseIdx_cons_succ] at hs
                    refine Z.lb 1 rfl ?_
                    refine Z.lnil ?_
                    refine Z.only [0, 2, 7, 8, 10, 11] rfl ?_
                    refine Z.nthen ?_
                    refine Z.seq ?_
                    refine Z.seq ?_
                    refine Z.region ?_
                    refine Z.lb 3 rfl ?_
                    refine Z.split (s := 52) rfl (fun hsp52 => ?_) (fun hsp52 => ?_)
                    · first
                        | (exfalso; simp at hsp52 <;> omega)
                        | (
                          refine Z.yes (s := 52) (b := true) rfl hsp52 rfl ?_
                          (try simp at hsp52)
                          refine Z.lb 2 rfl ?_
                          refine Z.l rfl rfl (by rfl) (Z.keepS hs) (Z.Yd.elem rfl rfl Try.underlying22 Try.sizeOf47 (fun hG => ⟨(by first | omega | (have hG' := Z.gh rfl hG; simp at hG'; omega)), (by first | omega | (have hG' := Z.gh rfl hG; simp at hG'; omega))⟩)) ?_
                          refine Z.l rfl rfl (by rfl) (Z.keepS hs) (Z.Yd.fieldA (m := 0) rfl (by kernel_rfl)) ?_
                          refine Z.l rfl rfl (by rfl) (Z.keepS hs) (Z.Yd.load rfl Try.isAgg3 (fun _ => Z.cellXf hx2.sx mp_len hqi rfl)) ?_
                          refine Z.yes (s := 52) (b := true) rfl rfl rfl ?_
                          refine Z.le rfl (by exact ⟨rfl, trivial⟩) ?_
                          refine Z.ZO.call rfl rfl (by rfl) rfl rfl Try.call48 rfl (mr_sdu q.lc _) ?_
                          rintro v14_8 w14_8 ⟨rfl, hy⟩
                          replace hs := hs.call hy
                          clear hy
                          try simp only [List.cons_append, List.nil_append, List.append_nil] at hs
                          refine Z.l rfl rfl (by rfl) (Z.keepS hs) (Z.Yd.pickT rfl rfl) ?_
                          refine Z.lnil ?_
                          refine Z.only [0, 2, 7, 8, 10, 59] rfl ?_
                          refine Z.nthen ?_
                          refine Z.cond rfl (fun hc14 => ?_) (fun hc14 => ?_)
                          · first
                              | (exfalso; simp at hc14 <;> omega)
                              | (
                                (try simp at hc14)
                                have hsd : sduB q.lc := by simp_all
                                rw [if_pos hsd] at hacc
                                refine Z.region ?_
                                refine Z.lb 3 rfl ?_
                                refine Z.l rfl rfl (by rfl) (Z.keepS hs) (Z.Yd.elem rfl rfl Try.underlying22 Try.sizeOf47 (fun hG => ⟨(by first | omega | (have hG' := Z.gh rfl hG; simp at hG'; omega)), (by first | omega | (have hG' := Z.gh rfl hG; simp at hG'; omega))⟩)) ?_
                                refine Z.l rfl rfl (by rfl) (Z.keepS hs) (Z.Yd.fieldA (m := 1) rfl (by kernel_rfl)) ?_
                                refine Z.l rfl rfl (by rfl) (Z.keepS hs) (Z.Yd.load rfl Try.isAgg26 (fun _ => Z.cellXf hx2.sx mp_len hqi rfl)) ?_
                                refine Z.l rfl rfl (by rfl) (Z.keepS hs) (Z.Yd.lenS rfl Try.underlying26) ?_
                                refine Z.le rfl trivial ?_
                                refine Z.ZO.call rfl rfl (by rfl) rfl rfl Try.call54 rfl (mr_field q.l.length _ q3) ?_
                                rintro v15_7 w15_7 ⟨gf, rfl, hy⟩
                                replace hs := hs.call hy
                                clear hy
                                try simp only [List.cons_append, List.nil_append, List.append_nil] at hs
                                refine Z.le rfl trivial ?_
                                refine Z.ZO.appendG (i0 := Try.t5) (size := 1) (bytes := 1) rfl rfl (by rfl) hs Try.underlying26 (by kernel_rfl) rfl rfl rfl rfl (by decide) rfl rfl (by first | exact SX.at0 | exact SX.at1 | exact SX.at2 | exact SX.at3 | exact SX.at4 | exact SX.at5 | exact Z.at6 | exact Z.at7 | exact Z.at8 | exact Z.at9 | exact Z.at10 | exact Z.at11 | exact Z.at12) ((by have h0 := hs.blkSl (g := gf) (cs := (ints .u8 (lenF q.l.length)).toArray) List.mem_cons_self; simpa using h0)) (by first | rfl | assumption | (simp [ints_length]; done) | (simp [ints_length]; omega)) (by first | exact Z.ints_one | assumption | simp [Value.oneCell']) (by unfold maxLen; omega) (by omega) ?_
                                clear hs; intro v68 w68 hs
                                simp only [List.set_cons_zero, List.set_cons_succ] at hs
                                refine Z.lb 1 rfl ?_
                                refine Z.lnil ?_
                                refine Z.only [0, 2, 7, 8, 10] rfl ?_
                                refine Z.nthen ?_
                                refine Z.region ?_
                                refine Z.lb 3 rfl ?_
                                refine Z.l rfl rfl (by rfl) (Z.keepS hs) (Z.Yd.elem rfl rfl Try.underlying22 Try.sizeOf47 (fun hG => ⟨(by first | omega | (have hG' := Z.gh rfl hG; simp at hG'; omega)), (by first | omega | (have hG' := Z.gh rfl hG; simp at hG'; omega))⟩)) ?_
                                refine Z.l rfl rfl (by rfl) (Z.keepS hs) (Z.Yd.fieldA (m := 1) rfl (by kernel_rfl)) ?_
                                refine Z.l rfl rfl (by rfl) (Z.keepS hs) (Z.Yd.load rfl Try.isAgg26 (fun _ => Z.cellXf hx2.sx mp_len hqi rfl)) ?_
                                refine Z.le rfl trivial ?_
                                refine Z.ZO.appendG (i0 := Try.t5) (size := 1) (bytes := 1) rfl rfl (by rfl) hs Try.underlying26 (by kernel_rfl) rfl rfl rfl rfl (by decide) rfl rfl (by first | exact SX.at0 | exact SX.at1 | exact SX.at2 | exact SX.at3 | exact SX.at4 | exact SX.at5 | exact Z.at6 | exact Z.at7 | exact Z.at8 | exact Z.at9 | exact Z.at10 | exact Z.at11 | exact Z.at12) ((hqB.st (hs.sub (List.nil_sublist _)))) (by first | rfl | assumption | (simp [ints_length]; done) | (simp [ints_length]; omega)) (by first | exact Z.ints_one | assumption | simp [Value.oneCell']) (by unfold maxLen; omega) (by omega) ?_
                                clear hs; intro v75 w75 hs
                                simp only [List.set_cons_zero, List.set_cons_succ] at hs
                                refine Z.lb 1 rfl ?_
                                refine Z.lnil ?_
                                refine Z.only [0, 2, 7, 8, 10] rfl ?_
                                refine Z.nblock ?_
                                refine Z.nthen ?_
                                refine Z.region ?_
                                refine Z.lb 1 rfl ?_
                                refine Z.l rfl rfl (by rfl) (Z.keepS hs) (Z.Yd.add rfl rfl (fun hG => Z.wi64 (by first | omega | (have hG' := Z.gh rfl hG; simp at hG'; omega)))) ?_
                                refine Z.lb 1 rfl ?_
                                refine Z.lnil ?_
                                refine Z.only [0, 2, 7, 8, 10] rfl ?_
                                refine Z.nthen ?_
                                have ed : ints .u8 (datR ((ps.map MpV.plain).take (k + 1))) = ints .u8 (datR ((ps.map MpV.plain).take k)) ++ ints .u8 q.l := by rw [htk, datR_snoc]; simp [ints, MpV.plain]
                                have el : (datR ((ps.map MpV.plain).take (k + 1))).length = (datR ((ps.map MpV.plain).take k)).length + q.l.length := by rw [htk, datR_snoc]; simp [MpV.plain]
                                first
                                | exact Z.again (k + 1, _, _, acc ++ [q.lc + 32] ++ lenF q.l.length) (by refine ⟨?_, ?_, ?_, ?_, ?_, trivial⟩ <;> (first | rfl | (refine Z.lookv rfl ?_; simp; done) | (refine Z.lookv rfl ?_; simp; omega))) ⟨⟨by simp only; omega, by simp only [List.append_assoc, List.cons_append, List.nil_append] at hacc ⊢; exact hacc, by simp only [List.length_append, List.length_singleton]; omega⟩, by simp only [List.length_append, List.length_singleton]; rw [el, ed, ints_app, ints_app]; exact hs.sel [1, 2] (by decide)⟩ (by simp only; omega)
                                | exact Z.again (k + 1, _, _, acc ++ [q.lc + 32]) (by refine ⟨?_, ?_, ?_, ?_, ?_, trivial⟩ <;> (first | rfl | (refine Z.lookv rfl ?_; simp; done) | (refine Z.lookv rfl ?_; simp; omega))) ⟨⟨by simp only; omega, by rw [if_neg (by simp_all)] at hacc; simp only [List.append_assoc, List.cons_append, List.nil_append] at hacc ⊢; exact hacc, by simp only [List.length_append, List.length_singleton]; omega⟩, by simp only [List.length_append, List.length_singleton]; rw [el, ed, ints_app]; exact hs⟩ (by simp only; omega)
                                | exact Z.again (k + 1, _, _, acc ++ [q.lc]) (by refine ⟨?_, ?_, ?_, ?_, ?_, trivial⟩ <;> (first | rfl | (refine Z.lookv rfl ?_; simp; done) | (refine Z.lookv rfl ?_; simp; omega))) ⟨⟨by simp only; omega, by simp only [List.append_assoc, List.cons_append, List.nil_append] at hacc ⊢; exact hacc, by simp only [List.length_append, List.length_singleton]; omega⟩, by simp only [List.length_append, List.length_singleton]; rw [el, ed, ints_app]; exact hs⟩ (by simp only; omega)
                                )
                          · first
                              | (exfalso; simp at hc14 <;> omega)
                              | (
                                (try simp at hc14)
                                refine Z.skip ?_
                                refine Z.nthen ?_
                                refine Z.region ?_
                                refine Z.lb 3 rfl ?_
                                refine Z.l rfl rfl (by rfl) (Z.keepS hs) (Z.Yd.elem rfl rfl Try.underlying22 Try.sizeOf47 (fun hG => ⟨(by first | omega | (have hG' := Z.gh rfl hG; simp at hG'; omega)), (by first | omega | (have hG' := Z.gh rfl hG; simp at hG'; omega))⟩)) ?_
                                refine Z.l rfl rfl (by rfl) (Z.keepS hs) (Z.Yd.fieldA (m := 1) rfl (by kernel_rfl)) ?_
                                refine Z.l rfl rfl (by rfl) (Z.keepS hs) (Z.Yd.load rfl Try.isAgg26 (fun _ => Z.cellXf hx2.sx mp_len hqi rfl)) ?_
                                refine Z.le rfl trivial ?_
                                refine Z.ZO.appendG (i0 := Try.t5) (size := 1) (bytes := 1) rfl rfl (by rfl) hs Try.underlying26 (by kernel_rfl) rfl rfl rfl rfl (by decide) rfl rfl (by first | exact SX.at0 | exact SX.at1 | exact SX.at2 | exact SX.at3 | exact SX.at4 | exact SX.at5 | exact Z.at6 | exact Z.at7 | exact Z.at8 | exact Z.at9 | exact Z.at10 | exact Z.at11 | exact Z.at12) ((hqB.st (hs.sub (List.nil_sublist _)))) (by first | rfl | assumption | (simp [ints_length]; done) | (simp [ints_length]; omega)) (by first | exact Z.ints_one | assumption | simp [Value.oneCell']) (by unfold maxLen; omega) (by omega) ?_
                                clear hs; intro v75 w75 hs
                                simp only [List.set_cons_zero, List.set_cons_succ] at hs
                                refine Z.lb 1 rfl ?_
                                refine Z.lnil ?_
                                refine Z.only [0, 2, 7, 8, 10] rfl ?_
                                refine Z.nblock ?_
                                refine Z.nthen ?_
                                refine Z.region ?_
                                refine Z.lb 1 rfl ?_
                                refine Z.l rfl rfl (by rfl) (Z.keepS hs) (Z.Yd.add rfl rfl (fun hG => Z.wi64 (by first | omega | (have hG' := Z.gh rfl hG; simp at hG'; omega)))) ?_
                                refine Z.lb 1 rfl ?_
                                refine Z.lnil ?_
                                refine Z.only [0, 2, 7, 8, 10] rfl ?_
                                refine Z.nthen ?_
                                have ed : ints .u8 (datR ((ps.map MpV.plain).take (k + 1))) = ints .u8 (datR ((ps.map MpV.plain).take k)) ++ ints .u8 q.l := by rw [htk, datR_snoc]; simp [ints, MpV.plain]
                                have el : (datR ((ps.map MpV.plain).take (k + 1))).length = (datR ((ps.map MpV.plain).take k)).length + q.l.length := by rw [htk, datR_snoc]; simp [MpV.plain]
                                first
                                | exact Z.again (k + 1, _, _, acc ++ [q.lc + 32] ++ lenF q.l.length) (by refine ⟨?_, ?_, ?_, ?_, ?_, trivial⟩ <;> (first | rfl | (refine Z.lookv rfl ?_; simp; done) | (refine Z.lookv rfl ?_; simp; omega))) ⟨⟨by simp only; omega, by simp only [List.append_assoc, List.cons_append, List.nil_append] at hacc ⊢; exact hacc, by simp only [List.length_append, List.length_singleton]; omega⟩, by simp only [List.length_append, List.length_singleton]; rw [el, ed, ints_app, ints_app]; exact hs.sel [1, 2] (by decide)⟩ (by simp only; omega)
                                | exact Z.again (k + 1, _, _, acc ++ [q.lc + 32]) (by refine ⟨?_, ?_, ?_, ?_, ?_, trivial⟩ <;> (first | rfl | (refine Z.lookv rfl ?_; simp; done) | (refine Z.lookv rfl ?_; simp; omega))) ⟨⟨by simp only; omega, by rw [if_neg (by simp_all)] at hacc; simp only [List.append_assoc, List.cons_append, List.nil_append] at hacc ⊢; exact hacc, by simp only [List.length_append, List.length_singleton]; omega⟩, by simp only [List.length_append, List.length_singleton]; rw [el, ed, ints_app]; exact hs⟩ (by simp only; omega)
                                | exact Z.again (k + 1, _, _, acc ++ [q.lc]) (by refine ⟨?_, ?_, ?_, ?_, ?_, trivial⟩ <;> (first | rfl | (refine Z.lookv rfl ?_; simp; done) | (refine Z.lookv rfl ?_; simp; omega))) ⟨⟨by simp only; omega, by simp only [List.append_assoc, List.cons_append, List.nil_append] at hacc ⊢; exact hacc, by simp only [List.length_append, List.length_singleton]; omega⟩, by simp only [List.length_append, List.length_singleton]; rw [el, ed, ints_app]; exact hs⟩ (by simp only; omega)
                                )
                          )
                    · first
                        | (exfalso; simp at hsp52 <;> omega)
                        | (
                          refine Z.yes (s := 52) (b := false) rfl hsp52 rfl ?_
                          (try simp at hsp52)
                          refine Z.ls rfl rfl rfl (by rfl) ?_
                          refine Z.ls rfl rfl rfl (by rfl) ?_
                          refine Z.ls rfl rfl rfl (by rfl) ?_
                          refine Z.ls rfl rfl rfl (by rfl) ?_
                          refine Z.ls rfl rfl rfl (by rfl) ?_
                          refine Z.ls rfl rfl rfl (by rfl) ?_
                          refine Z.l rfl rfl (by rfl) (Z.keepS hs) (Z.Yd.pickF rfl rfl) ?_
                          refine Z.lnil ?_
                          refine Z.only [0, 2, 7, 8, 10, 59] rfl ?_
                          refine Z.nthen ?_
                          refine Z.cond rfl (fun hc14 => ?_) (fun hc14 => ?_)
                          · first
                              | (exfalso; simp at hc14 <;> omega)
                              | (
                                (try simp at hc14)
                                have hsd : sduB q.lc := by simp_all
                                rw [if_pos hsd] at hacc
                                refine Z.region ?_
                                refine Z.lb 3 rfl ?_
                                refine Z.l rfl rfl (by rfl) (Z.keepS hs) (Z.Yd.elem rfl rfl Try.underlying22 Try.sizeOf47 (fun hG => ⟨(by first | omega | (have hG' := Z.gh rfl hG; simp at hG'; omega)), (by first | omega | (have hG' := Z.gh rfl hG; simp at hG'; omega))⟩)) ?_
                                refine Z.l rfl rfl (by rfl) (Z.keepS hs) (Z.Yd.fieldA (m := 1) rfl (by kernel_rfl)) ?_
                                refine Z.l rfl rfl (by rfl) (Z.keepS hs) (Z.Yd.load rfl Try.isAgg26 (fun _ => Z.cellXf hx2.sx mp_len hqi rfl)) ?_
                                refine Z.l rfl rfl (by rfl) (Z.keepS hs) (Z.Yd.lenS rfl Try.underlying26) ?_
                                refine Z.le rfl trivial ?_
                                refine Z.ZO.call rfl rfl (by rfl) rfl rfl Try.call54 rfl (mr_field q.l.length _ q3) ?_
                                rintro v15_7 w15_7 ⟨gf, rfl, hy⟩
                                replace hs := hs.call hy
                                clear hy
                                try simp only [List.cons_append, List.nil_append, List.append_nil] at hs
                                refine Z.le rfl trivial ?_
                                refine Z.ZO.appendG (i0 := Try.t5) (size := 1) (bytes := 1) rfl rfl (by rfl) hs Try.underlying26 (by kernel_rfl) rfl rfl rfl rfl (by decide) rfl rfl (by first | exact SX.at0 | exact SX.at1 | exact SX.at2 | exact SX.at3 | exact SX.at4 | exact SX.at5 | exact Z.at6 | exact Z.at7 | exact Z.at8 | exact Z.at9 | exact Z.at10 | exact Z.at11 | exact Z.at12) ((by have h0 := hs.blkSl (g := gf) (cs := (ints .u8 (lenF q.l.length)).toArray) List.mem_cons_self; simpa using h0)) (by first | rfl | assumption | (simp [ints_length]; done) | (simp [ints_length]; omega)) (by first | exact Z.ints_one | assumption | simp [Value.oneCell']) (by unfold maxLen; omega) (by omega) ?_
                                clear hs; intro v68 w68 hs
                                simp only [List.set_cons_zero, List.set_cons_succ] at hs
                                refine Z.lb 1 rfl ?_
                                refine Z.lnil ?_
                                refine Z.only [0, 2, 7, 8, 10] rfl ?_
                                refine Z.nthen ?_
                                refine Z.region ?_
                                refine Z.lb 3 rfl ?_
                                refine Z.l rfl rfl (by rfl) (Z.keepS hs) (Z.Yd.elem rfl rfl Try.underlying22 Try.sizeOf47 (fun hG => ⟨(by first | omega | (have hG' := Z.gh rfl hG; simp at hG'; omega)), (by first | omega | (have hG' := Z.gh rfl hG; simp at hG'; omega))⟩)) ?_
                                refine Z.l rfl rfl (by rfl) (Z.keepS hs) (Z.Yd.fieldA (m := 1) rfl (by kernel_rfl)) ?_
                                refine Z.l rfl rfl (by rfl) (Z.keepS hs) (Z.Yd.load rfl Try.isAgg26 (fun _ => Z.cellXf hx2.sx mp_len hqi rfl)) ?_
                                refine Z.le rfl trivial ?_
                                refine Z.ZO.appendG (i0 := Try.t5) (size := 1) (bytes := 1) rfl rfl (by rfl) hs Try.underlying26 (by kernel_rfl) rfl rfl rfl rfl (by decide) rfl rfl (by first | exact SX.at0 | exact SX.at1 | exact SX.at2 | exact SX.at3 | exact SX.at4 | exact SX.at5 | exact Z.at6 | exact Z.at7 | exact Z.at8 | exact Z.at9 | exact Z.at10 | exact Z.at11 | exact Z.at12) ((hqB.st (hs.sub (List.nil_sublist _)))) (by first | rfl | assumption | (simp [ints_length]; done) | (simp [ints_length]; omega)) (by first | exact Z.ints_one | assumption | simp [Value.oneCell']) (by unfold maxLen; omega) (by omega) ?_
                                clear hs; intro v75 w75 hs
                                simp only [List.set_cons_zero, List.set_cons_succ] at hs
                                refine Z.lb 1 rfl ?_
                                refine Z.lnil ?_
                                refine Z.only [0, 2, 7, 8, 10] rfl ?_
                                refine Z.nblock ?_
                                refine Z.nthen ?_
                                refine Z.region ?_
                                refine Z.lb 1 rfl ?_
                                refine Z.l rfl rfl (by rfl) (Z.keepS hs) (Z.Yd.add rfl rfl (fun hG => Z.wi64 (by first | omega | (have hG' := Z.gh rfl hG; simp at hG'; omega)))) ?_
                                refine Z.lb 1 rfl ?_
                                refine Z.lnil ?_
                                refine Z.only [0, 2, 7, 8, 10] rfl ?_
                                refine Z.nthen ?_
                                have ed : ints .u8 (datR ((ps.map MpV.plain).take (k + 1))) = ints .u8 (datR ((ps.map MpV.plain).take k)) ++ ints .u8 q.l := by rw [htk, datR_snoc]; simp [ints, MpV.plain]
                                have el : (datR ((ps.map MpV.plain).take (k + 1))).length = (datR ((ps.map MpV.plain).take k)).length + q.l.length := by rw [htk, datR_snoc]; simp [MpV.plain]
                                first
                                | exact Z.again (k + 1, _, _, acc ++ [q.lc + 32] ++ lenF q.l.length) (by refine ⟨?_, ?_, ?_, ?_, ?_, trivial⟩ <;> (first | rfl | (refine Z.lookv rfl ?_; simp; done) | (refine Z.lookv rfl ?_; simp; omega))) ⟨⟨by simp only; omega, by simp only [List.append_assoc, List.cons_append, List.nil_append] at hacc ⊢; exact hacc, by simp only [List.length_append, List.length_singleton]; omega⟩, by simp only [List.length_append, List.length_singleton]; rw [el, ed, ints_app, ints_app]; exact hs.sel [1, 2] (by decide)⟩ (by simp only; omega)
                                | exact Z.again (k + 1, _, _, acc ++ [q.lc + 32]) (by refine ⟨?_, ?_, ?_, ?_, ?_, trivial⟩ <;> (first | rfl | (refine Z.lookv rfl ?_; simp; done) | (refine Z.lookv rfl ?_; simp; omega))) ⟨⟨by simp only; omega, by rw [if_neg (by simp_all)] at hacc; simp only [List.append_assoc, List.cons_append, List.nil_append] at hacc ⊢; exact hacc, by simp only [List.length_append, List.length_singleton]; omega⟩, by simp only [List.length_append, List.length_singleton]; rw [el, ed, ints_app]; exact hs⟩ (by simp only; omega)
                                | exact Z.again (k + 1, _, _, acc ++ [q.lc]) (by refine ⟨?_, ?_, ?_, ?_, ?_, trivial⟩ <;> (first | rfl | (refine Z.lookv rfl ?_; simp; done) | (refine Z.lookv rfl ?_; simp; omega))) ⟨⟨by simp only; omega, by simp only [List.append_assoc, List.cons_append, List.nil_append] at hacc ⊢; exact hacc, by simp only [List.length_append, List.length_singleton]; omega⟩, by simp only [List.length_append, List.length_singleton]; rw [el, ed, ints_app]; exact hs⟩ (by simp only; omega)
                                )
                          · first
                              | (exfalso; simp at hc14 <;> omega)
                              | (
                                (try simp at hc14)
                                refine Z.skip ?_
                                refine Z.nthen ?_
                                refine Z.region ?_
                                refine Z.lb 3 rfl ?_
                                refine Z.l rfl rfl (by rfl) (Z.keepS hs) (Z.Yd.elem rfl rfl Try.underlying22 Try.sizeOf47 (fun hG => ⟨(by first | omega | (have hG' := Z.gh rfl hG; simp at hG'; omega)), (by first | omega | (have hG' := Z.gh rfl hG; simp at hG'; omega))⟩)) ?_
                                refine Z.l rfl rfl (by rfl) (Z.keepS hs) (Z.Yd.fieldA (m := 1) rfl (by kernel_rfl)) ?_
                                refine Z.l rfl rfl (by rfl) (Z.keepS hs) (Z.Yd.load rfl Try.isAgg26 (fun _ => Z.cellXf hx2.sx mp_len hqi rfl)) ?_
                                refine Z.le rfl trivial ?_
                                refine Z.ZO.appendG (i0 := Try.t5) (size := 1) (bytes := 1) rfl rfl (by rfl) hs Try.underlying26 (by kernel_rfl) rfl rfl rfl rfl (by decide) rfl rfl (by first | exact SX.at0 | exact SX.at1 | exact SX.at2 | exact SX.at3 | exact SX.at4 | exact SX.at5 | exact Z.at6 | exact Z.at7 | exact Z.at8 | exact Z.at9 | exact Z.at10 | exact Z.at11 | exact Z.at12) ((hqB.st (hs.sub (List.nil_sublist _)))) (by first | rfl | assumption | (simp [ints_length]; done) | (simp [ints_length]; omega)) (by first | exact Z.ints_one | assumption | simp [Value.oneCell']) (by unfold maxLen; omega) (by omega) ?_
                                clear hs; intro v75 w75 hs
                                simp only [List.set_cons_zero, List.set_cons_succ] at hs
                                refine Z.lb 1 rfl ?_
                                refine Z.lnil ?_
                                refine Z.only [0, 2, 7, 8, 10] rfl ?_
                                refine Z.nblock ?_
                                refine Z.nthen ?_
                                refine Z.region ?_
                                refine Z.lb 1 rfl ?_
                                refine Z.l rfl rfl (by rfl) (Z.keepS hs) (Z.Yd.add rfl rfl (fun hG => Z.wi64 (by first | omega | (have hG' := Z.gh rfl hG; simp at hG'; omega)))) ?_
                                refine Z.lb 1 rfl ?_
                                refine Z.lnil ?_
                                refine Z.only [0, 2, 7, 8, 10] rfl ?_
                                refine Z.nthen ?_
                                have ed : ints .u8 (datR ((ps.map MpV.plain).take (k + 1))) = ints .u8 (datR ((ps.map MpV.plain).take k)) ++ ints .u8 q.l := by rw [htk, datR_snoc]; simp [ints, MpV.plain]
                                have el : (datR ((ps.map MpV.plain).take (k + 1))).length = (datR ((ps.map MpV.plain).take k)).length + q.l.length := by rw [htk, datR_snoc]; simp [MpV.plain]
                                first
                                | exact Z.again (k + 1, _, _, acc ++ [q.lc + 32] ++ lenF q.l.length) (by refine ⟨?_, ?_, ?_, ?_, ?_, trivial⟩ <;> (first | rfl | (refine Z.lookv rfl ?_; simp; done) | (refine Z.lookv rfl ?_; simp; omega))) ⟨⟨by simp only; omega, by simp only [List.append_assoc, List.cons_append, List.nil_append] at hacc ⊢; exact hacc, by simp only [List.length_append, List.length_singleton]; omega⟩, by simp only [List.length_append, List.length_singleton]; rw [el, ed, ints_app, ints_app]; exact hs.sel [1, 2] (by decide)⟩ (by simp only; omega)
                                | exact Z.again (k + 1, _, _, acc ++ [q.lc + 32]) (by refine ⟨?_, ?_, ?_, ?_, ?_, trivial⟩ <;> (first | rfl | (refine Z.lookv rfl ?_; simp; done) | (refine Z.lookv rfl ?_; simp; omega))) ⟨⟨by simp only; omega, by rw [if_neg (by simp_all)] at hacc; simp only [List.append_assoc, List.cons_append, List.nil_append] at hacc ⊢; exact hacc, by simp only [List.length_append, List.length_singleton]; omega⟩, by simp only [List.length_append, List.length_singleton]; rw [el, ed, ints_app]; exact hs⟩ (by simp only; omega)
                                | exact Z.again (k + 1, _, _, acc ++ [q.lc]) (by refine ⟨?_, ?_, ?_, ?_, ?_, trivial⟩ <;> (first | rfl | (refine Z.lookv rfl ?_; simp; done) | (refine Z.lookv rfl ?_; simp; omega))) ⟨⟨by simp only; omega, by simp only [List.append_assoc, List.cons_append, List.nil_append] at hacc ⊢; exact hacc, by simp only [List.length_append, List.length_singleton]; omega⟩, by simp only [List.length_append, List.length_singleton]; rw [el, ed, ints_app]; exact hs⟩ (by simp only; omega)
                                )
                          )
                    )
              · first
                  | (exfalso; simp at hc11 <;> omega)
                  | (
                    (try simp at hc11)
                    have hla : (decide ((k : Int) = (n : Int) - 1) && !decide (0 ≤ after)) = true := by simp at hc11 ⊢; omega
                    rw [if_pos hla] at hacc
                    refine Z.skip ?_
                    refine Z.nthen ?_
                    refine Z.seq ?_
                    refine Z.region ?_
                    refine Z.lb 2 rfl ?_
                    refine Z.le rfl trivial ?_
                    refine Z.ZO.litL (T' := 5) [(0, 1)] [.int .u8 0] rfl rfl (by rfl) rfl rfl (by intro W; kernel_rfl) hs ?_
                    clear hs; intro g48 w48 hs
                    refine Z.le rfl trivial ?_
                    refine Z.ZO.append (i0 := Try.t5) (size := 1) (bytes := 1) rfl rfl (by rfl) hs Try.underlying26 (by kernel_rfl) rfl rfl rfl rfl (by decide) rfl rfl (by first | exact SX.at0 | exact SX.at1 | exact SX.at2 | exact SX.at3 | exact SX.at4 | exact SX.at5 | exact Z.at6 | exact Z.at7 | exact Z.at8 | exact Z.at9 | exact Z.at10 | exact Z.at11 | exact Z.at12) (by first | exact SX.at0 | exact SX.at1 | exact SX.at2 | exact SX.at3 | exact SX.at4 | exact SX.at5 | exact Z.at6 | exact Z.at7 | exact Z.at8 | exact Z.at9 | exact Z.at10 | exact Z.at11 | exact Z.at12) (by first | rfl | simp) (by simp [Value.oneCell']) (by decide) (by unfold maxLen; omega) (by omega) ?_
                    clear hs; intro g49 cap49 w49 hs
                    simp only [List.set_cons_zero, List.set_cons_succ, List.eraseIdx_cons_zero, List.eraseIdx_cons_succ] at hs
                    refine Z.lb 1 rfl ?_
                    refine Z.lnil ?_
                    refine Z.only [0, 2, 7, 8, 10, 11] rfl ?_
                    refine Z.nthen ?_
                    refine Z.seq ?_
                    refine Z.seq ?_
                    refine Z.region ?_
                    refine Z.lb 3 rfl ?_
                    refine Z.split (s := 52) rfl (fun hsp52 => ?_) (fun hsp52 => ?_)
                    · first
                        | (exfalso; simp at hsp52 <;> omega)
                        | (
                          refine Z.yes (s := 52) (b := true) rfl hsp52 rfl ?_
                          (try simp at hsp52)
                          refine Z.lb 2 rfl ?_
                          refine Z.l rfl rfl (by rfl) (Z.keepS hs) (Z.Yd.elem rfl rfl Try.underlying22 Try.sizeOf47 (fun hG => ⟨(by first | omega | (have hG' := Z.gh rfl hG; simp at hG'; omega)), (by first | omega | (have hG' := Z.gh rfl hG; simp at hG'; omega))⟩)) ?_
                          refine Z.l rfl rfl (by rfl) (Z.keepS hs) (Z.Yd.fieldA (m := 0) rfl (by kernel_rfl)) ?_
                          refine Z.l rfl rfl (by rfl) (Z.keepS hs) (Z.Yd.load rfl Try.isAgg3 (fun _ => Z.cellXf hx2.sx mp_len hqi rfl)) ?_
                          refine Z.yes (s := 52) (b := true) rfl rfl rfl ?_
                          refine Z.le rfl (by exact ⟨rfl, trivial⟩) ?_
                          refine Z.ZO.call rfl rfl (by rfl) rfl rfl Try.call48 rfl (mr_sdu q.lc _) ?_
                          rintro v14_8 w14_8 ⟨rfl, hy⟩
                          replace hs := hs.call hy
                          clear hy
                          try simp only [List.cons_append, List.nil_append, List.append_nil] at hs
                          refine Z.l rfl rfl (by rfl) (Z.keepS hs) (Z.Yd.pickT rfl rfl) ?_
                          refine Z.lnil ?_
                          refine Z.only [0, 2, 7, 8, 10, 59] rfl ?_
                          refine Z.nthen ?_
                          refine Z.cond rfl (fun hc14 => ?_) (fun hc14 => ?_)
                          · first
                              | (exfalso; simp at hc14 <;> omega)
                              | (
                                (try simp at hc14)
                                have hsd : sduB q.lc := by simp_all
                                rw [if_pos hsd] at hacc
                                refine Z.region ?_
                                refine Z.lb 3 rfl ?_
                                refine Z.l rfl rfl (by rfl) (Z.keepS hs) (Z.Yd.elem rfl rfl Try.underlying22 Try.sizeOf47 (fun hG => ⟨(by first | omega | (have hG' := Z.gh rfl hG; simp at hG'; omega)), (by first | omega | (have hG' := Z.gh rfl hG; simp at hG'; omega))⟩)) ?_
                                refine Z.l rfl rfl (by rfl) (Z.keepS hs) (Z.Yd.fieldA (m := 1) rfl (by kernel_rfl)) ?_
                                refine Z.l rfl rfl (by rfl) (Z.keepS hs) (Z.Yd.load rfl Try.isAgg26 (fun _ => Z.cellXf hx2.sx mp_len hqi rfl)) ?_
                                refine Z.l rfl rfl (by rfl) (Z.keepS hs) (Z.Yd.lenS rfl Try.underlying26) ?_
                                refine Z.le rfl trivial ?_
                                refine Z.ZO.call rfl rfl (by rfl) rfl rfl Try.call54 rfl (mr_field q.l.length _ q3) ?_
                                rintro v15_7 w15_7 ⟨gf, rfl, hy⟩
                                replace hs := hs.call hy
                                clear hy
                                try simp only [List.cons_append, List.nil_append, List.append_nil] at hs
                                refine Z.le rfl trivial ?_
                                refine Z.ZO.appendG (i0 := Try.t5) (size := 1) (bytes := 1) rfl rfl (by rfl) hs Try.underlying26 (by kernel_rfl) rfl rfl rfl rfl (by decide) rfl rfl (by first | exact SX.at0 | exact SX.at1 | exact SX.at2 | exact SX.at3 | exact SX.at4 | exact SX.at5 | exact Z.at6 | exact Z.at7 | exact Z.at8 | exact Z.at9 | exact Z.at10 | exact Z.at11 | exact Z.at12) ((by have h0 := hs.blkSl (g := gf) (cs := (ints .u8 (lenF q.l.length)).toArray) List.mem_cons_self; simpa using h0)) (by first | rfl | assumption | (simp [ints_length]; done) | (simp [ints_length]; omega)) (by first | exact Z.ints_one | assumption | simp [Value.oneCell']) (by unfold maxLen; omega) (by omega) ?_
                                clear hs; intro v68 w68 hs
                                simp only [List.set_cons_zero, List.set_cons_succ] at hs
                                refine Z.lb 1 rfl ?_
                                refine Z.lnil ?_
                                refine Z.only [0, 2, 7, 8, 10] rfl ?_
                                refine Z.nthen ?_
                                refine Z.region ?_
                                refine Z.lb 3 rfl ?_
                                refine Z.l rfl rfl (by rfl) (Z.keepS hs) (Z.Yd.elem rfl rfl Try.underlying22 Try.sizeOf47 (fun hG => ⟨(by first | omega | (have hG' := Z.gh rfl hG; simp at hG'; omega)), (by first | omega | (have hG' := Z.gh rfl hG; simp at hG'; omega))⟩)) ?_
                                refine Z.l rfl rfl (by rfl) (Z.keepS hs) (Z.Yd.fieldA (m := 1) rfl (by kernel_rfl)) ?_
                                refine Z.l rfl rfl (by rfl) (Z.keepS hs) (Z.Yd.load rfl Try.isAgg26 (fun _ => Z.cellXf hx2.sx mp_len hqi rfl)) ?_
                                refine Z.le rfl trivial ?_
                                refine Z.ZO.appendG (i0 := Try.t5) (size := 1) (bytes := 1) rfl rfl (by rfl) hs Try.underlying26 (by kernel_rfl) rfl rfl rfl rfl (by decide) rfl rfl (by first | exact SX.at0 | exact SX.at1 | exact SX.at2 | exact SX.at3 | exact SX.at4 | exact SX.at5 | exact Z.at6 | exact Z.at7 | exact Z.at8 | exact Z.at9 | exact Z.at10 | exact Z.at11 | exact Z.at12) ((hqB.st (hs.sub (List.nil_sublist _)))) (by first | rfl | assumption | (simp [ints_length]; done) | (simp [ints_length]; omega)) (by first | exact Z.ints_one | assumption | simp [Value.oneCell']) (by unfold maxLen; omega) (by omega) ?_
                                clear hs; intro v75 w75 hs
                                simp only [List.set_cons_zero, List.set_cons_succ] at hs
                                refine Z.lb 1 rfl ?_
                                refine Z.lnil ?_
                                refine Z.only [0, 2, 7, 8, 10] rfl ?_
                                refine Z.nblock ?_
                                refine Z.nthen ?_
                                refine Z.region ?_
                                refine Z.lb 1 rfl ?_
                                refine Z.l rfl rfl (by rfl) (Z.keepS hs) (Z.Yd.add rfl rfl (fun hG => Z.wi64 (by first | omega | (have hG' := Z.gh rfl hG; simp at hG'; omega)))) ?_
                                refine Z.lb 1 rfl ?_
                                refine Z.lnil ?_
                                refine Z.only [0, 2, 7, 8, 10] rfl ?_
                                refine Z.nthen ?_
                                have ed : ints .u8 (datR ((ps.map MpV.plain).take (k + 1))) = ints .u8 (datR ((ps.map MpV.plain).take k)) ++ ints .u8 q.l := by rw [htk, datR_snoc]; simp [ints, MpV.plain]
                                have el : (datR ((ps.map MpV.plain).take (k + 1))).length = (datR ((ps.map MpV.plain).take k)).length + q.l.length := by rw [htk, datR_snoc]; simp [MpV.plain]
                                first
                                | exact Z.again (k + 1, _, _, acc ++ [q.lc + 32] ++ lenF q.l.length) (by refine ⟨?_, ?_, ?_, ?_, ?_, trivial⟩ <;> (first | rfl | (refine Z.lookv rfl ?_; simp; done) | (refine Z.lookv rfl ?_; simp; omega))) ⟨⟨by simp only; omega, by simp only [List.append_assoc, List.cons_append, List.nil_append] at hacc ⊢; exact hacc, by simp only [List.length_append, List.length_singleton]; omega⟩, by simp only [List.length_append, List.length_singleton]; rw [el, ed, ints_app, ints_app]; exact hs.sel [1, 2] (by decide)⟩ (by simp only; omega)
                                | exact Z.again (k + 1, _, _, acc ++ [q.lc + 32]) (by refine ⟨?_, ?_, ?_, ?_, ?_, trivial⟩ <;> (first | rfl | (refine Z.lookv rfl ?_; simp; done) | (refine Z.lookv rfl ?_; simp; omega))) ⟨⟨by simp only; omega, by rw [if_neg (by simp_all)] at hacc; simp only [List.append_assoc, List.cons_append, List.nil_append] at hacc ⊢; exact hacc, by simp only [List.length_append, List.length_singleton]; omega⟩, by simp only [List.length_append, List.length_singleton]; rw [el, ed, ints_app]; exact hs⟩ (by simp only; omega)
                                | exact Z.again (k + 1, _, _, acc ++ [q.lc]) (by refine ⟨?_, ?_, ?_, ?_, ?_, trivial⟩ <;> (first | rfl | (refine Z.lookv rfl ?_; simp; done) | (refine Z.lookv rfl ?_; simp; omega))) ⟨⟨by simp only; omega, by simp only [List.append_assoc, List.cons_append, List.nil_append] at hacc ⊢; exact hacc, by simp only [List.length_append, List.length_singleton]; omega⟩, by simp only [List.length_append, List.length_singleton]; rw [el, ed, ints_app]; exact hs⟩ (by simp only; omega)
                                )
                          · first
                              | (exfalso; simp at hc14 <;> omega)
                              | (
                                (try simp at hc14)
                                refine Z.skip ?_
                                refine Z.nthen ?_
                                refine Z.region ?_
                                refine Z.lb 3 rfl ?_
                                refine Z.l rfl rfl (by rfl) (Z.keepS hs) (Z.Yd.elem rfl rfl Try.underlying22 Try.sizeOf47 (fun hG => ⟨(by first | omega | (have hG' := Z.gh rfl hG; simp at hG'; omega)), (by first | omega | (have hG' := Z.gh rfl hG; simp at hG'; omega))⟩)) ?_
                                refine Z.l rfl rfl (by rfl) (Z.keepS hs) (Z.Yd.fieldA (m := 1) rfl (by kernel_rfl)) ?_
                                refine Z.l rfl rfl (by rfl) (Z.keepS hs) (Z.Yd.load rfl Try.isAgg26 (fun _ => Z.cellXf hx2.sx mp_len hqi rfl)) ?_
                                refine Z.le rfl trivial ?_
                                refine Z.ZO.appendG (i0 := Try.t5) (size := 1) (bytes := 1) rfl rfl (by rfl) hs Try.underlying26 (by kernel_rfl) rfl rfl rfl rfl (by decide) rfl rfl (by first | exact SX.at0 | exact SX.at1 | exact SX.at2 | exact SX.at3 | exact SX.at4 | exact SX.at5 | exact Z.at6 | exact Z.at7 | exact Z.at8 | exact Z.at9 | exact Z.at10 | exact Z.at11 | exact Z.at12) ((hqB.st (hs.sub (List.nil_sublist _)))) (by first | rfl | assumption | (simp [ints_length]; done) | (simp [ints_length]; omega)) (by first | exact Z.ints_one | assumption | simp [Value.oneCell']) (by unfold maxLen; omega) (by omega) ?_
                                clear hs; intro v75 w75 hs
                                simp only [List.set_cons_zero, List.set_cons_succ] at hs
                                refine Z.lb 1 rfl ?_
                                refine Z.lnil ?_
                                refine Z.only [0, 2, 7, 8, 10] rfl ?_
                                refine Z.nblock ?_
                                refine Z.nthen ?_
                                refine Z.region ?_
                                refine Z.lb 1 rfl ?_
                                refine Z.l rfl rfl (by rfl) (Z.keepS hs) (Z.Yd.add rfl rfl (fun hG => Z.wi64 (by first | omega | (have hG' := Z.gh rfl hG; simp at hG'; omega)))) ?_
                                refine Z.lb 1 rfl ?_
                                refine Z.lnil ?_
                                refine Z.only [0, 2, 7, 8, 10] rfl ?_
                                refine Z.nthen ?_
                                have ed : ints .u8 (datR ((ps.map MpV.plain).take (k + 1))) = ints .u8 (datR ((ps.map MpV.plain).take k)) ++ ints .u8 q.l := by rw [htk, datR_snoc]; simp [ints, MpV.plain]
                                have el : (datR ((ps.map MpV.plain).take (k + 1))).length = (datR ((ps.map MpV.plain).take k)).length + q.l.length := by rw [htk, datR_snoc]; simp [MpV.plain]
                                first
                                | exact Z.again (k + 1, _, _, acc ++ [q.lc + 32] ++ lenF q.l.length) (by refine ⟨?_, ?_, ?_, ?_, ?_, trivial⟩ <;> (first | rfl | (refine Z.lookv rfl ?_; simp; done) | (refine Z.lookv rfl ?_; simp; omega))) ⟨⟨by simp only; omega, by simp only [List.append_assoc, List.cons_append, List.nil_append] at hacc ⊢; exact hacc, by simp only [List.length_append, List.length_singleton]; omega⟩, by simp only [List.length_append, List.length_singleton]; rw [el, ed, ints_app, ints_app]; exact hs.sel [1, 2] (by decide)⟩ (by simp only; omega)
                                | exact Z.again (k + 1, _, _, acc ++ [q.lc + 32]) (by refine ⟨?_, ?_, ?_, ?_, ?_, trivial⟩ <;> (first | rfl | (refine Z.lookv rfl ?_; simp; done) | (refine Z.lookv rfl ?_; simp; omega))) ⟨⟨by simp only; omega, by rw [if_neg (by simp_all)] at hacc; simp only [List.append_assoc, List.cons_append, List.nil_append] at hacc ⊢; exact hacc, by simp only [List.length_append, List.length_singleton]; omega⟩, by simp only [List.length_append, List.length_singleton]; rw [el, ed, ints_app]; exact hs⟩ (by simp only; omega)
                                | exact Z.again (k + 1, _, _, acc ++ [q.lc]) (by refine ⟨?_, ?_, ?_, ?_, ?_, trivial⟩ <;> (first | rfl | (refine Z.lookv rfl ?_; simp; done) | (refine Z.lookv rfl ?_; simp; omega))) ⟨⟨by simp only; omega, by simp only [List.append_assoc, List.cons_append, List.nil_append] at hacc ⊢; exact hacc, by simp only [List.length_append, List.length_singleton]; omega⟩, by simp only [List.length_append, List.length_singleton]; rw [el, ed, ints_app]; exact hs⟩ (by simp only; omega)
                                )
                          )
                    · first
                        | (exfalso; simp at hsp52 <;> omega)
                        | (
                          refine Z.yes (s := 52) (b := false) rfl hsp52 rfl ?_
                          (try simp at hsp52)
                          refine Z.ls rfl rfl rfl (by rfl) ?_
                          refine Z.ls rfl rfl rfl (by rfl) ?_
                          refine Z.ls rfl rfl rfl (by rfl) ?_
                          refine Z.ls rfl rfl rfl (by rfl) ?_
                          refine Z.ls rfl rfl rfl (by rfl) ?_
                          refine Z.ls rfl rfl rfl (by rfl) ?_
                          refine Z.l rfl rfl (by rfl) (Z.keepS hs) (Z.Yd.pickF rfl rfl) ?_
                          refine Z.lnil ?_
                          refine Z.only [0, 2, 7, 8, 10, 59] rfl ?_
                          refine Z.nthen ?_
                          refine Z.cond rfl (fun hc14 => ?_) (fun hc14 => ?_)
                          · first
                              | (exfalso; simp at hc14 <;> omega)
                              | (
                                (try simp at hc14)
                                have hsd : sduB q.lc := by simp_all
                                rw [if_pos hsd] at hacc
                                refine Z.region ?_
                                refine Z.lb 3 rfl ?_
                                refine Z.l rfl rfl (by rfl) (Z.keepS hs) (Z.Yd.elem rfl rfl Try.underlying22 Try.sizeOf47 (fun hG => ⟨(by first | omega | (have hG' := Z.gh rfl hG; simp at hG'; omega)), (by first | omega | (have hG' := Z.gh rfl hG; simp at hG'; omega))⟩)) ?_
                                refine Z.l rfl rfl (by rfl) (Z.keepS hs) (Z.Yd.fieldA (m := 1) rfl (by kernel_rfl)) ?_
                                refine Z.l rfl rfl (by rfl) (Z.keepS hs) (Z.Yd.load rfl Try.isAgg26 (fun _ => Z.cellXf hx2.sx mp_len hqi rfl)) ?_
                                refine Z.l rfl rfl (by rfl) (Z.keepS hs) (Z.Yd.lenS rfl Try.underlying26) ?_
                                refine Z.le rfl trivial ?_
                                refine Z.ZO.call rfl rfl (by rfl) rfl rfl Try.call54 rfl (mr_field q.l.length _ q3) ?_
                                rintro v15_7 w15_7 ⟨gf, rfl, hy⟩
                                replace hs := hs.call hy
                                clear hy
                                try simp only [List.cons_append, List.nil_append, List.append_nil] at hs
                                refine Z.le rfl trivial ?_
                                refine Z.ZO.appendG (i0 := Try.t5) (size := 1) (bytes := 1) rfl rfl (by rfl) hs Try.underlying26 (by kernel_rfl) rfl rfl rfl rfl (by decide) rfl rfl (by first | exact SX.at0 | exact SX.at1 | exact SX.at2 | exact SX.at3 | exact SX.at4 | exact SX.at5 | exact Z.at6 | exact Z.at7 | exact Z.at8 | exact Z.at9 | exact Z.at10 | exact Z.at11 | exact Z.at12) ((by have h0 := hs.blkSl (g := gf) (cs := (ints .u8 (lenF q.l.length)).toArray) List.mem_cons_self; simpa using h0)) (by first | rfl | assumption | (simp [ints_length]; done) | (simp [ints_length]; omega)) (by first | exact Z.ints_one | assumption | simp [Value.oneCell']) (by unfold maxLen; omega) (by omega) ?_
                                clear hs; intro v68 w68 hs
                                simp only [List.set_cons_zero, List.set_cons_succ] at hs
                                refine Z.lb 1 rfl ?_
                                refine Z.lnil ?_
                                refine Z.only [0, 2, 7, 8, 10] rfl ?_
                                refine Z.nthen ?_
                                refine Z.region ?_
                                refine Z.lb 3 rfl ?_
                                refine Z.l rfl rfl (by rfl) (Z.keepS hs) (Z.Yd.elem rfl rfl Try.underlying22 Try.sizeOf47 (fun hG => ⟨(by first | omega | (have hG' := Z.gh rfl hG; simp at hG'; omega)), (by first | omega | (have hG' := Z.gh rfl hG; simp at hG'; omega))⟩)) ?_
                                refine Z.l rfl rfl (by rfl) (Z.keepS hs) (Z.Yd.fieldA (m := 1) rfl (by kernel_rfl)) ?_
                                refine Z.l rfl rfl (by rfl) (Z.keepS hs) (Z.Yd.load rfl Try.isAgg26 (fun _ => Z.cellXf hx2.sx mp_len hqi rfl)) ?_
                                refine Z.le rfl trivial ?_
                                refine Z.ZO.appendG (i0 := Try.t5) (size := 1) (bytes := 1) rfl rfl (by rfl) hs Try.underlying26 (by kernel_rfl) rfl rfl rfl rfl (by decide) rfl rfl (by first | exact SX.at0 | exact SX.at1 | exact SX.at2 | exact SX.at3 | exact SX.at4 | exact SX.at5 | exact Z.at6 | exact Z.at7 | exact Z.at8 | exact Z.at9 | exact Z.at10 | exact Z.at11 | exact Z.at12) ((hqB.st (hs.sub (List.nil_sublist _)))) (by first | rfl | assumption | (simp [ints_length]; done) | (simp [ints_length]; omega)) (by first | exact Z.ints_one | assumption | simp [Value.oneCell']) (by unfold maxLen; omega) (by omega) ?_
                                clear hs; intro v75 w75 hs
                                simp only [List.set_cons_zero, List.set_cons_succ] at hs
                                refine Z.lb 1 rfl ?_
                                refine Z.lnil ?_
                                refine Z.only [0, 2, 7, 8, 10] rfl ?_
                                refine Z.nblock ?_
                                refine Z.nthen ?_
                                refine Z.region ?_
                                refine Z.lb 1 rfl ?_
                                refine Z.l rfl rfl (by rfl) (Z.keepS hs) (Z.Yd.add rfl rfl (fun hG => Z.wi64 (by first | omega | (have hG' := Z.gh rfl hG; simp at hG'; omega)))) ?_
                                refine Z.lb 1 rfl ?_
                                refine Z.lnil ?_
                                refine Z.only [0, 2, 7, 8, 10] rfl ?_
                                refine Z.nthen ?_
                                have ed : ints .u8 (datR ((ps.map MpV.plain).take (k + 1))) = ints .u8 (datR ((ps.map MpV.plain).take k)) ++ ints .u8 q.l := by rw [htk, datR_snoc]; simp [ints, MpV.plain]
                                have el : (datR ((ps.map MpV.plain).take (k + 1))).length = (datR ((ps.map MpV.plain).take k)).length + q.l.length := by rw [htk, datR_snoc]; simp [MpV.plain]
                                first
                                | exact Z.again (k + 1, _, _, acc ++ [q.lc + 32] ++ lenF q.l.length) (by refine ⟨?_, ?_, ?_, ?_, ?_, trivial⟩ <;> (first | rfl | (refine Z.lookv rfl ?_; simp; done) | (refine Z.lookv rfl ?_; simp; omega))) ⟨⟨by simp only; omega, by simp only [List.append_assoc, List.cons_append, List.nil_append] at hacc ⊢; exact hacc, by simp only [List.length_append, List.length_singleton]; omega⟩, by simp only [List.length_append, List.length_singleton]; rw [el, ed, ints_app, ints_app]; exact hs.sel [1, 2] (by decide)⟩ (by simp only; omega)
                                | exact Z.again (k + 1, _, _, acc ++ [q.lc + 32]) (by refine ⟨?_, ?_, ?_, ?_, ?_, trivial⟩ <;> (first | rfl | (refine Z.lookv rfl ?_; simp; done) | (refine Z.lookv rfl ?_; simp; omega))) ⟨⟨by simp only; omega, by rw [if_neg (by simp_all)] at hacc; simp only [List.append_assoc, List.cons_append, List.nil_append] at hacc ⊢; exact hacc, by simp only [List.length_append, List.length_singleton]; omega⟩, by simp only [List.length_append, List.length_singleton]; rw [el, ed, ints_app]; exact hs⟩ (by simp only; omega)
                                | exact Z.again (k + 1, _, _, acc ++ [q.lc]) (by refine ⟨?_, ?_, ?_, ?_, ?_, trivial⟩ <;> (first | rfl | (refine Z.lookv rfl ?_; simp; done) | (refine Z.lookv rfl ?_; simp; omega))) ⟨⟨by simp only; omega, by simp only [List.append_assoc, List.cons_append, List.nil_append] at hacc ⊢; exact hacc, by simp only [List.length_append, List.length_singleton]; omega⟩, by simp only [List.length_append, List.length_singleton]; rw [el, ed, ints_app]; exact hs⟩ (by simp only; omega)
                                )
                          · first
                              | (exfalso; simp at hc14 <;> omega)
                              | (
                                (try simp at hc14)
                                refine Z.skip ?_
                                refine Z.nthen ?_
                                refine Z.region ?_
                                refine Z.lb 3 rfl ?_
                                refine Z.l rfl rfl (by rfl) (Z.keepS hs) (Z.Yd.elem rfl rfl Try.underlying22 Try.sizeOf47 (fun hG => ⟨(by first | omega | (have hG' := Z.gh rfl hG; simp at hG'; omega)), (by first | omega | (have hG' := Z.gh rfl hG; simp at hG'; omega))⟩)) ?_
                                refine Z.l rfl rfl (by rfl) (Z.keepS hs) (Z.Yd.fieldA (m := 1) rfl (by kernel_rfl)) ?_
                                refine Z.l rfl rfl (by rfl) (Z.keepS hs) (Z.Yd.load rfl Try.isAgg26 (fun _ => Z.cellXf hx2.sx mp_len hqi rfl)) ?_
                                refine Z.le rfl trivial ?_
                                refine Z.ZO.appendG (i0 := Try.t5) (size := 1) (bytes := 1) rfl rfl (by rfl) hs Try.underlying26 (by kernel_rfl) rfl rfl rfl rfl (by decide) rfl rfl (by first | exact SX.at0 | exact SX.at1 | exact SX.at2 | exact SX.at3 | exact SX.at4 | exact SX.at5 | exact Z.at6 | exact Z.at7 | exact Z.at8 | exact Z.at9 | exact Z.at10 | exact Z.at11 | exact Z.at12) ((hqB.st (hs.sub (List.nil_sublist _)))) (by first | rfl | assumption | (simp [ints_length]; done) | (simp [ints_length]; omega)) (by first | exact Z.ints_one | assumption | simp [Value.oneCell']) (by unfold maxLen; omega) (by omega) ?_
                                clear hs; intro v75 w75 hs
                                simp only [List.set_cons_zero, List.set_cons_succ] at hs
                                refine Z.lb 1 rfl ?_
                                refine Z.lnil ?_
                                refine Z.only [0, 2, 7, 8, 10] rfl ?_
                                refine Z.nblock ?_
                                refine Z.nthen ?_
                                refine Z.region ?_
                                refine Z.lb 1 rfl ?_
                                refine Z.l rfl rfl (by rfl) (Z.keepS hs) (Z.Yd.add rfl rfl (fun hG => Z.wi64 (by first | omega | (have hG' := Z.gh rfl hG; simp at hG'; omega)))) ?_
                                refine Z.lb 1 rfl ?_
                                refine Z.lnil ?_
                                refine Z.only [0, 2, 7, 8, 10] rfl ?_
                                refine Z.nthen ?_
                                have ed : ints .u8 (datR ((ps.map MpV.plain).take (k + 1))) = ints .u8 (datR ((ps.map MpV.plain).take k)) ++ ints .u8 q.l := by rw [htk, datR_snoc]; simp [ints, MpV.plain]
                                have el : (datR ((ps.map MpV.plain).take (k + 1))).length = (datR ((ps.map MpV.plain).take k)).length + q.l.length := by rw [htk, datR_snoc]; simp [MpV.plain]
                                first
                                | exact Z.again (k + 1, _, _, acc ++ [q.lc + 32] ++ lenF q.l.length) (by refine ⟨?_, ?_, ?_, ?_, ?_, trivial⟩ <;> (first | rfl | (refine Z.lookv rfl ?_; simp; done) | (refine Z.lookv rfl ?_; simp; omega))) ⟨⟨by simp only; omega, by simp only [List.append_assoc, List.cons_append, List.nil_append] at hacc ⊢; exact hacc, by simp only [List.length_append, List.length_singleton]; omega⟩, by simp only [List.length_append, List.length_singleton]; rw [el, ed, ints_app, ints_app]; exact hs.sel [1, 2] (by decide)⟩ (by simp only; omega)
                                | exact Z.again (k + 1, _, _, acc ++ [q.lc + 32]) (by refine ⟨?_, ?_, ?_, ?_, ?_, trivial⟩ <;> (first | rfl | (refine Z.lookv rfl ?_; simp; done) | (refine Z.lookv rfl ?_; simp; omega))) ⟨⟨by simp only; omega, by rw [if_neg (by simp_all)] at hacc; simp only [List.append_assoc, List.cons_append, List.nil_append] at hacc ⊢; exact hacc, by simp only [List.length_append, List.length_singleton]; omega⟩, by simp only [List.length_append, List.length_singleton]; rw [el, ed, ints_app]; exact hs⟩ (by simp only; omega)
                                | exact Z.again (k + 1, _, _, acc ++ [q.lc]) (by refine ⟨?_, ?_, ?_, ?_, ?_, trivial⟩ <;> (first | rfl | (refine Z.lookv rfl ?_; simp; done) | (refine Z.lookv rfl ?_; simp; omega))) ⟨⟨by simp only; omega, by simp only [List.append_assoc, List.cons_append, List.nil_append] at hacc ⊢; exact hacc, by simp only [List.length_append, List.length_singleton]; omega⟩, by simp only [List.length_append, List.length_singleton]; rw [el, ed, ints_app]; exact hs⟩ (by simp only; omega)
                                )
                          )
                    )
              )
        · first
            | (exfalso; simp at hc7 <;> omega)
            | (
              (try simp at hc7)
              refine Z.exit ?_
              refine Z.xthen ?_
              refine Z.xthen ?_
              refine Z.xblock ?_
              refine Z.nthen ?_
              refine Z.seq ?_
              refine Z.seq ?_
              refine Z.region ?_
              obtain rfl : k = n := by omega
              rw [List.drop_of_length_le (by simp; omega)] at hacc
              rw [List.take_of_length_le (by simp; omega)] at hs
              simp only [hdsR, List.append_nil] at hacc
              have hdl := datR_le hf
              have hdl2 : (datR (ps.map MpV.plain)).length ≤ 10000000 := by
                have : ps.length * 100000 ≤ 100 * 100000 := Nat.mul_le_mul_right _ (by omega)
                omega
              have hal2 : acc.length ≤ 400 := by omega
              have hj : joinB (ps.map MpV.plain) i after = acc ++ (if 0 ≤ after then [31] else []) ++ (datR (ps.map MpV.plain) ++ if 0 ≤ after then List.replicate after.toNat 0 else []) := by unfold joinB; rw [← hacc]
              refine Z.l rfl rfl (by rfl) (Z.keepS hs) (Z.Yd.pure rfl) ?_
              refine Z.lb 1 rfl ?_
              refine Z.lnil ?_
              refine Z.only [2, 7, 8, 77] rfl ?_
              refine Z.nthen ?_
              refine Z.cond rfl (fun hc17 => ?_) (fun hc17 => ?_)
              · first
                  | (exfalso; simp at hc17 <;> omega)
                  | (
                    (try simp at hc17)
                    have haf0 : 0 ≤ after := by assumption
                    rw [if_pos haf0, if_pos haf0] at hj
                    obtain ⟨a, rfl⟩ : ∃ a : Nat, after = (a : Int) := ⟨after.toNat, by omega⟩
                    have hj1 : ints .u8 (joinB (ps.map MpV.plain) i a) = (ints .u8 acc ++ [.int .u8 31]) ++ (ints .u8 (datR (ps.map MpV.plain)) ++ List.replicate a (Value.int .u8 0)) := by rw [hj]; simp [ints]
                    have hj2 : (joinB (ps.map MpV.plain) i a).length = acc.length + 1 + ((datR (ps.map MpV.plain)).length + a) := by rw [hj]; simp; omega
                    have hj3 : (ints .u8 (datR (ps.map MpV.plain)) ++ List.replicate a (Value.int .u8 0)).length = ((datR (ps.map MpV.plain)).length + a) * 1 := by simp [ints]
                    have hj4 : ∀ u ∈ ints .u8 (datR (ps.map MpV.plain)) ++ List.replicate a (Value.int .u8 0), u.oneCell' = true := by
                      intro u hu
                      rcases List.mem_append.1 hu with h | h
                      · exact Z.ints_one u h
                      · rw [(List.mem_replicate.1 h).2]; rfl
                    refine Z.seq ?_
                    refine Z.region ?_
                    refine Z.lb 1 rfl ?_
                    refine Z.le rfl trivial ?_
                    refine Z.ZO.litL (T' := 5) [(0, 1)] [.int .u8 0] rfl rfl (by rfl) rfl rfl (by intro W; kernel_rfl) hs ?_
                    clear hs; intro g79 w79 hs
                    refine Z.le rfl trivial ?_
                    refine Z.ZO.append (i0 := Try.t5) (size := 1) (bytes := 1) rfl rfl (by rfl) hs Try.underlying26 (by kernel_rfl) rfl rfl rfl rfl (by decide) rfl rfl (by first | exact SX.at0 | exact SX.at1 | exact SX.at2 | exact SX.at3 | exact SX.at4 | exact SX.at5 | exact Z.at6 | exact Z.at7 | exact Z.at8 | exact Z.at9 | exact Z.at10 | exact Z.at11 | exact Z.at12) (by first | exact SX.at0 | exact SX.at1 | exact SX.at2 | exact SX.at3 | exact SX.at4 | exact SX.at5 | exact Z.at6 | exact Z.at7 | exact Z.at8 | exact Z.at9 | exact Z.at10 | exact Z.at11 | exact Z.at12) (by first | rfl | simp) (by simp [Value.oneCell']) (by decide) (by unfold maxLen; omega) (by omega) ?_
                    clear hs; intro g80 cap80 w80 hs
                    simp only [List.set_cons_zero, List.set_cons_succ, List.eraseIdx_cons_zero, List.eraseIdx_cons_succ] at hs
                    refine Z.lb 1 rfl ?_
                    refine Z.lnil ?_
                    refine Z.only [2, 7, 8] rfl ?_
                    refine Z.nthen ?_
                    refine Z.region ?_
                    refine Z.lb 2 rfl ?_
                    refine Z.le rfl trivial ?_
                    refine Z.ZO.appendZ (m := a) (i0 := Try.t5) rfl rfl (by rfl) hs Try.underlying26 Try.underlying3 (by kernel_rfl) rfl rfl rfl rfl rfl rfl rfl (by first | exact SX.at0 | exact SX.at1 | exact SX.at2 | exact SX.at3 | exact SX.at4 | exact SX.at5 | exact Z.at6 | exact Z.at7 | exact Z.at8 | exact Z.at9 | exact Z.at10 | exact Z.at11 | exact Z.at12) (by omega) (by omega) ?_
                    clear hs; intro v83 w83 hs
                    simp only [List.set_cons_zero, List.set_cons_succ] at hs
                    refine Z.lb 1 rfl ?_
                    refine Z.lnil ?_
                    refine Z.only [7, 8] rfl ?_
                    refine Z.nthen ?_
                    refine Z.seq ?_
                    refine Z.region ?_
                    refine Z.lb 1 rfl ?_
                    obtain ⟨Ad, cd, rfl, -, -, -⟩ := SX.row_slv hs (j := 1) rfl
                    refine Z.l rfl rfl (by rfl) (Z.keepS hs) (Z.Yd.pure rfl) ?_
                    refine Z.le rfl trivial ?_
                    refine Z.ZO.appendG (i0 := Try.t5) (size := 1) (bytes := 1) rfl rfl (by rfl) hs Try.underlying26 (by kernel_rfl) rfl rfl rfl rfl (by decide) rfl rfl (by first | exact SX.at0 | exact SX.at1 | exact SX.at2 | exact SX.at3 | exact SX.at4 | exact SX.at5 | exact Z.at6 | exact Z.at7 | exact Z.at8 | exact Z.at9 | exact Z.at10 | exact Z.at11 | exact Z.at12) (SX.row_slB hs (j := 1) rfl) (by first | rfl | assumption | (simp [ints_length]; done) | (simp [ints_length]; omega)) (by first | exact Z.ints_one | assumption | simp [Value.oneCell']) (by unfold maxLen; omega) (by omega) ?_
                    clear hs; intro v86 w86 hs
                    simp only [List.set_cons_zero, List.set_cons_succ] at hs
                    refine Z.lb 1 rfl ?_
                    refine Z.lnil ?_
                    refine Z.only [6] rfl ?_
                    refine Z.nthen ?_
                    refine Z.ret ?_
                    -- ret#0
                    refine Z.out1 (by exact ⟨rfl, trivial⟩) ?_
                    exact ⟨_, rfl, by rw [hj1, hj2]; exact hs.sub ((List.nil_sublist _).cons_cons _)⟩
                    )
              · first
                  | (exfalso; simp at hc17 <;> omega)
                  | (
                    (try simp at hc17)
                    have haf0 : ¬ 0 ≤ after := by omega
                    rw [if_neg haf0, if_neg haf0, List.append_nil, List.append_nil] at hj
                    have hj1 : ints .u8 (joinB (ps.map MpV.plain) i after) = ints .u8 acc ++ ints .u8 (datR (ps.map MpV.plain)) := by rw [hj]; simp [ints]
                    have hj2 : (joinB (ps.map MpV.plain) i after).length = acc.length + (datR (ps.map MpV.plain)).length := by rw [hj]; simp
                    refine Z.skip ?_
                    refine Z.nthen ?_
                    refine Z.seq ?_
                    refine Z.region ?_
                    refine Z.lb 1 rfl ?_
                    obtain ⟨Ad, cd, rfl, -, -, -⟩ := SX.row_slv hs (j := 1) rfl
                    refine Z.l rfl rfl (by rfl) (Z.keepS hs) (Z.Yd.pure rfl) ?_
                    refine Z.le rfl trivial ?_
                    refine Z.ZO.appendG (i0 := Try.t5) (size := 1) (bytes := 1) rfl rfl (by rfl) hs Try.underlying26 (by kernel_rfl) rfl rfl rfl rfl (by decide) rfl rfl (by first | exact SX.at0 | exact SX.at1 | exact SX.at2 | exact SX.at3 | exact SX.at4 | exact SX.at5 | exact Z.at6 | exact Z.at7 | exact Z.at8 | exact Z.at9 | exact Z.at10 | exact Z.at11 | exact Z.at12) (SX.row_slB hs (j := 1) rfl) (by first | rfl | assumption | (simp [ints_length]; done) | (simp [ints_length]; omega)) (by first | exact Z.ints_one | assumption | simp [Value.oneCell']) (by unfold maxLen; omega) (by omega) ?_
                    clear hs; intro v86 w86 hs
                    simp only [List.set_cons_zero, List.set_cons_succ] at hs
                    refine Z.lb 1 rfl ?_
                    refine Z.lnil ?_
                    refine Z.only [6] rfl ?_
                    refine Z.nthen ?_
                    refine Z.ret ?_
                    -- ret#1
                    refine Z.out1 (by exact ⟨rfl, trivial⟩) ?_
                    exact ⟨_, rfl, by rw [hj1, hj2]; exact hs.sub ((List.nil_sublist _).cons_cons _)⟩
                    )
              )
        )
end Go.Proofs.Ytogjkgoiofngaaa

/- Bits of whole bytes. -/
namespace Go.Proofs.Ytogjkgoiofngaaa
open Go.RowKit
set_option linter.unusedSimpArgs false
set_option linter.unusedVariables false
--newlaws

theorem elt_gt {l : List Int} {i : Nat} (h : i < l.length) : elt l (i : Int) = l[i] := by simp [elt, h]
theorem fld_app (v : Nat) : ∀ a b, fld v (a + b) = fld (v / 2 ^ b) a ++ fld v b
  | 0, b => by simp [fld]
  | a + 1, b => by
    rw [show a + 1 + b = (a + b) + 1 from by omega]
    simp only [fld, List.cons_append]
    rw [fld_app v a b, Nat.testBit_div_two_pow]
theorem fld_mod (v : Nat) : ∀ b c, b ≤ c → fld (v % 2 ^ c) b = fld v b
  | 0, c, _ => rfl
  | b + 1, c, h => by
    simp only [fld]
    rw [fld_mod v b c (by omega), Nat.testBit_mod_two_pow]
    simp [show b < c from by omega]
set_option maxRecDepth 100000 in
theorem byte_bits : ∀ x : Fin 256, 128 * (x.val.testBit 7).toNat + 64 * (x.val.testBit 6).toNat + 32 * (x.val.testBit 5).toNat + 16 * (x.val.testBit 4).toNat + 8 * (x.val.testBit 3).toNat + 4 * (x.val.testBit 2).toNat + 2 * (x.val.testBit 1).toNat + (x.val.testBit 0).toNat = x.val := by decide
theorem bn_unb {l : List Int} {j i : Nat} (hj : j < l.length) (hi : i < 8) : bn (unb l) (8 * j + i) = ((elt l (j : Int)).toNat.testBit (7 - i)).toNat := by
  have h := unb_get (l := l) (k := 8 * j + i) (by omega)
  unfold bn bt
  rw [List.getD_eq_getElem?_getD, h]
  rw [show (((8 * j + i : Nat) : Int) / 8) = (j : Int) from by omega, show (8 * j + i) % 8 = i from by omega]
  rfl
theorem pk_unb {l : List Int} (hb : ∀ x ∈ l, 0 ≤ x ∧ x < 256) : pk (unb l) = l := by
  have hl := unb_length l
  refine List.ext_getElem (by rw [pk_length, hl]; omega) fun j h1 h2 => ?_
  have hj : j < l.length := h2
  have e1 : elt (pk (unb l)) (j : Int) = (byt (unb l) j : Int) := by unfold pk; exact elt_pkn (by rw [hl]; omega)
  rw [← elt_gt h1, ← elt_gt h2, e1]
  have hx := hb _ (List.getElem_mem hj)
  rw [← elt_gt hj] at hx
  generalize hv : elt l (j : Int) = v at hx
  have hbits := byte_bits ⟨v.toNat, by omega⟩
  unfold byt
  have e0 : bn (unb l) (8 * j) = ((elt l (j : Int)).toNat.testBit 7).toNat := bn_unb (i := 0) hj (by omega)
  rw [e0, bn_unb hj (by omega), bn_unb hj (by omega), bn_unb hj (by omega), bn_unb hj (by omega), bn_unb hj (by omega), bn_unb hj (by omega), bn_unb hj (by omega), hv]
  simp only [Nat.sub_zero, Nat.reduceSub] at hbits ⊢
  omega
/-- a subheader's three fields are one byte -/
theorem head_bits : ∀ x : Fin 32, fld 0 2 ++ (fld 0 1 ++ fld x.val 5) = fld x.val 8 ∧ fld 0 2 ++ (fld 1 1 ++ fld x.val 5) = fld (x.val + 32) 8 := by decide
theorem len_short : ∀ x : Fin 128, fld 0 1 ++ fld x.val 7 = fld x.val 8 := by decide
theorem len_long {n : Nat} (h : n < 32768) : fld 1 1 ++ fld n 15 = fld (128 + n / 256) 8 ++ fld (n % 256) 8 := by
  have h1 : fld (32768 + n) (1 + 15) = fld ((32768 + n) / 2 ^ 15) 1 ++ fld (32768 + n) 15 := fld_app _ _ _
  have h2 : fld (32768 + n) (8 + 8) = fld ((32768 + n) / 2 ^ 8) 8 ++ fld (32768 + n) 8 := fld_app _ _ _
  have h3 : (32768 + n) / 2 ^ 15 = 1 := by omega
  have h4 : fld (32768 + n) 15 = fld n 15 := by rw [← fld_mod (32768 + n) 15 15 (by omega)]; congr 1; omega
  have h5 : (32768 + n) / 2 ^ 8 = 128 + n / 256 := by omega
  have h6 : fld (32768 + n) 8 = fld (n % 256) 8 := by rw [← fld_mod (32768 + n) 8 8 (by omega)]; congr 1; omega
  rw [h3, h4] at h1
  rw [h5, h6] at h2
  rw [← h1, ← h2]
end Go.Proofs.Ytogjkgoiofngaaa

/- MAC PDUs: the document's Need, Build, Fit. -/
namespace Go.Proofs.Ytogjkgoiofngaaa
open Go.RowKit
set_option linter.unusedSimpArgs false
set_option linter.unusedVariables false
--newlaws

theorem lenF_ext {p : Prt} (h : sduB p.1) : ((lenF p.2.length).length : Int) = extP p := by
  unfold lenF extP
  rw [if_pos h]
  by_cases h1 : p.2.length ≤ 127
  · rw [if_pos h1, if_neg (by omega)]; rfl
  · rw [if_neg h1, if_pos (by omega)]; rfl
theorem ext_no {p : Prt} (h : ¬ sduB p.1) : extP p = 0 := if_neg h
theorem datR_cons (p : Prt) (r : List Prt) : datR (p :: r) = p.2 ++ datR r := rfl
theorem hds_true : ∀ r : List Prt, ((hdsR r true).length : Int) + ((datR r).length : Int) = totP r
  | [] => rfl
  | p :: r => by
    have ih := hds_true r
    rw [hdsR_cons, totP_cons, datR_cons, if_neg (by simp), List.length_append, List.length_append, List.length_cons]
    by_cases h : sduB p.1
    · have := lenF_ext h
      rw [if_pos h]
      omega
    · rw [if_neg h, ext_no h, List.length_nil]
      omega
theorem lastP_cons {p : Prt} {r : List Prt} (h : r ≠ []) : lastP (p :: r) = lastP r := by
  unfold lastP
  cases r with
  | nil => exact absurd rfl h
  | cons a l => rfl
theorem hds_false : ∀ r : List Prt, r ≠ [] → ((hdsR r false).length : Int) + ((datR r).length : Int) = needP r
  | [], h => absurd rfl h
  | [p], _ => by
    unfold needP
    rw [hdsR_cons, totP_cons, datR_cons, if_pos (by simp)]
    simp [hdsR, datR, totP, lastP]
    omega
  | p :: a :: r, _ => by
    have ih := hds_false (a :: r) (by simp)
    unfold needP at ih ⊢
    rw [lastP_cons (by simp)]
    rw [hdsR_cons, totP_cons, datR_cons, if_neg (by simp), List.length_append, List.length_append, List.length_cons]
    by_cases h : sduB p.1
    · have := lenF_ext h
      rw [if_pos h]
      omega
    · rw [if_neg h, ext_no h, List.length_nil]
      omega
theorem join_full (r : List Prt) : ((joinB r 0 0).length : Int) = totP r + 1 := by
  have h := hds_true r
  unfold joinB
  simp
  omega
theorem join_bare (r : List Prt) (f : Nat) (h : r ≠ []) : ((joinB r f (-1)).length : Int) = needP r + f := by
  have h := hds_false r h
  unfold joinB
  simp
  omega
theorem join_pad (r : List Prt) (a : Int) (h : 0 ≤ a) : ((joinB r 0 a).length : Int) = totP r + 1 + a := by
  have h' := hds_true r
  unfold joinB
  simp [h]
  omega
/-- the bytes and the error of Build -/
def bldV (size : Int) (r : List Prt) : List Int × Int :=
  if ¬ ((1 ≤ size ∧ size ≤ 16384) ∧ okN r) then ([], 2)
  else if size - needP r < 0 then ([], 4)
  else if size - needP r ≤ 2 then (joinB r (size - needP r).toNat (-1), 0)
  else (joinB r 0 (size - (totP r + 1)), 0)
theorem bld_arg {size : Int} {r : List Prt} (h : ¬ ((1 ≤ size ∧ size ≤ 16384) ∧ okN r)) : bldV size r = ([], 2) := if_pos h
theorem bld_long {size : Int} {r : List Prt} (h : (1 ≤ size ∧ size ≤ 16384) ∧ okN r) (h2 : size - needP r < 0) : bldV size r = ([], 4) := by unfold bldV; rw [if_neg (fun hh => hh h), if_pos h2]
theorem bld_few {size : Int} {r : List Prt} {d : Nat} (h : (1 ≤ size ∧ size ≤ 16384) ∧ okN r) (h2 : size - needP r = (d : Int)) (h3 : d ≤ 2) : bldV size r = (joinB r d (-1), 0) := by
  unfold bldV
  rw [if_neg (fun hh => hh h), if_neg (by omega), if_pos (by omega), h2, Int.toNat_natCast]
theorem bld_pad {size : Int} {r : List Prt} (h : (1 ≤ size ∧ size ≤ 16384) ∧ okN r) (h2 : 2 < size - needP r) : bldV size r = (joinB r 0 (size - (totP r + 1)), 0) := by
  unfold bldV
  rw [if_neg (fun hh => hh h), if_neg (by omega), if_neg (by omega)]
theorem need_tot (r : List Prt) : totP r - 2 ≤ needP r ∧ needP r ≤ totP r := by
  have := extP_bd (lastP r)
  unfold needP
  omega
theorem mr_Need (A : Option Addr) (n c : Nat) (ps : List MpV) (w : World) (hx : Sl w A (ps.flatMap MpV.cells)) (hl : ps.length = n) (hn : n ≤ 100) (hf : ∀ q ∈ ps, q.l.length ≤ 100000) (hB : ∀ q ∈ ps, Sl w q.B (ints .u8 q.l)) :
    Calls Try.prog 15 #[.slice A n c] w (SX.Ret fun v w' => v = .tuple #[.int .i64 (needV (ps.map MpV.plain)).1, .int .i64 (needV (ps.map MpV.plain)).2] ∧ SX.St w [] w' []) := by
  have hs := SX.St.start w
  have hne : ps.map MpV.plain ≠ [] ↔ n ≠ 0 := by rw [← hl]; simp
  refine Z.enter Try.func15 rfl Try.ntmps15 rfl rfl ?_
  refine Z.seq ?_
  refine Z.region ?_
  refine Z.lb 2 rfl ?_
  refine Z.lnil ?_
  refine Z.only [0] rfl ?_
  refine Z.nthen ?_
  refine Z.seq ?_
  refine Z.seq ?_
  refine Z.region ?_
  refine Z.lb 1 rfl ?_
  refine Z.l rfl rfl (by rfl) (Z.keepS hs) (Z.Yd.lenS rfl Try.underlying22) ?_
  refine Z.lb 2 rfl ?_
  refine Z.split (s := 7) rfl (fun hsp7 => ?_) (fun hsp7 => ?_)
  · first
      | (exfalso; simp at hsp7 <;> omega)
      | (
        refine Z.yes (s := 7) (b := true) rfl hsp7 rfl ?_
        (try simp at hsp7)
        refine Z.ls rfl rfl rfl (by rfl) ?_
        refine Z.ls rfl rfl rfl (by rfl) ?_
        refine Z.ls rfl rfl rfl (by rfl) ?_
        refine Z.l rfl rfl (by rfl) (Z.keepS hs) (Z.Yd.pickT rfl rfl) ?_
        refine Z.lnil ?_
        refine Z.only [0, 11] rfl ?_
        refine Z.nthen ?_
        refine Z.cond rfl (fun hc1 => ?_) (fun hc1 => ?_)
        · first
            | (exfalso; simp at hc1 <;> omega)
            | (
              (try simp at hc1)
              have hno : ¬ okN (ps.map MpV.plain) := by rintro ⟨h1, h2⟩; rw [hne] at h1; first | omega | simp_all
              rw [show needV (ps.map MpV.plain) = (0, 2) from if_neg hno]
              refine Z.seq ?_
              refine Z.region ?_
              refine Z.lb 2 rfl ?_
              refine Z.lnil ?_
              refine Z.only [2, 3] rfl ?_
              refine Z.nthen ?_
              refine Z.ret ?_
              repeat (first | refine Z.rthen ?_ | refine Z.rblock ?_ | refine Z.rscope ?_)
              -- ret#0
              refine Z.out2 (by exact ⟨rfl, rfl, trivial⟩) ?_
              exact ⟨_, rfl, rfl, hs.sub (List.nil_sublist _)⟩
              )
        · first
            | (exfalso; simp at hc1 <;> omega)
            | (
              (try simp at hc1)
              have hok : okN (ps.map MpV.plain) := ⟨by rw [hne]; omega, by simp_all⟩
              rw [show needV (ps.map MpV.plain) = (needP (ps.map MpV.plain), 0) from if_pos hok]
              have hjl := join_bare (ps.map MpV.plain) 0 hok.1
              rw [show needP (ps.map MpV.plain) = ((joinB (ps.map MpV.plain) 0 (-1)).length : Int) from by omega]
              refine Z.skip ?_
              refine Z.nthen ?_
              refine Z.seq ?_
              refine Z.region ?_
              refine Z.lb 1 rfl ?_
              refine Z.le rfl trivial ?_
              refine Z.ZO.call rfl rfl (by rfl) rfl rfl Try.call39 rfl (mr_join A n c 0 (-1) ps _ (hx.st hs) hl hn hf (fun q hq ↦ (hB q hq).st hs) hok.2 (by omega) (by omega)) ?_
              rintro v3_1 w3_1 hy
              replace hs := hs.call hy
              clear hy
              try simp only [List.cons_append, List.nil_append, List.append_nil] at hs
              obtain ⟨Aj, cj, rfl, -, -, -⟩ := SX.row_slv hs (j := 0) rfl
              refine Z.l rfl rfl (by rfl) (Z.keepS hs) (Z.Yd.lenS rfl Try.underlying26) ?_
              refine Z.lb 2 rfl ?_
              refine Z.lnil ?_
              refine Z.only [2, 3] rfl ?_
              refine Z.nthen ?_
              refine Z.ret ?_
              -- ret#1
              refine Z.out2 (by exact ⟨rfl, rfl, trivial⟩) ?_
              exact ⟨_, rfl, rfl, hs.sub (List.nil_sublist _)⟩
              )
        )
  · first
      | (exfalso; simp at hsp7 <;> omega)
      | (
        refine Z.yes (s := 7) (b := false) rfl hsp7 rfl ?_
        (try simp at hsp7)
        refine Z.lb 1 rfl ?_
        refine Z.yes (s := 7) (b := false) rfl rfl rfl ?_
        refine Z.le rfl (by exact ⟨rfl, trivial⟩) ?_
        refine Z.ZO.call rfl rfl (by rfl) rfl rfl Try.call25 rfl (mr_valid A n c ps _ hx hl (by omega)) ?_
        rintro v1_5 w1_5 ⟨rfl, hy⟩
        replace hs := hs.call hy
        clear hy
        try simp only [List.cons_append, List.nil_append, List.append_nil] at hs
        refine Z.lb 1 rfl ?_
        refine Z.yes (s := 7) (b := false) rfl rfl rfl ?_
        refine Z.l rfl rfl (by rfl) (Z.keepS hs) (Z.Yd.pickF rfl rfl) ?_
        refine Z.lnil ?_
        refine Z.only [0, 11] rfl ?_
        refine Z.nthen ?_
        refine Z.cond rfl (fun hc1 => ?_) (fun hc1 => ?_)
        · first
            | (exfalso; simp at hc1 <;> omega)
            | (
              (try simp at hc1)
              have hno : ¬ okN (ps.map MpV.plain) := by rintro ⟨h1, h2⟩; rw [hne] at h1; first | omega | simp_all
              rw [show needV (ps.map MpV.plain) = (0, 2) from if_neg hno]
              refine Z.seq ?_
              refine Z.region ?_
              refine Z.lb 2 rfl ?_
              refine Z.lnil ?_
              refine Z.only [2, 3] rfl ?_
              refine Z.nthen ?_
              refine Z.ret ?_
              repeat (first | refine Z.rthen ?_ | refine Z.rblock ?_ | refine Z.rscope ?_)
              -- ret#2
              refine Z.out2 (by exact ⟨rfl, rfl, trivial⟩) ?_
              exact ⟨_, rfl, rfl, hs.sub (List.nil_sublist _)⟩
              )
        · first
            | (exfalso; simp at hc1 <;> omega)
            | (
              (try simp at hc1)
              have hok : okN (ps.map MpV.plain) := ⟨by rw [hne]; omega, by simp_all⟩
              rw [show needV (ps.map MpV.plain) = (needP (ps.map MpV.plain), 0) from if_pos hok]
              have hjl := join_bare (ps.map MpV.plain) 0 hok.1
              rw [show needP (ps.map MpV.plain) = ((joinB (ps.map MpV.plain) 0 (-1)).length : Int) from by omega]
              refine Z.skip ?_
              refine Z.nthen ?_
              refine Z.seq ?_
              refine Z.region ?_
              refine Z.lb 1 rfl ?_
              refine Z.le rfl trivial ?_
              refine Z.ZO.call rfl rfl (by rfl) rfl rfl Try.call39 rfl (mr_join A n c 0 (-1) ps _ (hx.st hs) hl hn hf (fun q hq ↦ (hB q hq).st hs) hok.2 (by omega) (by omega)) ?_
              rintro v3_1 w3_1 hy
              replace hs := hs.call hy
              clear hy
              try simp only [List.cons_append, List.nil_append, List.append_nil] at hs
              obtain ⟨Aj, cj, rfl, -, -, -⟩ := SX.row_slv hs (j := 0) rfl
              refine Z.l rfl rfl (by rfl) (Z.keepS hs) (Z.Yd.lenS rfl Try.underlying26) ?_
              refine Z.lb 2 rfl ?_
              refine Z.lnil ?_
              refine Z.only [2, 3] rfl ?_
              refine Z.nthen ?_
              refine Z.ret ?_
              -- ret#3
              refine Z.out2 (by exact ⟨rfl, rfl, trivial⟩) ?_
              exact ⟨_, rfl, rfl, hs.sub (List.nil_sublist _)⟩
              )
        )
set_option maxHeartbeats 1000000 in
theorem mr_Fit (size : Int) (A : Option Addr) (n c : Nat) (ps : List MpV) (w : World) (hx : Sl w A (ps.flatMap MpV.cells)) (hl : ps.length = n) (hn : n ≤ 100) (hf : ∀ q ∈ ps, q.l.length ≤ 100000) (hB : ∀ q ∈ ps, Sl w q.B (ints .u8 q.l)) :
    Calls Try.prog 20 #[.int .i64 size, .slice A n c] w (SX.Ret fun v w' => v = .tuple #[.int .i64 (fitV size (ps.map MpV.plain)).1, .int .i64 (fitV size (ps.map MpV.plain)).2] ∧ SX.St w [] w' []) := by
  have hs := SX.St.start w
  have hbd := totP_bd hf
  refine Z.enter Try.func20 rfl Try.ntmps20 rfl rfl ?_
  refine Z.seq ?_
  refine Z.region ?_
  refine Z.lb 2 rfl ?_
  refine Z.lnil ?_
  refine Z.only [0, 1] rfl ?_
  refine Z.nthen ?_
  refine Z.seq ?_
  refine Z.seq ?_
  refine Z.region ?_
  refine Z.lb 7 rfl ?_
  refine Z.split (s := 13) rfl (fun hsp13 => ?_) (fun hsp13 => ?_)
  · first
      | (exfalso; simp at hsp13 <;> omega)
      | (
        refine Z.yes (s := 13) (b := true) rfl hsp13 rfl ?_
        (try simp at hsp13)
        refine Z.ls rfl rfl rfl (by rfl) ?_
        refine Z.ls rfl rfl rfl (by rfl) ?_
        refine Z.ls rfl rfl rfl (by rfl) ?_
        refine Z.l rfl rfl (by rfl) (Z.keepS hs) (Z.Yd.pickT rfl rfl) ?_
        refine Z.lnil ?_
        refine Z.only [0, 1, 17] rfl ?_
        refine Z.nthen ?_
        refine Z.cond rfl (fun hc1 => ?_) (fun hc1 => ?_)
        · first
            | (exfalso; simp at hc1 <;> omega)
            | (
              (try simp at hc1)
              have hno : ¬ okFt size (ps.map MpV.plain) := by rintro ⟨h1, h2⟩; first | omega | simp_all
              rw [show fitV size (ps.map MpV.plain) = (0, 2) from if_neg hno]
              refine Z.seq ?_
              refine Z.region ?_
              refine Z.lb 2 rfl ?_
              refine Z.lnil ?_
              refine Z.only [4, 5] rfl ?_
              refine Z.nthen ?_
              refine Z.ret ?_
              repeat (first | refine Z.rthen ?_ | refine Z.rblock ?_ | refine Z.rscope ?_)
              -- ret#0
              refine Z.out2 (by exact ⟨rfl, rfl, trivial⟩) ?_
              exact ⟨_, rfl, by first | rfl | (congr 4; omega), hs.sub (List.nil_sublist _)⟩
              )
        · first
            | (exfalso; simp at hc1 <;> omega)
            | (
              (try simp at hc1)
              have hok : okFt size (ps.map MpV.plain) := ⟨by omega, by simp_all⟩
              rw [show fitV size (ps.map MpV.plain) = (_, 0) from if_pos hok]
              have hjl := join_full (ps.map MpV.plain)
              refine Z.skip ?_
              refine Z.nthen ?_
              refine Z.seq ?_
              refine Z.region ?_
              refine Z.lb 1 rfl ?_
              refine Z.lnil ?_
              refine Z.only [0, 1, 6] rfl ?_
              refine Z.nthen ?_
              refine Z.seq ?_
              refine Z.seq ?_
              refine Z.region ?_
              refine Z.lb 1 rfl ?_
              refine Z.l rfl rfl (by rfl) (Z.keepS hs) (Z.Yd.lenS rfl Try.underlying22) ?_
              refine Z.lb 1 rfl ?_
              refine Z.lnil ?_
              refine Z.only [0, 1, 6, 20] rfl ?_
              refine Z.nthen ?_
              refine Z.cutt (ι := List SX.Ent) [0, 1] rfl (fun x => [(6, [], .int .i64 (if n = 0 then 0 else totP (ps.map MpV.plain) + 1))]) (fun x wr => SX.St w [] wr x) ?_ ?_
              · skip
                refine Z.cond rfl (fun hc4 => ?_) (fun hc4 => ?_)
                · first
                    | (exfalso; simp at hc4 <;> omega)
                    | (
                      (try simp at hc4)
                      have hu : (if n = 0 then (0 : Int) else totP (ps.map MpV.plain) + 1) = ((joinB (ps.map MpV.plain) 0 0).length : Int) := by rw [if_neg (by omega), hjl]
                      refine Z.region ?_
                      refine Z.lb 1 rfl ?_
                      refine Z.le rfl trivial ?_
                      refine Z.ZO.call rfl rfl (by rfl) rfl rfl Try.call39 rfl (mr_join A n c 0 0 ps _ (hx.st hs) hl hn hf (fun q hq ↦ (hB q hq).st hs) hok.2 (by omega) (by omega)) ?_
                      rintro v5_1 w5_1 hy
                      replace hs := hs.call hy
                      clear hy
                      try simp only [List.cons_append, List.nil_append, List.append_nil] at hs
                      obtain ⟨Aj, cj, rfl, -, -, -⟩ := SX.row_slv hs (j := 0) rfl
                      refine Z.l rfl rfl (by rfl) (Z.keepS hs) (Z.Yd.lenS rfl Try.underlying26) ?_
                      refine Z.lb 1 rfl ?_
                      refine Z.lnil ?_
                      refine Z.only [0, 1, 6] rfl ?_
                      refine Z.nthen ?_
                      exact Z.meet _ (by refine ⟨?_, ?_, ?_, trivial⟩ <;> first | rfl | ((rw [hu]; rfl))) hs
                      )
                · first
                    | (exfalso; simp at hc4 <;> omega)
                    | (
                      (try simp at hc4)
                      have hu : (if n = 0 then (0 : Int) else totP (ps.map MpV.plain) + 1) = 0 := if_pos (by omega)
                      refine Z.skip ?_
                      refine Z.nthen ?_
                      exact Z.meet _ (by refine ⟨?_, ?_, ?_, trivial⟩ <;> first | rfl | ((rw [hu]; rfl))) hs
                      )
              · clear hs
                rintro Lx w5 hs
                refine Z.only [0, 1, 6] rfl ?_
                refine Z.seq ?_
                refine Z.seq ?_
                refine Z.region ?_
                refine Z.lb 1 rfl ?_
                refine Z.l rfl rfl (by rfl) (Z.keepS hs) (Z.Yd.lenS rfl Try.underlying22) ?_
                refine Z.lb 1 rfl ?_
                refine Z.lnil ?_
                refine Z.only [0, 6, 26] rfl ?_
                refine Z.nthen ?_
                refine Z.cond rfl (fun hc6 => ?_) (fun hc6 => ?_)
                · first
                    | (exfalso; simp at hc6 <;> omega)
                    | (
                      (try simp at hc6)
                      obtain rfl : n = 0 := by omega
                      have e0 : totP (ps.map MpV.plain) = 0 := by rw [List.eq_nil_of_length_eq_zero hl]; rfl
                      rw [e0]
                      refine Z.region ?_
                      refine Z.lb 1 rfl ?_
                      refine Z.lnil ?_
                      refine Z.only [0, 6] rfl ?_
                      refine Z.nthen ?_
                      refine Z.seq ?_
                      refine Z.region ?_
                      refine Z.lb 2 rfl ?_
                      refine Z.l rfl rfl (by rfl) (Z.keepS hs) (Z.Yd.sub rfl rfl (fun hG => Z.wi64 (by first | omega | (have hG' := Z.gh rfl hG; simp at hG'; omega)))) ?_
                      refine Z.l rfl rfl (by rfl) (Z.keepS hs) (Z.Yd.min rfl rfl) ?_
                      refine Z.l rfl rfl (by rfl) (Z.keepS hs) (Z.Yd.max rfl rfl) ?_
                      refine Z.lb 2 rfl ?_
                      refine Z.lnil ?_
                      refine Z.only [4, 5] rfl ?_
                      refine Z.nthen ?_
                      refine Z.ret ?_
                      -- ret#1
                      refine Z.out2 (by exact ⟨rfl, rfl, trivial⟩) ?_
                      exact ⟨_, rfl, by first | rfl | (congr 4; omega), hs.sub (List.nil_sublist _)⟩
                      )
                · first
                    | (exfalso; simp at hc6 <;> omega)
                    | (
                      (try simp at hc6)
                      rw [if_neg (by omega)]
                      refine Z.skip ?_
                      refine Z.nthen ?_
                      refine Z.seq ?_
                      refine Z.region ?_
                      refine Z.lb 2 rfl ?_
                      refine Z.l rfl rfl (by rfl) (Z.keepS hs) (Z.Yd.sub rfl rfl (fun hG => Z.wi64 (by first | omega | (have hG' := Z.gh rfl hG; simp at hG'; omega)))) ?_
                      refine Z.l rfl rfl (by rfl) (Z.keepS hs) (Z.Yd.min rfl rfl) ?_
                      refine Z.l rfl rfl (by rfl) (Z.keepS hs) (Z.Yd.max rfl rfl) ?_
                      refine Z.lb 2 rfl ?_
                      refine Z.lnil ?_
                      refine Z.only [4, 5] rfl ?_
                      refine Z.nthen ?_
                      refine Z.ret ?_
                      -- ret#2
                      refine Z.out2 (by exact ⟨rfl, rfl, trivial⟩) ?_
                      exact ⟨_, rfl, by first | rfl | (congr 4; omega), hs.sub (List.nil_sublist _)⟩
                      )
              )
        )
  · first
      | (exfalso; simp at hsp13 <;> omega)
      | (
        refine Z.yes (s := 13) (b := false) rfl hsp13 rfl ?_
        (try simp at hsp13)
        refine Z.lb 1 rfl ?_
        refine Z.yes (s := 13) (b := false) rfl rfl rfl ?_
        refine Z.le rfl (by exact ⟨rfl, trivial⟩) ?_
        refine Z.ZO.call rfl rfl (by rfl) rfl rfl Try.call25 rfl (mr_valid A n c ps _ hx hl (by omega)) ?_
        rintro v1_8 w1_8 ⟨rfl, hy⟩
        replace hs := hs.call hy
        clear hy
        try simp only [List.cons_append, List.nil_append, List.append_nil] at hs
        refine Z.lb 1 rfl ?_
        refine Z.yes (s := 13) (b := false) rfl rfl rfl ?_
        refine Z.l rfl rfl (by rfl) (Z.keepS hs) (Z.Yd.pickF rfl rfl) ?_
        refine Z.lnil ?_
        refine Z.only [0, 1, 17] rfl ?_
        refine Z.nthen ?_
        refine Z.cond rfl (fun hc1 => ?_) (fun hc1 => ?_)
        · first
            | (exfalso; simp at hc1 <;> omega)
            | (
              (try simp at hc1)
              have hno : ¬ okFt size (ps.map MpV.plain) := by rintro ⟨h1, h2⟩; first | omega | simp_all
              rw [show fitV size (ps.map MpV.plain) = (0, 2) from if_neg hno]
              refine Z.seq ?_
              refine Z.region ?_
              refine Z.lb 2 rfl ?_
              refine Z.lnil ?_
              refine Z.only [4, 5] rfl ?_
              refine Z.nthen ?_
              refine Z.ret ?_
              repeat (first | refine Z.rthen ?_ | refine Z.rblock ?_ | refine Z.rscope ?_)
              -- ret#3
              refine Z.out2 (by exact ⟨rfl, rfl, trivial⟩) ?_
              exact ⟨_, rfl, by first | rfl | (congr 4; omega), hs.sub (List.nil_sublist _)⟩
              )
        · first
            | (exfalso; simp at hc1 <;> omega)
            | (
              (try simp at hc1)
              have hok : okFt size (ps.map MpV.plain) := ⟨by omega, by simp_all⟩
              rw [show fitV size (ps.map MpV.plain) = (_, 0) from if_pos hok]
              have hjl := join_full (ps.map MpV.plain)
              refine Z.skip ?_
              refine Z.nthen ?_
              refine Z.seq ?_
              refine Z.region ?_
              refine Z.lb 1 rfl ?_
              refine Z.lnil ?_
              refine Z.only [0, 1, 6] rfl ?_
              refine Z.nthen ?_
              refine Z.seq ?_
              refine Z.seq ?_
              refine Z.region ?_
              refine Z.lb 1 rfl ?_
              refine Z.l rfl rfl (by rfl) (Z.keepS hs) (Z.Yd.lenS rfl Try.underlying22) ?_
              refine Z.lb 1 rfl ?_
              refine Z.lnil ?_
              refine Z.only [0, 1, 6, 20] rfl ?_
              refine Z.nthen ?_
              refine Z.cutt (ι := List SX.Ent) [0, 1] rfl (fun x => [(6, [], .int .i64 (if n = 0 then 0 else totP (ps.map MpV.plain) + 1))]) (fun x wr => SX.St w [] wr x) ?_ ?_
              · skip
                refine Z.cond rfl (fun hc4 => ?_) (fun hc4 => ?_)
                · first
                    | (exfalso; simp at hc4 <;> omega)
                    | (
                      (try simp at hc4)
                      have hu : (if n = 0 then (0 : Int) else totP (ps.map MpV.plain) + 1) = ((joinB (ps.map MpV.plain) 0 0).length : Int) := by rw [if_neg (by omega), hjl]
                      refine Z.region ?_
                      refine Z.lb 1 rfl ?_
                      refine Z.le rfl trivial ?_
                      refine Z.ZO.call rfl rfl (by rfl) rfl rfl Try.call39 rfl (mr_join A n c 0 0 ps _ (hx.st hs) hl hn hf (fun q hq ↦ (hB q hq).st hs) hok.2 (by omega) (by omega)) ?_
                      rintro v5_1 w5_1 hy
                      replace hs := hs.call hy
                      clear hy
                      try simp only [List.cons_append, List.nil_append, List.append_nil] at hs
                      obtain ⟨Aj, cj, rfl, -, -, -⟩ := SX.row_slv hs (j := 0) rfl
                      refine Z.l rfl rfl (by rfl) (Z.keepS hs) (Z.Yd.lenS rfl Try.underlying26) ?_
                      refine Z.lb 1 rfl ?_
                      refine Z.lnil ?_
                      refine Z.only [0, 1, 6] rfl ?_
                      refine Z.nthen ?_
                      exact Z.meet _ (by refine ⟨?_, ?_, ?_, trivial⟩ <;> first | rfl | ((rw [hu]; rfl))) hs
                      )
                · first
                    | (exfalso; simp at hc4 <;> omega)
                    | (
                      (try simp at hc4)
                      have hu : (if n = 0 then (0 : Int) else totP (ps.map MpV.plain) + 1) = 0 := if_pos (by omega)
                      refine Z.skip ?_
                      refine Z.nthen ?_
                      exact Z.meet _ (by refine ⟨?_, ?_, ?_, trivial⟩ <;> first | rfl | ((rw [hu]; rfl))) hs
                      )
              · clear hs
                rintro Lx w5 hs
                refine Z.only [0, 1, 6] rfl ?_
                refine Z.seq ?_
                refine Z.seq ?_
                refine Z.region ?_
                refine Z.lb 1 rfl ?_
                refine Z.l rfl rfl (by rfl) (Z.keepS hs) (Z.Yd.lenS rfl Try.underlying22) ?_
                refine Z.lb 1 rfl ?_
                refine Z.lnil ?_
                refine Z.only [0, 6, 26] rfl ?_
                refine Z.nthen ?_
                refine Z.cond rfl (fun hc6 => ?_) (fun hc6 => ?_)
                · first
                    | (exfalso; simp at hc6 <;> omega)
                    | (
                      (try simp at hc6)
                      obtain rfl : n = 0 := by omega
                      have e0 : totP (ps.map MpV.plain) = 0 := by rw [List.eq_nil_of_length_eq_zero hl]; rfl
                      rw [e0]
                      refine Z.region ?_
                      refine Z.lb 1 rfl ?_
                      refine Z.lnil ?_
                      refine Z.only [0, 6] rfl ?_
                      refine Z.nthen ?_
                      refine Z.seq ?_
                      refine Z.region ?_
                      refine Z.lb 2 rfl ?_
                      refine Z.l rfl rfl (by rfl) (Z.keepS hs) (Z.Yd.sub rfl rfl (fun hG => Z.wi64 (by first | omega | (have hG' := Z.gh rfl hG; simp at hG'; omega)))) ?_
                      refine Z.l rfl rfl (by rfl) (Z.keepS hs) (Z.Yd.min rfl rfl) ?_
                      refine Z.l rfl rfl (by rfl) (Z.keepS hs) (Z.Yd.max rfl rfl) ?_
                      refine Z.lb 2 rfl ?_
                      refine Z.lnil ?_
                      refine Z.only [4, 5] rfl ?_
                      refine Z.nthen ?_
                      refine Z.ret ?_
                      -- ret#4
                      refine Z.out2 (by exact ⟨rfl, rfl, trivial⟩) ?_
                      exact ⟨_, rfl, by first | rfl | (congr 4; omega), hs.sub (List.nil_sublist _)⟩
                      )
                · first
                    | (exfalso; simp at hc6 <;> omega)
                    | (
                      (try simp at hc6)
                      rw [if_neg (by omega)]
                      refine Z.skip ?_
                      refine Z.nthen ?_
                      refine Z.seq ?_
                      refine Z.region ?_
                      refine Z.lb 2 rfl ?_
                      refine Z.l rfl rfl (by rfl) (Z.keepS hs) (Z.Yd.sub rfl rfl (fun hG => Z.wi64 (by first | omega | (have hG' := Z.gh rfl hG; simp at hG'; omega)))) ?_
                      refine Z.l rfl rfl (by rfl) (Z.keepS hs) (Z.Yd.min rfl rfl) ?_
                      refine Z.l rfl rfl (by rfl) (Z.keepS hs) (Z.Yd.max rfl rfl) ?_
                      refine Z.lb 2 rfl ?_
                      refine Z.lnil ?_
                      refine Z.only [4, 5] rfl ?_
                      refine Z.nthen ?_
                      refine Z.ret ?_
                      -- ret#5
                      refine Z.out2 (by exact ⟨rfl, rfl, trivial⟩) ?_
                      exact ⟨_, rfl, by first | rfl | (congr 4; omega), hs.sub (List.nil_sublist _)⟩
                      )
              )
        )
set_option maxHeartbeats 1000000 in
theorem mr_Build (size : Int) (A : Option Addr) (n c : Nat) (ps : List MpV) (w : World) (hx : Sl w A (ps.flatMap MpV.cells)) (hl : ps.length = n) (hn : n ≤ 100) (hf : ∀ q ∈ ps, q.l.length ≤ 100000) (hB : ∀ q ∈ ps, Sl w q.B (ints .u8 q.l)) :
    Calls Try.prog 13 #[.int .i64 size, .slice A n c] w (SX.Ret fun v w' => ∃ sv, v = .tuple #[sv, .int .i64 (bldV size (ps.map MpV.plain)).2] ∧ SX.St w [] w' [SX.Ent.row sv 5 1 (bldV size (ps.map MpV.plain)).1.length (ints .u8 (bldV size (ps.map MpV.plain)).1)]) := by
  have hs := SX.St.start w
  have hbd := totP_bd hf
  have hnt := need_tot (ps.map MpV.plain)
  have hneed : (needV (ps.map MpV.plain)).2 = 0 ↔ okN (ps.map MpV.plain) := by
    unfold needV
    by_cases h : okN (ps.map MpV.plain)
    · rw [if_pos h]; simp [h]
    · rw [if_neg h]; simp [h]
  have hneed1 : okN (ps.map MpV.plain) → (needV (ps.map MpV.plain)).1 = needP (ps.map MpV.plain) := fun h => by unfold needV; rw [if_pos h]
  refine Z.enter Try.func13 rfl Try.ntmps13 rfl rfl ?_
  refine Z.seq ?_
  refine Z.region ?_
  refine Z.lb 2 rfl ?_
  refine Z.lnil ?_
  refine Z.only [0, 1] rfl ?_
  refine Z.nthen ?_
  refine Z.seq ?_
  refine Z.region ?_
  refine Z.lb 1 rfl ?_
  refine Z.le rfl trivial ?_
  refine Z.ZO.call rfl rfl (by rfl) rfl rfl Try.call15 rfl (mr_Need A n c ps _ hx hl hn hf hB) ?_
  rintro v1_1 w1_1 ⟨rfl, hy⟩
  replace hs := hs.call hy
  clear hy
  try simp only [List.cons_append, List.nil_append, List.append_nil] at hs
  refine Z.lb 5 rfl ?_
  refine Z.lnil ?_
  refine Z.only [0, 1, 6, 7] rfl ?_
  refine Z.nthen ?_
  refine Z.seq ?_
  refine Z.seq ?_
  refine Z.region ?_
  refine Z.lb 10 rfl ?_
  refine Z.lnil ?_
  refine Z.only [0, 1, 6, 23] rfl ?_
  refine Z.nthen ?_
  refine Z.cond rfl (fun hc2 => ?_) (fun hc2 => ?_)
  · first
      | (exfalso; simp at hc2 <;> omega)
      | (
        (try simp at hc2)
        have hno : ¬ ((1 ≤ size ∧ size ≤ 16384) ∧ okN (ps.map MpV.plain)) := by rintro ⟨h1, h2⟩; have h3 := hneed.2 h2; first | omega | simp_all
        rw [bld_arg hno]
        refine Z.seq ?_
        refine Z.region ?_
        refine Z.lb 2 rfl ?_
        refine Z.lnil ?_
        refine Z.only [4, 5] rfl ?_
        refine Z.nthen ?_
        refine Z.ret ?_
        repeat (first | refine Z.rthen ?_ | refine Z.rblock ?_ | refine Z.rscope ?_)
        -- ret#0
        refine Z.out2 (by exact ⟨rfl, rfl, trivial⟩) ?_
        exact ⟨_, rfl, _, rfl, hs.nil 5 1⟩
        )
  · first
      | (exfalso; simp at hc2 <;> omega)
      | (
        (try simp at hc2)
        have hok : (1 ≤ size ∧ size ≤ 16384) ∧ okN (ps.map MpV.plain) := ⟨by omega, hneed.1 (by omega)⟩
        rw [hneed1 hok.2]
        obtain ⟨hok1, hok2⟩ := hok
        refine Z.skip ?_
        refine Z.nthen ?_
        refine Z.seq ?_
        refine Z.region ?_
        refine Z.lb 2 rfl ?_
        refine Z.l rfl rfl (by rfl) (Z.keepS hs) (Z.Yd.sub rfl rfl (fun hG => Z.wi64 (by first | omega | (have hG' := Z.gh rfl hG; simp at hG'; omega)))) ?_
        refine Z.lb 1 rfl ?_
        refine Z.lnil ?_
        refine Z.only [0, 1, 8] rfl ?_
        refine Z.nthen ?_
        refine Z.seq ?_
        refine Z.block ?_
        refine Z.seq ?_
        refine Z.region ?_
        refine Z.lb 3 rfl ?_
        refine Z.lnil ?_
        refine Z.only [0, 1, 8, 27] rfl ?_
        refine Z.nthen ?_
        refine Z.cond rfl (fun hc5 => ?_) (fun hc5 => ?_)
        · first
            | (exfalso; simp at hc5 <;> omega)
            | (
              (try simp at hc5)
              rw [bld_long ⟨hok1, hok2⟩ (by omega)]
              refine Z.seq ?_
              refine Z.region ?_
              refine Z.lb 2 rfl ?_
              refine Z.lnil ?_
              refine Z.only [4, 5] rfl ?_
              refine Z.nthen ?_
              refine Z.ret ?_
              repeat (first | refine Z.rthen ?_ | refine Z.rblock ?_ | refine Z.rscope ?_)
              -- ret#1
              refine Z.out2 (by exact ⟨rfl, rfl, trivial⟩) ?_
              exact ⟨_, rfl, _, rfl, hs.nil 5 1⟩
              )
        · first
            | (exfalso; simp at hc5 <;> omega)
            | (
              (try simp at hc5)
              refine Z.seq ?_
              refine Z.region ?_
              refine Z.lb 3 rfl ?_
              refine Z.lnil ?_
              refine Z.only [0, 1, 8, 30] rfl ?_
              refine Z.nthen ?_
              refine Z.cond rfl (fun hc7 => ?_) (fun hc7 => ?_)
              · first
                  | (exfalso; simp at hc7 <;> omega)
                  | (
                    (try simp at hc7)
                    obtain ⟨d, hd⟩ : ∃ d : Nat, size - needP (ps.map MpV.plain) = (d : Int) := ⟨(size - needP (ps.map MpV.plain)).toNat, by omega⟩
                    rw [bld_few ⟨hok1, hok2⟩ hd (by omega), hd]
                    have hd2 : d ≤ 2 := by omega
                    refine Z.seq ?_
                    refine Z.region ?_
                    refine Z.lb 2 rfl ?_
                    refine Z.le rfl trivial ?_
                    refine Z.ZO.call rfl rfl (by rfl) rfl rfl Try.call39 rfl (mr_join A n c d (-1) ps _ (hx.st hs) hl hn hf (fun q hq ↦ (hB q hq).st hs) hok2.2 hd2 (by omega)) ?_
                    rintro v8_2 w8_2 hy
                    replace hs := hs.call hy
                    clear hy
                    try simp only [List.cons_append, List.nil_append, List.append_nil] at hs
                    refine Z.lb 2 rfl ?_
                    refine Z.lnil ?_
                    refine Z.only [4, 5] rfl ?_
                    refine Z.nthen ?_
                    refine Z.ret ?_
                    repeat (first | refine Z.rthen ?_ | refine Z.rblock ?_ | refine Z.rscope ?_)
                    -- ret#2
                    refine Z.out2 (by exact ⟨rfl, rfl, trivial⟩) ?_
                    exact ⟨_, rfl, _, rfl, hs⟩
                    )
              · first
                  | (exfalso; simp at hc7 <;> omega)
                  | (
                    (try simp at hc7)
                    rw [bld_pad ⟨hok1, hok2⟩ (by omega)]
                    have hjl := join_full (ps.map MpV.plain)
                    refine Z.skip ?_
                    refine Z.nblock ?_
                    refine Z.nthen ?_
                    refine Z.seq ?_
                    refine Z.region ?_
                    refine Z.lb 3 rfl ?_
                    refine Z.le rfl trivial ?_
                    refine Z.ZO.call rfl rfl (by rfl) rfl rfl Try.call39 rfl (mr_join A n c 0 0 ps _ (hx.st hs) hl hn hf (fun q hq ↦ (hB q hq).st hs) hok2.2 (by omega) (by omega)) ?_
                    rintro v9_3 w9_3 hy
                    replace hs := hs.call hy
                    clear hy
                    try simp only [List.cons_append, List.nil_append, List.append_nil] at hs
                    obtain ⟨Aj, cj, rfl, -, -, -⟩ := SX.row_slv hs (j := 0) rfl
                    refine Z.l rfl rfl (by rfl) (Z.keepS hs) (Z.Yd.lenS rfl Try.underlying26) ?_
                    refine Z.l rfl rfl (by rfl) (Z.keepS hs) (Z.Yd.sub rfl rfl (fun hG => Z.wi64 (by first | omega | (have hG' := Z.gh rfl hG; simp at hG'; omega)))) ?_
                    rw [hjl]
                    refine Z.le rfl trivial ?_
                    refine Z.ZO.call rfl rfl (by rfl) rfl rfl Try.call39 rfl (mr_join A n c 0 (size - (totP (ps.map MpV.plain) + 1)) ps _ (hx.st (hs.sub (List.nil_sublist _))) hl hn hf (fun q hq ↦ (hB q hq).st (hs.sub (List.nil_sublist _))) hok2.2 (by omega) (by omega)) ?_
                    rintro v9_6 w9_6 hy
                    replace hs := hs.call hy
                    clear hy
                    try simp only [List.cons_append, List.nil_append, List.append_nil] at hs
                    refine Z.lb 2 rfl ?_
                    refine Z.lnil ?_
                    refine Z.only [4, 5] rfl ?_
                    refine Z.nthen ?_
                    refine Z.ret ?_
                    -- ret#3
                    refine Z.out2 (by exact ⟨rfl, rfl, trivial⟩) ?_
                    exact ⟨_, rfl, _, rfl, hs.sub ((List.nil_sublist _).cons_cons _)⟩
                    )
              )
        )
end Go.Proofs.Ytogjkgoiofngaaa

/- MAC PDUs: errors, the writer of subheaders. -/
namespace Go.Proofs.Ytogjkgoiofngaaa
open Go.RowKit
set_option linter.unusedSimpArgs false
set_option linter.unusedVariables false
--newlaws

/-- the panic with error e -/
def mperr (e : Int) : List PanicEntry := Z.pe (.iface 27 (.int .i64 e))
def MPan (e : Int) (Φ : World → Prop) : Ending → World → Prop := Z.Pan fun c w' => c = mperr e ∧ Φ w'
theorem mm_must_ok (b : Bool) (e : Int) (w : World) (hb : b = true) : Calls Try.prog 31 #[.bool b, .int .i64 e] w (SX.Ret fun v w' => v = .tuple #[] ∧ SX.St w [] w' []) := by
  have hs := SX.St.start w
  subst hb
  refine Z.enter Try.func31 rfl Try.ntmps31 rfl rfl ?_
  refine Z.seq ?_
  refine Z.region ?_
  refine Z.lb 2 rfl ?_
  refine Z.lnil ?_
  refine Z.only [1, 5] rfl ?_
  refine Z.nthen ?_
  refine Z.cond rfl (fun h => absurd h (by simp)) (fun hc0 => ?_)
  refine Z.skip ?_
  -- ret#0
  refine Z.out0n trivial ?_
  first | exact ⟨_, rfl, rfl, hs⟩ | exact ⟨_, rfl, rfl, hs.sub (List.nil_sublist _)⟩
theorem mm_must_bad (b : Bool) (e : Int) (w : World) (hb : b = false) : Calls Try.prog 31 #[.bool b, .int .i64 e] w (MPan e fun w' => SX.St w [] w' []) := by
  have hs := SX.St.start w
  subst hb
  refine Z.enter Try.func31 rfl Try.ntmps31 rfl rfl ?_
  refine Z.seq ?_
  refine Z.region ?_
  refine Z.lb 2 rfl ?_
  refine Z.lnil ?_
  refine Z.only [1, 5] rfl ?_
  refine Z.nthen ?_
  refine Z.cond rfl (fun hc0 => ?_) (fun h => absurd h (by simp))
  refine Z.region ?_
  refine Z.lb 1 rfl ?_
  refine Z.l rfl rfl (by rfl) (Z.keepS hs) (Z.Yd.iface rfl (by intro w; go_simp; try rfl)) ?_
  refine Z.le rfl trivial ?_
  refine Z.ZO.panic rfl rfl ?_
  -- ret#0
  refine Z.outp ?_
  exact ⟨_, rfl, rfl, hs⟩
theorem mm_goti_ok (x : Int) (w : World) : Calls Try.prog 32 #[.int .i64 x, .int .i64 0] w (SX.Ret fun v w' => v = .int .i64 x ∧ SX.St w [] w' []) := by
  have hs := SX.St.start w
  refine Z.enter Try.func32 rfl Try.ntmps32 rfl rfl ?_
  refine Z.seq ?_
  refine Z.region ?_
  refine Z.lb 1 rfl ?_
  refine Z.lnil ?_
  refine Z.only [0, 1] rfl ?_
  refine Z.nthen ?_
  refine Z.seq ?_
  refine Z.region ?_
  refine Z.lb 3 rfl ?_
  refine Z.le rfl trivial ?_
  refine Z.ZO.call rfl rfl (by rfl) rfl rfl Try.call31 rfl (mm_must_ok _ 0 _ (by simp)) ?_
  rintro v1_3 w1_3 ⟨rfl, hy⟩
  replace hs := hs.call hy
  clear hy
  try simp only [List.cons_append, List.nil_append, List.append_nil] at hs
  refine Z.lnil ?_
  refine Z.only [0] rfl ?_
  refine Z.nthen ?_
  refine Z.seq ?_
  refine Z.region ?_
  refine Z.lb 2 rfl ?_
  refine Z.lnil ?_
  refine Z.only [4] rfl ?_
  refine Z.nthen ?_
  refine Z.ret ?_
  -- ret#0
  refine Z.out1 (by exact ⟨rfl, trivial⟩) ?_
  first | exact ⟨_, rfl, rfl, hs⟩ | exact ⟨_, rfl, rfl, hs.sub (List.nil_sublist _)⟩
theorem mm_goti_bad (x e : Int) (w : World) (he : e ≠ 0) : Calls Try.prog 32 #[.int .i64 x, .int .i64 e] w (MPan e fun w' => SX.St w [] w' []) := by
  have hs := SX.St.start w
  refine Z.enter Try.func32 rfl Try.ntmps32 rfl rfl ?_
  refine Z.seq ?_
  refine Z.region ?_
  refine Z.lb 1 rfl ?_
  refine Z.lnil ?_
  refine Z.only [0, 1] rfl ?_
  refine Z.nthen ?_
  refine Z.seq ?_
  refine Z.region ?_
  refine Z.lb 3 rfl ?_
  refine Z.le rfl trivial ?_
  refine Z.ZO.callP rfl rfl rfl Try.call31 rfl (mm_must_bad _ e _ (by simpa using he)) ?_
  rintro c1_3 w1_3 ⟨rfl, hy⟩
  replace hs := hs.call hy
  clear hy
  try simp only [List.cons_append, List.nil_append, List.append_nil] at hs
  repeat (first | refine Z.pthen ?_ | refine Z.pblock ?_ | refine Z.pscope ?_)
  -- ret#0
  refine Z.outp ?_
  exact ⟨_, rfl, rfl, hs⟩
theorem mm_caught_pan (ge Te k : Nat) (cap : Array Value) (x : Value) (e : Int) (L L' : List SX.Ent) (w : World) (hs : SX.St w (SX.idsOf (SX.Ent.blk ge Te #[x] :: L)) w (SX.Ent.blk ge Te #[x] :: L)) (hk : ∀ args w, (callFunc k args).run Try.prog w = .ok (.enter k args) w)
    (hcl : ∀ W, SX.St W (SX.idsOf L) W L → Calls Try.prog k cap W (SX.Ret fun v w' => v = .tuple #[] ∧ SX.St W (SX.idsOf L) w' L')) :
    CallsDm Try.prog 29 #[.pointer (some ⟨ge, 0, none⟩), .func (.func k) #[] cap] (.panicking (mperr e)) (.panicking [{ v := .iface 27 (.int .i64 e), recovered := true }]) w
      (fun v w' => v = .tuple #[] ∧ SX.St w (SX.idsOf (SX.Ent.blk ge Te #[x] :: L)) w' (SX.Ent.blk ge Te #[.int .i64 e] :: L')) := by
  generalize hM : SX.idsOf (SX.Ent.blk ge Te #[x] :: L) = M at *
  refine Z.enterRec (Z.rec_pan _) Try.func29 rfl Try.ntmps29 rfl rfl rfl rfl rfl rfl rfl rfl rfl rfl ?_
  refine Z.seq ?_
  refine Z.region ?_
  refine Z.lb 1 rfl ?_
  refine Z.l rfl rfl (by rfl) (Z.keepS hs) (Z.Yd.bin rfl rfl (by intro _ w; go_simp; try rfl)) ?_
  refine Z.lnil ?_
  refine Z.only [0, 1, 4, 9] rfl ?_
  refine Z.nthen ?_
  refine Z.cond rfl (fun hc1 => ?_) (fun h => absurd h (by simp))
  refine Z.seq ?_
  refine Z.region ?_
  refine Z.lb 1 rfl ?_
  refine Z.l rfl rfl (by rfl) (Z.keepS hs) (Z.Yd.assertYes rfl (by intro v w; kernel_rfl)) ?_
  refine Z.lb 5 rfl ?_
  refine Z.lnil ?_
  refine Z.only [0, 1, 4, 5, 6] rfl ?_
  refine Z.nthen ?_
  refine Z.seq ?_
  refine Z.seq ?_
  refine Z.region ?_
  refine Z.lb 2 rfl ?_
  refine Z.lnil ?_
  refine Z.only [0, 1, 4, 5, 16] rfl ?_
  refine Z.nthen ?_
  refine Z.cond rfl (fun h => absurd h (by simp)) (fun hc3 => ?_)
  refine Z.skip ?_
  refine Z.nthen ?_
  refine Z.seq ?_
  refine Z.region ?_
  refine Z.lb 1 rfl ?_
  refine Z.le rfl trivial ?_
  refine Z.ZO.call rfl rfl (by rfl) rfl rfl hk (by simp) (hcl _ (SX.St.lend (L1 := L) (L2 := [SX.Ent.blk ge Te #[x]]) (hs.rot (L1 := [_])))) ?_
  rintro v5 w5 ⟨rfl, hz⟩
  replace hs := SX.St.rot (L2 := [SX.Ent.blk ge Te #[x]]) ((SX.St.regain (L1 := L) (L2 := [SX.Ent.blk ge Te #[x]]) (hs.rot (L1 := [_]))) hz)
  refine Z.lnil ?_
  refine Z.only [0, 5] rfl ?_
  refine Z.nthen ?_
  refine Z.region ?_
  refine Z.lb 2 rfl ?_
  refine Z.l rfl rfl (by rfl) (Z.keepS hs) (Z.Yd.nilc rfl rfl) ?_
  refine Z.le rfl trivial ?_
  first | refine Z.ZO.store rfl rfl hs Try.sizeOf27 rfl rfl rfl (by first | exact SX.at0 | exact SX.at1 | exact SX.at2 | exact SX.at3 | exact SX.at4 | exact SX.at5 | exact Z.at6 | exact Z.at7 | exact Z.at8 | exact Z.at9 | exact Z.at10 | exact Z.at11 | exact Z.at12) (by first | (simp; done) | (simp; omega)) ?_ | refine Z.ZO.storeR rfl rfl hs Try.sizeOf27 rfl rfl rfl (by first | exact SX.at0 | exact SX.at1 | exact SX.at2 | exact SX.at3 | exact SX.at4 | exact SX.at5 | exact Z.at6 | exact Z.at7 | exact Z.at8 | exact Z.at9 | exact Z.at10 | exact Z.at11 | exact Z.at12) (by first | omega | (simp [ints_length]; done) | (simp [ints_length]; omega)) ?_
  clear hs; intro ws hs
  simp only [Nat.zero_add, Nat.add_zero, Nat.reduceAdd, Int.reduceToNat, Nat.reduceMul, List.set_cons_zero, List.set_cons_succ, List.setIfInBounds_toArray] at hs
  refine Z.lnil ?_
  refine Z.only [] rfl ?_
  -- ret#0
  refine Z.out0n trivial ?_
  first | exact ⟨_, rfl, rfl, hs⟩ | exact ⟨_, rfl, rfl, hs.sub (List.nil_sublist _)⟩
theorem mm_caught_ret (ge k : Nat) (cap : Array Value) (w : World) :
    CallsDm Try.prog 29 #[.pointer (some ⟨ge, 0, none⟩), .func (.func k) #[] cap] .returning .returning w (fun v w' => v = .tuple #[] ∧ SX.St w [] w' []) := by
  have hs := SX.St.start w
  refine Z.enterRec (Z.rec_ret) Try.func29 rfl Try.ntmps29 rfl rfl rfl rfl rfl rfl rfl rfl rfl rfl ?_
  refine Z.seq ?_
  refine Z.region ?_
  refine Z.lb 1 rfl ?_
  refine Z.l rfl rfl (by rfl) (Z.keepS hs) (Z.Yd.bin rfl rfl (by intro _ w; go_simp; try rfl)) ?_
  refine Z.lnil ?_
  refine Z.only [0, 1, 4, 9] rfl ?_
  refine Z.nthen ?_
  refine Z.cond rfl (fun h => absurd h (by simp)) (fun hc1 => ?_)
  refine Z.skip ?_
  -- ret#0
  refine Z.out0n trivial ?_
  first | exact ⟨_, rfl, rfl, hs⟩ | exact ⟨_, rfl, rfl, hs.sub (List.nil_sublist _)⟩
theorem mm_clearB (gp T : Nat) (a : Value) (W : World) (hs : SX.St W (SX.idsOf [SX.Ent.blk gp T #[a]]) W [SX.Ent.blk gp T #[a]]) :
    Calls Try.prog 30 #[.pointer (some ⟨gp, 0, none⟩)] W (SX.Ret fun v w' => v = .tuple #[] ∧ SX.St W (SX.idsOf [SX.Ent.blk gp T #[a]]) w' [SX.Ent.blk gp T #[.slice none 0 0]]) := by
  generalize SX.idsOf [SX.Ent.blk gp T #[a]] = M at *
  refine Z.enter Try.func30 rfl Try.ntmps30 rfl rfl ?_
  refine Z.region ?_
  refine Z.le rfl trivial ?_
  first | refine Z.ZO.store rfl rfl hs Try.sizeOf26 rfl rfl rfl (by first | exact SX.at0 | exact SX.at1 | exact SX.at2 | exact SX.at3 | exact SX.at4 | exact SX.at5 | exact Z.at6 | exact Z.at7 | exact Z.at8 | exact Z.at9 | exact Z.at10 | exact Z.at11 | exact Z.at12) (by first | (simp; done) | (simp; omega)) ?_ | refine Z.ZO.storeR rfl rfl hs Try.sizeOf26 rfl rfl rfl (by first | exact SX.at0 | exact SX.at1 | exact SX.at2 | exact SX.at3 | exact SX.at4 | exact SX.at5 | exact Z.at6 | exact Z.at7 | exact Z.at8 | exact Z.at9 | exact Z.at10 | exact Z.at11 | exact Z.at12) (by first | omega | (simp [ints_length]; done) | (simp [ints_length]; omega)) ?_
  clear hs; intro ws hs
  simp only [Nat.zero_add, Nat.add_zero, Nat.reduceAdd, Int.reduceToNat, Nat.reduceMul, List.set_cons_zero, List.set_cons_succ, List.setIfInBounds_toArray] at hs
  refine Z.lnil ?_
  refine Z.only [] rfl ?_
  -- ret#0
  refine Z.out0n trivial ?_
  first | exact ⟨_, rfl, rfl, hs⟩ | exact ⟨_, rfl, rfl, hs.sub (List.nil_sublist _)⟩
/-- the fields of a subheader -/
def hdP (x : Nat) (b : Bool) : List (Int × Int) := [(0, 2), (if b then 1 else 0, 1), ((x : Int), 5)]
set_option maxRecDepth 100000 in
theorem hdP_ok : ∀ (x : Fin 32) (b : Bool), (∀ f ∈ hdP x.val b, GoodF f) ∧ chkA (hdP x.val b) = 0 ∧ (hdP x.val b).flatMap fldF = unb [(x.val : Int) + if b then 32 else 0] := by
  intro x b
  have hg : ∀ f ∈ hdP x.val b, GoodF f := by
    intro f hf
    have := x.isLt
    simp only [hdP, List.mem_cons, List.mem_nil_iff, or_false] at hf
    unfold GoodF
    rcases hf with rfl | rfl | rfl
    · decide
    · cases b <;> decide
    · simp only; omega
  refine ⟨hg, ?_, ?_⟩
  · clear hg; revert x; cases b <;> decide
  · clear hg; revert x; cases b <;> decide
theorem unb_app (a b : List Int) : unb (a ++ b) = unb a ++ unb b := by simp [unb]
set_option maxRecDepth 100000 in
theorem mm_head (g T : Nat) (sv : Value) (acc : List Int) (x : Nat) (b : Bool) (w : World) (hs : SX.St w (SX.idsOf (WrL g T sv (unb acc))) w (WrL g T sv (unb acc))) (hx : x < 32) (ha : acc.length ≤ 100000) :
    Calls Try.prog 33 #[.int .i64 (x : Int), .bool b, .pointer (some ⟨g, 0, none⟩)] w (SX.Ret fun v w' => ∃ sv', v = .tuple #[] ∧ SX.St w (SX.idsOf (WrL g T sv (unb acc))) w' (WrL g T sv' (unb (acc ++ [(x : Int) + if b then 32 else 0])))) := by
  generalize hM : SX.idsOf (WrL g T sv (unb acc)) = M at *
  obtain ⟨h1, h2, h3⟩ := hdP_ok ⟨x, hx⟩ b
  simp only at h1 h2 h3
  have hul := unb_length acc
  have er : resA (unb acc) (hdP x b) = unb (acc ++ [(x : Int) + if b then 32 else 0]) := by
    unfold resA
    rw [if_pos h2, h3, unb_app]
  refine Z.enter Try.func33 rfl Try.ntmps33 rfl rfl ?_
  refine Z.seq ?_
  refine Z.region ?_
  refine Z.lb 1 rfl ?_
  refine Z.lnil ?_
  refine Z.only [0, 1, 2, 5] rfl ?_
  refine Z.nthen ?_
  refine Z.seq ?_
  refine Z.seq ?_
  refine Z.region ?_
  refine Z.lb 1 rfl ?_
  refine Z.lnil ?_
  refine Z.only [0, 2, 5, 6] rfl ?_
  refine Z.nthen ?_
  refine Z.cond rfl (fun hc1 => ?_) (fun hc1 => ?_)
  · first
      | (exfalso; simp at hc1 <;> omega)
      | (
        (try simp at hc1)
        subst hc1
        refine Z.region ?_
        refine Z.lb 1 rfl ?_
        refine Z.lnil ?_
        refine Z.only [0, 2, 5] rfl ?_
        refine Z.nthen ?_
        refine Z.region ?_
        refine Z.l rfl rfl (by rfl) (Z.keepS hs) (Z.Yd.buildL [(0, 1), (1, 1)] [.int .u64 0, .int .i64 0] rfl rfl (by intro w; kernel_rfl)) ?_
        refine Z.lb 1 rfl ?_
        refine Z.l rfl rfl (by rfl) (Z.keepS hs) (Z.Yd.buildL [(0, 1), (1, 1)] [.int .u64 0, .int .i64 0] rfl rfl (by intro w; kernel_rfl)) ?_
        refine Z.lb 1 rfl ?_
        refine Z.l rfl rfl (by rfl) (Z.keepS hs) (Z.Yd.convI rfl ⟨_, Try.underlying3⟩ Try.underlying68 (fun hG => Z.wu64 (by first | omega | (have hG' := Z.gh rfl hG; simp at hG'; omega)))) ?_
        refine Z.l rfl rfl (by rfl) (Z.keepS hs) (Z.Yd.buildL [(0, 1), (1, 1)] [.int .u64 0, .int .i64 0] rfl rfl (by intro w; kernel_rfl)) ?_
        refine Z.le rfl trivial ?_
        refine Z.ZO.litL (T' := 71) [(0, 2), (2, 2), (4, 2)] [.int .u64 0, .int .i64 0, .int .u64 0, .int .i64 0, .int .u64 0, .int .i64 0] rfl rfl (by rfl) rfl rfl (by intro W; kernel_rfl) hs ?_
        clear hs; intro g13 w13 hs
        replace hs := hs.rot (L1 := [_])
        change SX.St _ _ _ (WrL g T sv _ ++ [_]) at hs
        refine Z.le rfl trivial ?_
        refine Z.ZO.call rfl rfl (by rfl) rfl rfl Try.call34 rfl (putAll_any g T sv (unb acc) _ 3 3 (hdP x _) _ hs.lend (Z.blk_lent hs) rfl (by omega) (by omega) h1) ?_
        rintro v3_7 w3_7 ⟨sv2, rfl, hz⟩
        replace hs := hs.regain hz
        refine Z.lnil ?_
        refine Z.only [] rfl ?_
        -- ret#0
        refine Z.out0n trivial ?_
        rw [er] at hs
        exact ⟨_, rfl, sv2, rfl, hs.sub (List.sublist_append_left _ _)⟩
        )
  · first
      | (exfalso; simp at hc1 <;> omega)
      | (
        (try simp at hc1)
        subst hc1
        refine Z.skip ?_
        refine Z.nthen ?_
        refine Z.region ?_
        refine Z.l rfl rfl (by rfl) (Z.keepS hs) (Z.Yd.buildL [(0, 1), (1, 1)] [.int .u64 0, .int .i64 0] rfl rfl (by intro w; kernel_rfl)) ?_
        refine Z.lb 1 rfl ?_
        refine Z.l rfl rfl (by rfl) (Z.keepS hs) (Z.Yd.buildL [(0, 1), (1, 1)] [.int .u64 0, .int .i64 0] rfl rfl (by intro w; kernel_rfl)) ?_
        refine Z.lb 1 rfl ?_
        refine Z.l rfl rfl (by rfl) (Z.keepS hs) (Z.Yd.convI rfl ⟨_, Try.underlying3⟩ Try.underlying68 (fun hG => Z.wu64 (by first | omega | (have hG' := Z.gh rfl hG; simp at hG'; omega)))) ?_
        refine Z.l rfl rfl (by rfl) (Z.keepS hs) (Z.Yd.buildL [(0, 1), (1, 1)] [.int .u64 0, .int .i64 0] rfl rfl (by intro w; kernel_rfl)) ?_
        refine Z.le rfl trivial ?_
        refine Z.ZO.litL (T' := 71) [(0, 2), (2, 2), (4, 2)] [.int .u64 0, .int .i64 0, .int .u64 0, .int .i64 0, .int .u64 0, .int .i64 0] rfl rfl (by rfl) rfl rfl (by intro W; kernel_rfl) hs ?_
        clear hs; intro g13 w13 hs
        replace hs := hs.rot (L1 := [_])
        change SX.St _ _ _ (WrL g T sv _ ++ [_]) at hs
        refine Z.le rfl trivial ?_
        refine Z.ZO.call rfl rfl (by rfl) rfl rfl Try.call34 rfl (putAll_any g T sv (unb acc) _ 3 3 (hdP x _) _ hs.lend (Z.blk_lent hs) rfl (by omega) (by omega) h1) ?_
        rintro v3_7 w3_7 ⟨sv2, rfl, hz⟩
        replace hs := hs.regain hz
        refine Z.lnil ?_
        refine Z.only [] rfl ?_
        -- ret#1
        refine Z.out0n trivial ?_
        rw [er] at hs
        exact ⟨_, rfl, sv2, rfl, hs.sub (List.sublist_append_left _ _)⟩
        )
end Go.Proofs.Ytogjkgoiofngaaa

/- Bits read from whole bytes. -/
namespace Go.Proofs.Ytogjkgoiofngaaa
open Go.RowKit
set_option linter.unusedSimpArgs false
set_option linter.unusedVariables false
--newlaws

theorem unb_dropN {l : List Int} {p : Nat} (hp : p ≤ l.length) : (unb l).drop (8 * p) = unb (l.drop p) := by
  have e : unb l = unb (l.take p) ++ unb (l.drop p) := by rw [← unb_app, List.take_append_drop]
  rw [e, List.drop_left' (by rw [unb_length, List.length_take]; omega)]
theorem unb_cons (x : Int) (l : List Int) : unb (x :: l) = fld x.toNat 8 ++ unb l := rfl
theorem drop_elt {l : List Int} {p : Nat} (hp : p < l.length) : l.drop p = elt l (p : Int) :: l.drop (p + 1) := by
  rw [List.drop_eq_getElem_cons hp, elt_gt hp]
theorem bits_in {l : List Int} {p i n : Nat} (hp : p < l.length) (h : i + n ≤ 8) : bitsAt l (8 * p + i) n = ((fld (elt l (p : Int)).toNat 8).drop i).take n := by
  unfold bitsAt
  rw [← List.drop_drop, unb_dropN (by omega), drop_elt hp, unb_cons, List.drop_append_of_le_length (by rw [fld_length]; omega), List.take_append_of_le_length (by rw [List.length_drop, fld_length]; omega)]
theorem fbits : ∀ x : Fin 256, val (((fld x.val 8).drop 0).take 2) = x.val / 64 ∧ val (((fld x.val 8).drop 2).take 1) = x.val / 32 % 2 ∧ val (((fld x.val 8).drop 3).take 5) = x.val % 32 ∧ val (((fld x.val 8).drop 0).take 1) = x.val / 128 ∧ val (((fld x.val 8).drop 1).take 7) = x.val % 128 ∧ val (((fld x.val 8).drop 0).take 8) = x.val := by
  set_option maxRecDepth 100000 in decide
theorem getV_in {l : List Int} {a n : Nat} (h : a + n ≤ 8 * l.length) (h2 : n ≤ 64) : getV l a (n : Int) = (val (bitsAt l a n) : Int) ∧ getE l a (n : Int) = 0 ∧ getA l a (n : Int) = a + n := by
  have h1 := getE_ok h h2
  refine ⟨?_, h1, ?_⟩
  · unfold getV; rw [if_pos h1]; rfl
  · unfold getA; rw [if_pos h1]; rfl
theorem get_bad {l : List Int} {a n : Nat} (h : ¬ a + n ≤ 8 * l.length) (h2 : n ≤ 64) : getE l a (n : Int) = 5 := by
  unfold getE
  rw [if_neg (by omega), if_pos (by omega)]
/-- the byte p -/
def byB (l : List Int) (p : Nat) : Int := elt l (p : Int)
theorem byB_bd {l : List Int} (hb : ∀ x ∈ l, 0 ≤ x ∧ x < 256) {p : Nat} (hp : p < l.length) : 0 ≤ byB l p ∧ byB l p < 256 := by
  unfold byB
  rw [elt_gt hp]
  exact hb _ (List.getElem_mem hp)
theorem head_get {l : List Int} (hb : ∀ x ∈ l, 0 ≤ x ∧ x < 256) {p : Nat} (hp : p < l.length) :
    getV l (8 * p) 2 = byB l p / 64 ∧ getV l (8 * p + 2) 1 = byB l p / 32 % 2 ∧ getV l (8 * p + 3) 5 = byB l p % 32 ∧ getV l (8 * p) 1 = byB l p / 128 ∧ getV l (8 * p + 1) 7 = byB l p % 128 ∧ getV l (8 * p) 8 = byB l p := by
  have h0 := byB_bd hb hp
  obtain ⟨x, hx⟩ := Int.eq_ofNat_of_zero_le h0.1
  have hx' : elt l (p : Int) = (x : Int) := hx
  obtain ⟨f1, f2, f3, f4, f5, f6⟩ := fbits ⟨x, by omega⟩
  simp only at f1 f2 f3 f4 f5 f6
  have g : ∀ i n : Nat, i + n ≤ 8 → getV l (8 * p + i) (n : Int) = (val (((fld x 8).drop i).take n) : Int) := fun i n h => by
    rw [(getV_in (l := l) (a := 8 * p + i) (n := n) (by omega) (by omega)).1, bits_in hp h, hx', Int.toNat_natCast]
  rw [hx]
  refine ⟨?_, ?_, ?_, ?_, ?_, ?_⟩
  · have := g 0 2 (by omega); rw [f1] at this; simpa using this
  · have := g 2 1 (by omega); rw [f2] at this; simpa using this
  · have := g 3 5 (by omega); rw [f3] at this; simpa using this
  · have := g 0 1 (by omega); rw [f4] at this; simpa using this
  · have := g 1 7 (by omega); rw [f5] at this; simpa using this
  · have := g 0 8 (by omega); rw [f6] at this; simpa using this
theorem long_get {l : List Int} (hb : ∀ x ∈ l, 0 ≤ x ∧ x < 256) {p : Nat} (hp : p + 1 < l.length) : getV l (8 * p + 1) 15 = byB l p % 128 * 256 + byB l (p + 1) := by
  have h0 := byB_bd hb (show p < l.length by omega)
  have h1 := byB_bd hb hp
  obtain ⟨x, hx⟩ := Int.eq_ofNat_of_zero_le h0.1
  obtain ⟨y, hy⟩ := Int.eq_ofNat_of_zero_le h1.1
  have hx' : elt l (p : Int) = (x : Int) := hx
  have hy' : elt l ((p + 1 : Nat) : Int) = (y : Int) := hy
  have e : bitsAt l (8 * p + 1) 15 = fld (x % 128 * 256 + y) 15 := by
    unfold bitsAt
    rw [← List.drop_drop, unb_dropN (by omega), drop_elt (show p < l.length by omega), unb_cons, drop_elt hp, unb_cons, hx', hy', Int.toNat_natCast, Int.toNat_natCast]
    have e1 : fld x 8 = x.testBit 7 :: fld x 7 := rfl
    rw [e1, List.cons_append, List.drop_succ_cons, List.drop_zero, ← List.append_assoc, List.take_append_of_le_length (by rw [List.length_append, fld_length, fld_length]; omega), List.take_of_length_le (by rw [List.length_append, fld_length, fld_length]; omega)]
    have h3 : fld (x % 128 * 256 + y) (7 + 8) = fld ((x % 128 * 256 + y) / 2 ^ 8) 7 ++ fld (x % 128 * 256 + y) 8 := fld_app _ _ _
    have h4 : (x % 128 * 256 + y) / 2 ^ 8 = x % 2 ^ 7 := by omega
    have h5 : fld (x % 128 * 256 + y) 8 = fld y 8 := by rw [← fld_mod (x % 128 * 256 + y) 8 8 (by omega)]; congr 1; omega
    rw [h4, h5, fld_mod x 7 7 (by omega)] at h3
    exact h3.symm
  have := (getV_in (l := l) (a := 8 * p + 1) (n := 15) (by omega) (by omega)).1
  rw [e, val_fld] at this
  rw [hx, hy]
  have h6 : (x % 128 * 256 + y) % 2 ^ 15 = x % 128 * 256 + y := by omega
  rw [h6] at this
  exact this.trans (by omega)
theorem gsV_byt {l : List Int} (hb : ∀ x ∈ l, 0 ≤ x ∧ x < 256) : ∀ (k p : Nat), p + k ≤ l.length → gsV l (8 * p) (List.replicate k (8 : Int)) = (l.drop p).take k
  | 0, p, _ => by simp [gsV]
  | k + 1, p, h => by
    have h1 := head_get hb (show p < l.length by omega)
    have h2 := (getV_in (l := l) (a := 8 * p) (n := 8) (by omega) (by omega)).2.2
    rw [List.replicate_succ, drop_elt (show p < l.length by omega), List.take_succ_cons, ← gsV_byt hb k (p + 1) (by omega)]
    show getV l (8 * p) 8 :: gsV l (getA l (8 * p) 8) (List.replicate k 8) = _
    rw [h1.2.2.2.2.2]
    have h3 : getA l (8 * p) (8 : Int) = 8 * p + 8 := h2
    rw [h3]
    rfl
theorem gb_ok {l : List Int} (hb : ∀ x ∈ l, 0 ≤ x ∧ x < 256) {p k : Nat} (h : p + k ≤ l.length) : gbE l (8 * p) (k : Int) = 0 ∧ gbV l (8 * p) (k : Int) = (l.drop p).take k ∧ gbA l (8 * p) (k : Int) = 8 * (p + k) := by
  have h1 : gbE l (8 * p) (k : Int) = 0 := by unfold gbE; rw [if_neg (by omega), if_neg (by omega)]
  refine ⟨h1, ?_, ?_⟩
  · unfold gbV; rw [if_pos h1, Int.toNat_natCast]; exact gsV_byt hb k p h
  · unfold gbA; rw [if_pos h1, Int.toNat_natCast]; omega
theorem gb_bad {l : List Int} {p k : Nat} (hp : p ≤ l.length) (h : ¬ p + k ≤ l.length) : gbE l (8 * p) (k : Int) = 5 := by
  unfold gbE
  rw [if_neg (by omega), if_pos (by omega)]
end Go.Proofs.Ytogjkgoiofngaaa

/- MAC PDUs: the reader's bits and length. -/
namespace Go.Proofs.Ytogjkgoiofngaaa
open Go.RowKit
set_option linter.unusedSimpArgs false
set_option linter.unusedVariables false
--newlaws

theorem mm_must_any (b : Bool) (e : Int) (w : World) : Calls Try.prog 31 #[.bool b, .int .i64 e] w (Z.Bo (fun v w' => b = true ∧ v = .tuple #[] ∧ SX.St w [] w' []) fun c w' => b = false ∧ c = mperr e ∧ SX.St w [] w' []) := by
  cases b with
  | true => exact Z.Bo.ret ((mm_must_ok true e w rfl).mono fun e w' ⟨v, h1, h2⟩ => ⟨v, h1, rfl, h2⟩)
  | false => exact Z.Bo.pan ((mm_must_bad false e w rfl).mono fun e w' ⟨v, h1, h2⟩ => ⟨v, h1, rfl, h2⟩)
theorem mm_gotu_ok (x : Int) (w : World) : Calls Try.prog 62 #[.int .u64 x, .int .i64 0] w (SX.Ret fun v w' => v = .int .u64 x ∧ SX.St w [] w' []) := by
  have hs := SX.St.start w
  refine Z.enter Try.func62 rfl Try.ntmps62 rfl rfl ?_
  refine Z.seq ?_
  refine Z.region ?_
  refine Z.lb 1 rfl ?_
  refine Z.lnil ?_
  refine Z.only [0, 1] rfl ?_
  refine Z.nthen ?_
  refine Z.seq ?_
  refine Z.region ?_
  refine Z.lb 3 rfl ?_
  refine Z.le rfl trivial ?_
  refine Z.ZO.call rfl rfl (by rfl) rfl rfl Try.call31 rfl (mm_must_ok _ 0 _ (by simp)) ?_
  rintro v1_3 w1_3 ⟨rfl, hy⟩
  replace hs := hs.call hy
  clear hy
  try simp only [List.cons_append, List.nil_append, List.append_nil] at hs
  refine Z.lnil ?_
  refine Z.only [0] rfl ?_
  refine Z.nthen ?_
  refine Z.seq ?_
  refine Z.region ?_
  refine Z.lb 2 rfl ?_
  refine Z.lnil ?_
  refine Z.only [4] rfl ?_
  refine Z.nthen ?_
  refine Z.ret ?_
  -- ret#0
  refine Z.out1 (by exact ⟨rfl, trivial⟩) ?_
  first | exact ⟨_, rfl, rfl, hs⟩ | exact ⟨_, rfl, rfl, hs.sub (List.nil_sublist _)⟩
theorem mm_gotu_bad (x e : Int) (w : World) (he : e ≠ 0) : Calls Try.prog 62 #[.int .u64 x, .int .i64 e] w (MPan e fun w' => SX.St w [] w' []) := by
  have hs := SX.St.start w
  refine Z.enter Try.func62 rfl Try.ntmps62 rfl rfl ?_
  refine Z.seq ?_
  refine Z.region ?_
  refine Z.lb 1 rfl ?_
  refine Z.lnil ?_
  refine Z.only [0, 1] rfl ?_
  refine Z.nthen ?_
  refine Z.seq ?_
  refine Z.region ?_
  refine Z.lb 3 rfl ?_
  refine Z.le rfl trivial ?_
  refine Z.ZO.callP rfl rfl rfl Try.call31 rfl (mm_must_bad _ e _ (by simpa using he)) ?_
  rintro c1_3 w1_3 ⟨rfl, hy⟩
  replace hs := hs.call hy
  clear hy
  try simp only [List.cons_append, List.nil_append, List.append_nil] at hs
  repeat (first | refine Z.pthen ?_ | refine Z.pblock ?_ | refine Z.pscope ?_)
  -- ret#0
  refine Z.outp ?_
  exact ⟨_, rfl, rfl, hs⟩
theorem mm_gotb_ok (x : Value) (w : World) : Calls Try.prog 58 #[x, .int .i64 0] w (SX.Ret fun v w' => v = x ∧ SX.St w [] w' []) := by
  have hs := SX.St.start w
  refine Z.enter Try.func58 rfl Try.ntmps58 rfl rfl ?_
  refine Z.seq ?_
  refine Z.region ?_
  refine Z.lb 1 rfl ?_
  refine Z.lnil ?_
  refine Z.only [0, 1] rfl ?_
  refine Z.nthen ?_
  refine Z.seq ?_
  refine Z.region ?_
  refine Z.lb 3 rfl ?_
  refine Z.le rfl trivial ?_
  refine Z.ZO.call rfl rfl (by rfl) rfl rfl Try.call31 rfl (mm_must_ok _ 0 _ (by simp)) ?_
  rintro v1_3 w1_3 ⟨rfl, hy⟩
  replace hs := hs.call hy
  clear hy
  try simp only [List.cons_append, List.nil_append, List.append_nil] at hs
  refine Z.lnil ?_
  refine Z.only [0] rfl ?_
  refine Z.nthen ?_
  refine Z.seq ?_
  refine Z.region ?_
  refine Z.lb 2 rfl ?_
  refine Z.lnil ?_
  refine Z.only [4] rfl ?_
  refine Z.nthen ?_
  refine Z.ret ?_
  -- ret#0
  refine Z.out1 (by exact ⟨rfl, trivial⟩) ?_
  first | exact ⟨_, rfl, rfl, hs⟩ | exact ⟨_, rfl, rfl, hs.sub (List.nil_sublist _)⟩
theorem mm_gotb_bad (x : Value) (e : Int) (w : World) (he : e ≠ 0) : Calls Try.prog 58 #[x, .int .i64 e] w (MPan e fun w' => SX.St w [] w' []) := by
  have hs := SX.St.start w
  refine Z.enter Try.func58 rfl Try.ntmps58 rfl rfl ?_
  refine Z.seq ?_
  refine Z.region ?_
  refine Z.lb 1 rfl ?_
  refine Z.lnil ?_
  refine Z.only [0, 1] rfl ?_
  refine Z.nthen ?_
  refine Z.seq ?_
  refine Z.region ?_
  refine Z.lb 3 rfl ?_
  refine Z.le rfl trivial ?_
  refine Z.ZO.callP rfl rfl rfl Try.call31 rfl (mm_must_bad _ e _ (by simpa using he)) ?_
  rintro c1_3 w1_3 ⟨rfl, hy⟩
  replace hs := hs.call hy
  clear hy
  try simp only [List.cons_append, List.nil_append, List.append_nil] at hs
  repeat (first | refine Z.pthen ?_ | refine Z.pblock ?_ | refine Z.pscope ?_)
  -- ret#0
  refine Z.outp ?_
  exact ⟨_, rfl, rfl, hs⟩
set_option maxRecDepth 100000 in
theorem mm_bits_ok (g T : Nat) (sv : Value) (l : List Int) (a n : Nat) (w : World) (hs : SX.St w (SX.idsOf (RdL g T sv l a)) w (RdL g T sv l a)) (hl : l.length ≤ 1000000) (hb : ∀ x ∈ l, 0 ≤ x ∧ x < 256) (h : a + n ≤ 8 * l.length) (hn : n ≤ 32) :
    Calls Try.prog 55 #[.agg #[.pointer (some ⟨g, 0, none⟩)], .int .i64 (n : Int)] w (SX.Ret fun v w' => v = .int .i64 (getV l a n) ∧ SX.St w (SX.idsOf (RdL g T sv l a)) w' (RdL g T sv l (a + n))) := by
  generalize hM : SX.idsOf (RdL g T sv l a) = M at *
  obtain ⟨h1, h2, h3⟩ := getV_in (l := l) (a := a) (n := n) h (by omega)
  have h4 : (bitsAt l a n).length ≤ 63 := by unfold bitsAt; rw [List.length_take]; omega
  have h5 := val_bd63 h4
  obtain ⟨V, hV⟩ : ∃ V : Int, getV l a (n : Int) = V := ⟨_, rfl⟩
  rw [hV] at h1 ⊢
  have h6 : 0 ≤ V ∧ V < 9223372036854775808 := by omega
  refine Z.enter Try.func55 rfl Try.ntmps55 rfl rfl ?_
  refine Z.seq ?_
  refine Z.region ?_
  refine Z.le rfl trivial ?_
  refine Z.ZO.box rfl rfl (by rfl) rfl rfl hs ?_
  clear hs; intro g2 w2 hs
  refine Z.lb 1 rfl ?_
  refine Z.lnil ?_
  refine Z.only [1, 2] rfl ?_
  refine Z.nthen ?_
  refine Z.seq ?_
  refine Z.region ?_
  refine Z.l rfl rfl (by rfl) (Z.keepS hs) (Z.Yd.fieldA (m := 0) rfl (by kernel_rfl)) ?_
  refine Z.l rfl rfl (by rfl) (Z.keepS hs) (by first | exact Z.Yd.load rfl Try.isAgg85 (fun _ => Z.cellB (by first | ((repeat (first | exact List.mem_cons_self | refine List.mem_cons_of_mem _ ?_ | refine List.mem_append_right _ ?_)); done) | fail) rfl) | exact Z.Yd.load rfl Try.isAgg85 (fun _ => Z.cellO (by assumption) (by simp) (by assumption)) | fail "load 1.1") ?_
  refine Z.lb 1 rfl ?_
  replace hs : SX.St w M _ (RdL g T sv l a ++ [_]) := hs.rot (L1 := [_])
  refine Z.le rfl trivial ?_
  refine Z.ZO.call rfl rfl (by rfl) rfl rfl Try.call63 rfl (rget_any g T sv l a n _ hs.lend hl (by omega) hb) ?_
  rintro v1_3 w1_3 ⟨rfl, hz⟩
  replace hs := hs.regain hz
  rw [h2, hV]
  rw [h3] at hs
  refine Z.lb 2 rfl ?_
  refine Z.le rfl trivial ?_
  refine Z.ZO.call rfl rfl (by rfl) rfl rfl Try.call62 rfl (mm_gotu_ok _ _) ?_
  rintro v1_6 w1_6 ⟨rfl, hy⟩
  replace hs := hs.call hy
  clear hy
  try simp only [List.cons_append, List.nil_append, List.append_nil] at hs
  refine Z.l rfl rfl (by rfl) (Z.keepS hs) (Z.Yd.convI rfl ⟨_, Try.underlying68⟩ Try.underlying3 (fun hG => Z.wi64 (by first | omega | (have hG' := Z.gh rfl hG; simp at hG'; omega)))) ?_
  refine Z.lb 1 rfl ?_
  refine Z.lnil ?_
  refine Z.only [4] rfl ?_
  refine Z.nthen ?_
  refine Z.ret ?_
  -- ret#0
  refine Z.out1 (by exact ⟨rfl, trivial⟩) ?_
  exact ⟨_, rfl, rfl, hs.sub (List.sublist_append_left _ _)⟩
set_option maxRecDepth 100000 in
theorem mm_bits_bad (g T : Nat) (sv : Value) (l : List Int) (a n : Nat) (w : World) (hs : SX.St w (SX.idsOf (RdL g T sv l a)) w (RdL g T sv l a)) (hl : l.length ≤ 1000000) (hb : ∀ x ∈ l, 0 ≤ x ∧ x < 256) (ha : a ≤ 8 * l.length) (h : ¬ a + n ≤ 8 * l.length) (hn : n ≤ 32) :
    Calls Try.prog 55 #[.agg #[.pointer (some ⟨g, 0, none⟩)], .int .i64 (n : Int)] w (MPan 5 fun w' => ∃ a', SX.St w (SX.idsOf (RdL g T sv l a)) w' (RdL g T sv l a')) := by
  generalize hM : SX.idsOf (RdL g T sv l a) = M at *
  have h2 := get_bad (l := l) (a := a) (n := n) h (by omega)
  refine Z.enter Try.func55 rfl Try.ntmps55 rfl rfl ?_
  refine Z.seq ?_
  refine Z.region ?_
  refine Z.le rfl trivial ?_
  refine Z.ZO.box rfl rfl (by rfl) rfl rfl hs ?_
  clear hs; intro g2 w2 hs
  refine Z.lb 1 rfl ?_
  refine Z.lnil ?_
  refine Z.only [1, 2] rfl ?_
  refine Z.nthen ?_
  refine Z.seq ?_
  refine Z.region ?_
  refine Z.l rfl rfl (by rfl) (Z.keepS hs) (Z.Yd.fieldA (m := 0) rfl (by kernel_rfl)) ?_
  refine Z.l rfl rfl (by rfl) (Z.keepS hs) (by first | exact Z.Yd.load rfl Try.isAgg85 (fun _ => Z.cellB (by first | ((repeat (first | exact List.mem_cons_self | refine List.mem_cons_of_mem _ ?_ | refine List.mem_append_right _ ?_)); done) | fail) rfl) | exact Z.Yd.load rfl Try.isAgg85 (fun _ => Z.cellO (by assumption) (by simp) (by assumption)) | fail "load 1.1") ?_
  refine Z.lb 1 rfl ?_
  replace hs : SX.St w M _ (RdL g T sv l a ++ [_]) := hs.rot (L1 := [_])
  refine Z.le rfl trivial ?_
  refine Z.ZO.call rfl rfl (by rfl) rfl rfl Try.call63 rfl (rget_any g T sv l a n _ hs.lend hl (by omega) hb) ?_
  rintro v1_3 w1_3 ⟨rfl, hz⟩
  replace hs := hs.regain hz
  rw [h2]
  refine Z.lb 2 rfl ?_
  refine Z.le rfl trivial ?_
  refine Z.ZO.callP rfl rfl rfl Try.call62 rfl (mm_gotu_bad _ 5 _ (by decide)) ?_
  rintro c1_6 w1_6 ⟨rfl, hy⟩
  replace hs := hs.call hy
  clear hy
  try simp only [List.cons_append, List.nil_append, List.append_nil] at hs
  repeat (first | refine Z.pthen ?_ | refine Z.pblock ?_ | refine Z.pscope ?_)
  -- ret#0
  refine Z.outp ?_
  exact ⟨_, rfl, rfl, _, hs.sub (List.sublist_append_left _ _)⟩
end Go.Proofs.Ytogjkgoiofngaaa

/- MAC PDUs: a length field read. -/
namespace Go.Proofs.Ytogjkgoiofngaaa
open Go.RowKit
set_option linter.unusedSimpArgs false
set_option linter.unusedVariables false
--newlaws

/-- the length field at byte p: its error, value, end -/
def lnE (l : List Int) (p : Nat) : Int := if ¬ p < l.length then 5 else if byB l p < 128 then (if byB l p = 0 then 9 else 0) else if ¬ p + 1 < l.length then 5 else if 127 < byB l p % 128 * 256 + byB l (p + 1) then 0 else 9
def lnV (l : List Int) (p : Nat) : Int := if byB l p < 128 then byB l p else byB l p % 128 * 256 + byB l (p + 1)
def lnP (l : List Int) (p : Nat) : Nat := if byB l p < 128 then p + 1 else p + 2
abbrev LenR (g T : Nat) (sv : Value) (l : List Int) (p : Nat) (w : World) : Ending → World → Prop := Z.Bo (fun v w' => lnE l p = 0 ∧ v = .int .i64 (lnV l p) ∧ SX.St w (SX.idsOf (RdL g T sv l (8 * p))) w' (RdL g T sv l (8 * lnP l p))) fun c w' => lnE l p ≠ 0 ∧ c = mperr (lnE l p) ∧ ∃ a', SX.St w (SX.idsOf (RdL g T sv l (8 * p))) w' (RdL g T sv l a')
set_option maxRecDepth 100000 in
theorem ml_none (g T : Nat) (sv : Value) (l : List Int) (p : Nat) (w : World) (hs : SX.St w (SX.idsOf (RdL g T sv l (8 * p))) w (RdL g T sv l (8 * p))) (hl : l.length ≤ 1000000) (hb : ∀ x ∈ l, 0 ≤ x ∧ x < 256) (hp : p ≤ l.length) (h : ¬ p < l.length) :
    Calls Try.prog 56 #[.agg #[.pointer (some ⟨g, 0, none⟩)]] w (MPan 5 fun w' => ∃ a', SX.St w (SX.idsOf (RdL g T sv l (8 * p))) w' (RdL g T sv l a')) := by
  generalize hM : SX.idsOf (RdL g T sv l (8 * p)) = M at *
  refine Z.enter Try.func56 rfl Try.ntmps56 rfl rfl ?_
  refine Z.seq ?_
  refine Z.region ?_
  refine Z.le rfl trivial ?_
  refine Z.ZO.box rfl rfl (by rfl) rfl rfl hs ?_
  clear hs; intro g1 w1 hs
  refine Z.lb 1 rfl ?_
  refine Z.lnil ?_
  refine Z.only [1] rfl ?_
  refine Z.nthen ?_
  refine Z.seq ?_
  refine Z.drawP [SX.Ent.blk g1 88 #[.pointer (some ⟨g, 0, none⟩)]] (fun _ => true) mixed hs ?_
  clear hs; intro wd1 hs
  refine Z.tXP 1 [1, 2, 3, 5] (fun _ _ _ _ _ h => h) rfl rfl rfl (by rfl) (by kernel_rfl) ⟨_, hs, by first | (simp; done) | exact fun e he => List.mem_append_right _ he⟩ (by first | exact Z.Yd.loadA _ rfl Try.isAgg88 (fun _ => Z.cellsB (by first | ((repeat (first | exact List.mem_cons_self | refine List.mem_cons_of_mem _ ?_ | refine List.mem_append_right _ ?_)); done) | fail)) (by exact Try.sizeOf88) | fail "load 1.1") ?_
  refine Z.forkP [0, 4] rfl (by kernel_rfl) rfl ⟨⟨_, _, rfl, rfl, trivial, ?_⟩, ⟨_, _, rfl, rfl, trivial, ?_⟩, trivial⟩
  · skip
    refine Z.ZO.call rfl rfl (by rfl) rfl rfl Try.call36 rfl (mc_formats _) ?_
    rintro v1_0 w1_0 ⟨rfl, hy⟩
    replace hs := hs.call hy
    clear hy
    try simp only [List.cons_append, List.nil_append, List.append_nil] at hs
    refine Z.tkP (Dn := fun _ => true) (i := 0) (fun _ => ⟨_, hs, by first | (simp; done) | exact fun e he => List.mem_append_right _ he⟩) ?_
    refine Z.forkP [2, 4] rfl (by kernel_rfl) rfl ⟨⟨_, _, rfl, rfl, trivial, ?_⟩, ⟨_, _, rfl, rfl, trivial, ?_⟩, trivial⟩
    · skip
      first
      | replace hs : SX.St w M _ (RdL g T sv l (8 * p) ++ [_]) := hs.rot (L1 := [_])
      | replace hs : SX.St w M _ (RdL g T sv l (8 * p) ++ [_, _]) := hs.rot (L1 := [_, _])
      refine Z.ZO.callP rfl rfl rfl Try.call55 rfl (mm_bits_bad g T sv l (8 * p) 1 _ hs.lend hl hb (by omega) (by omega) (by omega)) ?_
      rintro c1_2 w1_2 ⟨rfl, a', hz⟩
      replace hs := hs.regain hz
      repeat (first | refine Z.pthen ?_ | refine Z.pblock ?_ | refine Z.pscope ?_)
      -- ret#0
      refine Z.outp ?_
      exact ⟨_, rfl, rfl, _, hs.sub (List.sublist_append_left _ _)⟩
    · skip
      refine Z.ZO.alloc rfl rfl (by rfl) Try.zeroValue75 rfl hs ?_
      clear hs; intro g3 w3 hs
      refine Z.tkP (Dn := fun _ => true) (i := 4) (fun _ => ⟨_, hs, by first | (simp; done) | exact fun e he => List.mem_append_right _ he⟩) ?_
      first
      | replace hs : SX.St w M _ (RdL g T sv l (8 * p) ++ [_]) := hs.rot (L1 := [_])
      | replace hs : SX.St w M _ (RdL g T sv l (8 * p) ++ [_, _]) := hs.rot (L1 := [_, _])
      refine Z.tnP 2 rfl rfl (by kernel_rfl) rfl trivial ?_
      refine Z.ZO.callP rfl rfl rfl Try.call55 rfl (mm_bits_bad g T sv l (8 * p) 1 _ hs.lend hl hb (by omega) (by omega) (by omega)) ?_
      rintro c1_2 w1_2 ⟨rfl, a', hz⟩
      replace hs := hs.regain hz
      repeat (first | refine Z.pthen ?_ | refine Z.pblock ?_ | refine Z.pscope ?_)
      -- ret#1
      refine Z.outp ?_
      exact ⟨_, rfl, rfl, _, hs.sub (List.sublist_append_left _ _)⟩
  · skip
    refine Z.ZO.alloc rfl rfl (by rfl) Try.zeroValue75 rfl hs ?_
    clear hs; intro g3 w3 hs
    refine Z.tkP (Dn := fun _ => true) (i := 4) (fun _ => ⟨_, hs, by first | (simp; done) | exact fun e he => List.mem_append_right _ he⟩) ?_
    refine Z.tnP 0 rfl rfl (by kernel_rfl) rfl trivial ?_
    refine Z.ZO.call rfl rfl (by rfl) rfl rfl Try.call36 rfl (mc_formats _) ?_
    rintro v1_0 w1_0 ⟨rfl, hy⟩
    replace hs := hs.call hy
    clear hy
    try simp only [List.cons_append, List.nil_append, List.append_nil] at hs
    refine Z.tkP (Dn := fun _ => true) (i := 0) (fun _ => ⟨_, hs, by first | (simp; done) | exact fun e he => List.mem_append_right _ he⟩) ?_
    first
    | replace hs : SX.St w M _ (RdL g T sv l (8 * p) ++ [_]) := hs.rot (L1 := [_])
    | replace hs : SX.St w M _ (RdL g T sv l (8 * p) ++ [_, _]) := hs.rot (L1 := [_, _])
    refine Z.tnP 2 rfl rfl (by kernel_rfl) rfl trivial ?_
    refine Z.ZO.callP rfl rfl rfl Try.call55 rfl (mm_bits_bad g T sv l (8 * p) 1 _ hs.lend hl hb (by omega) (by omega) (by omega)) ?_
    rintro c1_2 w1_2 ⟨rfl, a', hz⟩
    replace hs := hs.regain hz
    repeat (first | refine Z.pthen ?_ | refine Z.pblock ?_ | refine Z.pscope ?_)
    -- ret#2
    refine Z.outp ?_
    exact ⟨_, rfl, rfl, _, hs.sub (List.sublist_append_left _ _)⟩
set_option maxHeartbeats 1000000 in
set_option maxRecDepth 100000 in
theorem ml_short (g T : Nat) (sv : Value) (l : List Int) (p : Nat) (w : World) (hs : SX.St w (SX.idsOf (RdL g T sv l (8 * p))) w (RdL g T sv l (8 * p))) (hl : l.length ≤ 1000000) (hb : ∀ x ∈ l, 0 ≤ x ∧ x < 256) (h : p < l.length) (h1 : byB l p < 128) :
    Calls Try.prog 56 #[.agg #[.pointer (some ⟨g, 0, none⟩)]] w (Z.Bo (fun v w' => byB l p ≠ 0 ∧ v = .int .i64 (byB l p) ∧ SX.St w (SX.idsOf (RdL g T sv l (8 * p))) w' (RdL g T sv l (8 * (p + 1)))) fun c w' => byB l p = 0 ∧ c = mperr 9 ∧ ∃ a', SX.St w (SX.idsOf (RdL g T sv l (8 * p))) w' (RdL g T sv l a')) := by
  generalize hM : SX.idsOf (RdL g T sv l (8 * p)) = M at *
  obtain ⟨-, -, -, f4, f5, -⟩ := head_get hb h
  have h0 := byB_bd hb h
  have e1 : getV l (8 * p) ((1 : Nat) : Int) = 0 := by
    have : getV l (8 * p) 1 = 0 := by rw [f4]; omega
    exact this
  have e2 : getV l (8 * p + 1) ((7 : Nat) : Int) = byB l p := by
    have : getV l (8 * p + 1) 7 = byB l p := by rw [f5]; omega
    exact this
  refine Z.enter Try.func56 rfl Try.ntmps56 rfl rfl ?_
  refine Z.seq ?_
  refine Z.region ?_
  refine Z.le rfl trivial ?_
  refine Z.ZO.box rfl rfl (by rfl) rfl rfl hs ?_
  clear hs; intro g1 w1 hs
  refine Z.lb 1 rfl ?_
  refine Z.lnil ?_
  refine Z.only [1] rfl ?_
  refine Z.nthen ?_
  refine Z.seq ?_
  refine Z.drawL [SX.Ent.blk g1 88 #[.pointer (some ⟨g, 0, none⟩)]] (fun _ => true) mixed hs ?_
  clear hs; intro wd1 hs
  refine Z.t 1 rfl rfl rfl (by rfl) (by kernel_rfl) ⟨_, hs, by first | (simp; done) | exact fun e he => List.mem_append_right _ he⟩ (by first | exact Z.Yd.loadA _ rfl Try.isAgg88 (fun _ => Z.cellsB (by first | ((repeat (first | exact List.mem_cons_self | refine List.mem_cons_of_mem _ ?_ | refine List.mem_append_right _ ?_)); done) | fail)) (by exact Try.sizeOf88) | fail "load 1.1") ?_
  refine Z.fork2 0 4 rfl rfl rfl (by kernel_rfl) rfl rfl trivial trivial ?_ ?_
  · skip
    refine Z.ZO.call rfl rfl (by rfl) rfl rfl Try.call36 rfl (mc_formats _) ?_
    rintro v1_0 w1_0 ⟨rfl, hy⟩
    replace hs := hs.call hy
    clear hy
    try simp only [List.cons_append, List.nil_append, List.append_nil] at hs
    refine Z.tk (Dn := fun _ => true) (i := 0) (fun _ => ⟨_, hs, by first | (simp; done) | exact fun e he => List.mem_append_right _ he⟩) ?_
    refine Z.fork2 2 4 rfl rfl rfl (by kernel_rfl) rfl rfl trivial trivial ?_ ?_
    · skip
      first
      | replace hs : SX.St w M _ (RdL g T sv l (8 * p) ++ [_]) := hs.rot (L1 := [_])
      | replace hs : SX.St w M _ (RdL g T sv l (8 * p) ++ [_, _]) := hs.rot (L1 := [_, _])
      refine Z.ZO.call rfl rfl (by rfl) rfl rfl Try.call55 rfl (mm_bits_ok g T sv l (8 * p) 1 _ hs.lend hl hb (by omega) (by omega)) ?_
      rintro v1_2 w1_2 ⟨rfl, hz⟩
      replace hs := hs.regain hz
      rw [e1]
      simp only [RdL, List.cons_append, List.nil_append] at hs
      refine Z.tk (Dn := fun _ => true) (i := 2) (fun _ => ⟨_, hs, by first | (simp; done) | exact fun e he => List.mem_append_right _ he⟩) ?_
      refine Z.t 3 rfl rfl rfl (by rfl) (by kernel_rfl) ⟨_, hs, by first | (simp; done) | exact fun e he => List.mem_append_right _ he⟩ (Z.Yd.index (v := .agg #[.int .u64 0, .int .i64 7, .int .i64 127]) rfl rfl (by intro _ w; kernel_rfl)) ?_
      refine Z.tn 4 rfl rfl (by kernel_rfl) rfl trivial ?_
      refine Z.ZO.alloc rfl rfl (by rfl) Try.zeroValue75 rfl hs ?_
      clear hs; intro g3 w3 hs
      refine Z.tk (Dn := fun _ => true) (i := 4) (fun _ => ⟨_, hs, by first | (simp; done) | exact fun e he => List.mem_append_right _ he⟩) ?_
      refine Z.tn 5 rfl rfl (by kernel_rfl) rfl trivial ?_
      first | refine Z.ZO.storeA rfl rfl hs rfl rfl (by kernel_rfl) (by first | (simp [Value.oneCell']; done) | (refine Z.all_one ?_; assumption)) (by first | exact SX.at0 | exact SX.at1 | exact SX.at2 | exact SX.at3 | exact SX.at4 | exact SX.at5 | exact Z.at6 | exact Z.at7 | exact Z.at8 | exact Z.at9 | exact Z.at10 | exact Z.at11 | exact Z.at12) (by rfl) ?_ | refine Z.ZO.storeP rfl rfl hs rfl rfl (by kernel_rfl) (by first | (simp [Value.oneCell']; done) | (refine Z.all_one ?_; assumption)) (by first | exact SX.at0 | exact SX.at1 | exact SX.at2 | exact SX.at3 | exact SX.at4 | exact SX.at5 | exact Z.at6 | exact Z.at7 | exact Z.at8 | exact Z.at9 | exact Z.at10 | exact Z.at11 | exact Z.at12) (by first | decide | (simp; done) | (simp; omega)) ?_ | refine Z.ZO.storePR rfl rfl hs rfl rfl (by kernel_rfl) (by first | (simp [Value.oneCell']; done) | (refine Z.all_one ?_; assumption)) (by first | exact SX.at0 | exact SX.at1 | exact SX.at2 | exact SX.at3 | exact SX.at4 | exact SX.at5 | exact Z.at6 | exact Z.at7 | exact Z.at8 | exact Z.at9 | exact Z.at10 | exact Z.at11 | exact Z.at12) (by first | decide | (simp; done) | (simp; omega)) ?_
      clear hs; intro ws hs
      simp only [Nat.zero_add, Nat.add_zero, Nat.reduceAdd, Int.reduceToNat, Nat.reduceMul, List.set_cons_zero, List.set_cons_succ, List.setIfInBounds_toArray] at hs
      try simp only [Z.putL, Nat.zero_add] at hs
      refine Z.tk (Dn := fun _ => true) (i := 5) (fun _ => ⟨_, hs, by first | (simp; done) | exact fun e he => List.mem_append_right _ he⟩) ?_
      refine Z.td (by rfl) (by kernel_rfl) ?_
      refine Z.only [1, 3] rfl ?_
      refine Z.nthen ?_
      refine Z.seq ?_
      refine Z.region ?_
      refine Z.l rfl rfl (by rfl) (Z.keepS hs) (by first | exact Z.Yd.loadA _ rfl Try.isAgg88 (fun _ => Z.cellsB (by first | ((repeat (first | exact List.mem_cons_self | refine List.mem_cons_of_mem _ ?_ | refine List.mem_append_right _ ?_)); done) | fail)) (by exact Try.sizeOf88) | fail "load 2.0") ?_
      refine Z.l rfl rfl (by rfl) (Z.keepS hs) (Z.Yd.fieldA (m := 1) rfl (by kernel_rfl)) ?_
      refine Z.l rfl rfl (by rfl) (Z.keepS hs) (by first | exact Z.Yd.load rfl Try.isAgg3 (fun _ => Z.cellB (by first | ((repeat (first | exact List.mem_cons_self | refine List.mem_cons_of_mem _ ?_ | refine List.mem_append_right _ ?_)); done) | fail) rfl) | exact Z.Yd.load rfl Try.isAgg3 (fun _ => Z.cellO (by assumption) (by simp) (by assumption)) | fail "load 2.2") ?_
      first
      | replace hs : SX.St w M _ (RdL g T sv l (8 * p + 1) ++ [SX.Ent.blk g3 _ _, SX.Ent.blk g1 _ _]) := hs.sel [1, 2, 0, 3] (by decide)
      | replace hs : SX.St w M _ (RdL g T sv l (8 * p + 1) ++ [SX.Ent.blk g3 _ _, SX.Ent.blk g1 _ _]) := hs.sel [0, 1, 2, 3] (by decide)
      refine Z.le rfl trivial ?_
      refine Z.ZO.call rfl rfl (by rfl) rfl rfl Try.call55 rfl (mm_bits_ok g T sv l (8 * p + 1) 7 _ hs.lend hl hb (by omega) (by omega)) ?_
      rintro v2_3 w2_3 ⟨rfl, hz⟩
      replace hs := hs.regain hz
      rw [e2]
      simp only [RdL, List.cons_append, List.nil_append] at hs
      refine Z.lb 1 rfl ?_
      refine Z.lnil ?_
      refine Z.only [3, 4] rfl ?_
      refine Z.nthen ?_
      refine Z.seq ?_
      refine Z.region ?_
      refine Z.lb 3 rfl ?_
      refine Z.split (s := 15) rfl (fun hsp15 => ?_) (fun hsp15 => ?_)
      · first
          | (exfalso; simp at hsp15 <;> omega)
          | (
            refine Z.yes (s := 15) (b := true) rfl hsp15 rfl ?_
            (try simp at hsp15)
            refine Z.l rfl rfl (by rfl) (Z.keepS hs) (Z.Yd.fieldA (m := 0) rfl (by kernel_rfl)) ?_
            refine Z.l rfl rfl (by rfl) (Z.keepS hs) (by first | exact Z.Yd.load rfl Try.isAgg68 (fun _ => Z.cellB (by first | ((repeat (first | exact List.mem_cons_self | refine List.mem_cons_of_mem _ ?_ | refine List.mem_append_right _ ?_)); done) | fail) rfl) | exact Z.Yd.load rfl Try.isAgg68 (fun _ => Z.cellO (by assumption) (by simp) (by assumption)) | fail "load 3.4") ?_
            refine Z.lb 2 rfl ?_
            refine Z.yes (s := 15) (b := true) rfl rfl rfl ?_
            refine Z.yes (s := 19) (b := true) rfl ((by simp)) rfl ?_
            refine Z.ls rfl rfl rfl (by rfl) ?_
            refine Z.ls rfl rfl rfl (by rfl) ?_
            refine Z.ls rfl rfl rfl (by rfl) ?_
            refine Z.ls rfl rfl rfl (by rfl) ?_
            refine Z.ls rfl rfl rfl (by rfl) ?_
            refine Z.l rfl rfl (by rfl) (Z.keepS hs) (Z.Yd.pickT rfl rfl) ?_
            refine Z.yes (s := 15) (b := true) rfl rfl rfl ?_
            refine Z.l rfl rfl (by rfl) (Z.keepS hs) (Z.Yd.pickT rfl rfl) ?_
            refine Z.le rfl trivial ?_
            refine Z.ZO.callB rfl rfl (by rfl) rfl rfl Try.call31 rfl (mm_must_any _ 9 _) ?_ ?_
            · skip
              rintro v3_14 w3_14 ⟨hm, rfl, hy⟩
              replace hs := hs.call hy
              clear hy
              try simp only [List.cons_append, List.nil_append, List.append_nil] at hs
              refine Z.lnil ?_
              refine Z.only [4] rfl ?_
              refine Z.nthen ?_
              refine Z.seq ?_
              refine Z.region ?_
              refine Z.lb 2 rfl ?_
              refine Z.lnil ?_
              refine Z.only [2] rfl ?_
              refine Z.nthen ?_
              refine Z.ret ?_
              -- ret#0
              refine Z.out1 (by exact ⟨rfl, trivial⟩) ?_
              exact .inl ⟨_, rfl, by first | omega | simp_all, rfl, hs.sel [0, 1] (by decide)⟩
            · skip
              rintro c3_14 w3_14 ⟨hm, rfl, hy⟩
              replace hs := hs.call hy
              clear hy
              try simp only [List.cons_append, List.nil_append, List.append_nil] at hs
              repeat (first | refine Z.pthen ?_ | refine Z.pblock ?_ | refine Z.pscope ?_)
              -- ret#1
              refine Z.outp ?_
              exact .inr ⟨_, rfl, by first | omega | simp_all, rfl, _, hs.sel [0, 1] (by decide)⟩
            )
      · first
          | (exfalso; simp at hsp15 <;> omega)
          | (
            refine Z.yes (s := 15) (b := false) rfl hsp15 rfl ?_
            (try simp at hsp15)
            refine Z.ls rfl rfl rfl (by rfl) ?_
            refine Z.ls rfl rfl rfl (by rfl) ?_
            refine Z.ls rfl rfl rfl (by rfl) ?_
            refine Z.ls rfl rfl rfl (by rfl) ?_
            refine Z.lsU rfl rfl rfl (by rfl) ?_
            refine Z.lsU rfl rfl rfl (by rfl) ?_
            refine Z.lsU rfl rfl rfl (by rfl) ?_
            refine Z.lsU rfl rfl rfl (by rfl) ?_
            refine Z.lsU rfl rfl rfl (by rfl) ?_
            refine Z.ls rfl rfl rfl (by rfl) ?_
            refine Z.l rfl rfl (by rfl) (Z.keepS hs) (Z.Yd.pickF rfl rfl) ?_
            refine Z.le rfl trivial ?_
            refine Z.ZO.callB rfl rfl (by rfl) rfl rfl Try.call31 rfl (mm_must_any _ 9 _) ?_ ?_
            · skip
              rintro v3_14 w3_14 ⟨hm, rfl, hy⟩
              replace hs := hs.call hy
              clear hy
              try simp only [List.cons_append, List.nil_append, List.append_nil] at hs
              refine Z.lnil ?_
              refine Z.only [4] rfl ?_
              refine Z.nthen ?_
              refine Z.seq ?_
              refine Z.region ?_
              refine Z.lb 2 rfl ?_
              refine Z.lnil ?_
              refine Z.only [2] rfl ?_
              refine Z.nthen ?_
              refine Z.ret ?_
              -- ret#2
              refine Z.out1 (by exact ⟨rfl, trivial⟩) ?_
              exact .inl ⟨_, rfl, by first | omega | simp_all, rfl, hs.sel [0, 1] (by decide)⟩
            · skip
              rintro c3_14 w3_14 ⟨hm, rfl, hy⟩
              replace hs := hs.call hy
              clear hy
              try simp only [List.cons_append, List.nil_append, List.append_nil] at hs
              repeat (first | refine Z.pthen ?_ | refine Z.pblock ?_ | refine Z.pscope ?_)
              -- ret#3
              refine Z.outp ?_
              exact .inr ⟨_, rfl, by first | omega | simp_all, rfl, _, hs.sel [0, 1] (by decide)⟩
            )
    · skip
      refine Z.ZO.alloc rfl rfl (by rfl) Try.zeroValue75 rfl hs ?_
      clear hs; intro g3 w3 hs
      refine Z.tk (Dn := fun _ => true) (i := 4) (fun _ => ⟨_, hs, by first | (simp; done) | exact fun e he => List.mem_append_right _ he⟩) ?_
      first
      | replace hs : SX.St w M _ (RdL g T sv l (8 * p) ++ [_]) := hs.rot (L1 := [_])
      | replace hs : SX.St w M _ (RdL g T sv l (8 * p) ++ [_, _]) := hs.rot (L1 := [_, _])
      refine Z.tn 2 rfl rfl (by kernel_rfl) rfl trivial ?_
      refine Z.ZO.call rfl rfl (by rfl) rfl rfl Try.call55 rfl (mm_bits_ok g T sv l (8 * p) 1 _ hs.lend hl hb (by omega) (by omega)) ?_
      rintro v1_2 w1_2 ⟨rfl, hz⟩
      replace hs := hs.regain hz
      rw [e1]
      simp only [RdL, List.cons_append, List.nil_append] at hs
      refine Z.tk (Dn := fun _ => true) (i := 2) (fun _ => ⟨_, hs, by first | (simp; done) | exact fun e he => List.mem_append_right _ he⟩) ?_
      refine Z.t 3 rfl rfl rfl (by rfl) (by kernel_rfl) ⟨_, hs, by first | (simp; done) | exact fun e he => List.mem_append_right _ he⟩ (Z.Yd.index (v := .agg #[.int .u64 0, .int .i64 7, .int .i64 127]) rfl rfl (by intro _ w; kernel_rfl)) ?_
      refine Z.tn 5 rfl rfl (by kernel_rfl) rfl trivial ?_
      first | refine Z.ZO.storeA rfl rfl hs rfl rfl (by kernel_rfl) (by first | (simp [Value.oneCell']; done) | (refine Z.all_one ?_; assumption)) (by first | exact SX.at0 | exact SX.at1 | exact SX.at2 | exact SX.at3 | exact SX.at4 | exact SX.at5 | exact Z.at6 | exact Z.at7 | exact Z.at8 | exact Z.at9 | exact Z.at10 | exact Z.at11 | exact Z.at12) (by rfl) ?_ | refine Z.ZO.storeP rfl rfl hs rfl rfl (by kernel_rfl) (by first | (simp [Value.oneCell']; done) | (refine Z.all_one ?_; assumption)) (by first | exact SX.at0 | exact SX.at1 | exact SX.at2 | exact SX.at3 | exact SX.at4 | exact SX.at5 | exact Z.at6 | exact Z.at7 | exact Z.at8 | exact Z.at9 | exact Z.at10 | exact Z.at11 | exact Z.at12) (by first | decide | (simp; done) | (simp; omega)) ?_ | refine Z.ZO.storePR rfl rfl hs rfl rfl (by kernel_rfl) (by first | (simp [Value.oneCell']; done) | (refine Z.all_one ?_; assumption)) (by first | exact SX.at0 | exact SX.at1 | exact SX.at2 | exact SX.at3 | exact SX.at4 | exact SX.at5 | exact Z.at6 | exact Z.at7 | exact Z.at8 | exact Z.at9 | exact Z.at10 | exact Z.at11 | exact Z.at12) (by first | decide | (simp; done) | (simp; omega)) ?_
      clear hs; intro ws hs
      simp only [Nat.zero_add, Nat.add_zero, Nat.reduceAdd, Int.reduceToNat, Nat.reduceMul, List.set_cons_zero, List.set_cons_succ, List.setIfInBounds_toArray] at hs
      try simp only [Z.putL, Nat.zero_add] at hs
      refine Z.tk (Dn := fun _ => true) (i := 5) (fun _ => ⟨_, hs, by first | (simp; done) | exact fun e he => List.mem_append_right _ he⟩) ?_
      refine Z.td (by rfl) (by kernel_rfl) ?_
      refine Z.only [1, 3] rfl ?_
      refine Z.nthen ?_
      refine Z.seq ?_
      refine Z.region ?_
      refine Z.l rfl rfl (by rfl) (Z.keepS hs) (by first | exact Z.Yd.loadA _ rfl Try.isAgg88 (fun _ => Z.cellsB (by first | ((repeat (first | exact List.mem_cons_self | refine List.mem_cons_of_mem _ ?_ | refine List.mem_append_right _ ?_)); done) | fail)) (by exact Try.sizeOf88) | fail "load 2.0") ?_
      refine Z.l rfl rfl (by rfl) (Z.keepS hs) (Z.Yd.fieldA (m := 1) rfl (by kernel_rfl)) ?_
      refine Z.l rfl rfl (by rfl) (Z.keepS hs) (by first | exact Z.Yd.load rfl Try.isAgg3 (fun _ => Z.cellB (by first | ((repeat (first | exact List.mem_cons_self | refine List.mem_cons_of_mem _ ?_ | refine List.mem_append_right _ ?_)); done) | fail) rfl) | exact Z.Yd.load rfl Try.isAgg3 (fun _ => Z.cellO (by assumption) (by simp) (by assumption)) | fail "load 2.2") ?_
      first
      | replace hs : SX.St w M _ (RdL g T sv l (8 * p + 1) ++ [SX.Ent.blk g3 _ _, SX.Ent.blk g1 _ _]) := hs.sel [1, 2, 0, 3] (by decide)
      | replace hs : SX.St w M _ (RdL g T sv l (8 * p + 1) ++ [SX.Ent.blk g3 _ _, SX.Ent.blk g1 _ _]) := hs.sel [0, 1, 2, 3] (by decide)
      refine Z.le rfl trivial ?_
      refine Z.ZO.call rfl rfl (by rfl) rfl rfl Try.call55 rfl (mm_bits_ok g T sv l (8 * p + 1) 7 _ hs.lend hl hb (by omega) (by omega)) ?_
      rintro v2_3 w2_3 ⟨rfl, hz⟩
      replace hs := hs.regain hz
      rw [e2]
      simp only [RdL, List.cons_append, List.nil_append] at hs
      refine Z.lb 1 rfl ?_
      refine Z.lnil ?_
      refine Z.only [3, 4] rfl ?_
      refine Z.nthen ?_
      refine Z.seq ?_
      refine Z.region ?_
      refine Z.lb 3 rfl ?_
      refine Z.split (s := 15) rfl (fun hsp15 => ?_) (fun hsp15 => ?_)
      · first
          | (exfalso; simp at hsp15 <;> omega)
          | (
            refine Z.yes (s := 15) (b := true) rfl hsp15 rfl ?_
            (try simp at hsp15)
            refine Z.l rfl rfl (by rfl) (Z.keepS hs) (Z.Yd.fieldA (m := 0) rfl (by kernel_rfl)) ?_
            refine Z.l rfl rfl (by rfl) (Z.keepS hs) (by first | exact Z.Yd.load rfl Try.isAgg68 (fun _ => Z.cellB (by first | ((repeat (first | exact List.mem_cons_self | refine List.mem_cons_of_mem _ ?_ | refine List.mem_append_right _ ?_)); done) | fail) rfl) | exact Z.Yd.load rfl Try.isAgg68 (fun _ => Z.cellO (by assumption) (by simp) (by assumption)) | fail "load 3.4") ?_
            refine Z.lb 2 rfl ?_
            refine Z.yes (s := 15) (b := true) rfl rfl rfl ?_
            refine Z.yes (s := 19) (b := true) rfl ((by simp)) rfl ?_
            refine Z.ls rfl rfl rfl (by rfl) ?_
            refine Z.ls rfl rfl rfl (by rfl) ?_
            refine Z.ls rfl rfl rfl (by rfl) ?_
            refine Z.ls rfl rfl rfl (by rfl) ?_
            refine Z.ls rfl rfl rfl (by rfl) ?_
            refine Z.l rfl rfl (by rfl) (Z.keepS hs) (Z.Yd.pickT rfl rfl) ?_
            refine Z.yes (s := 15) (b := true) rfl rfl rfl ?_
            refine Z.l rfl rfl (by rfl) (Z.keepS hs) (Z.Yd.pickT rfl rfl) ?_
            refine Z.le rfl trivial ?_
            refine Z.ZO.callB rfl rfl (by rfl) rfl rfl Try.call31 rfl (mm_must_any _ 9 _) ?_ ?_
            · skip
              rintro v3_14 w3_14 ⟨hm, rfl, hy⟩
              replace hs := hs.call hy
              clear hy
              try simp only [List.cons_append, List.nil_append, List.append_nil] at hs
              refine Z.lnil ?_
              refine Z.only [4] rfl ?_
              refine Z.nthen ?_
              refine Z.seq ?_
              refine Z.region ?_
              refine Z.lb 2 rfl ?_
              refine Z.lnil ?_
              refine Z.only [2] rfl ?_
              refine Z.nthen ?_
              refine Z.ret ?_
              -- ret#4
              refine Z.out1 (by exact ⟨rfl, trivial⟩) ?_
              exact .inl ⟨_, rfl, by first | omega | simp_all, rfl, hs.sel [0, 1] (by decide)⟩
            · skip
              rintro c3_14 w3_14 ⟨hm, rfl, hy⟩
              replace hs := hs.call hy
              clear hy
              try simp only [List.cons_append, List.nil_append, List.append_nil] at hs
              repeat (first | refine Z.pthen ?_ | refine Z.pblock ?_ | refine Z.pscope ?_)
              -- ret#5
              refine Z.outp ?_
              exact .inr ⟨_, rfl, by first | omega | simp_all, rfl, _, hs.sel [0, 1] (by decide)⟩
            )
      · first
          | (exfalso; simp at hsp15 <;> omega)
          | (
            refine Z.yes (s := 15) (b := false) rfl hsp15 rfl ?_
            (try simp at hsp15)
            refine Z.ls rfl rfl rfl (by rfl) ?_
            refine Z.ls rfl rfl rfl (by rfl) ?_
            refine Z.ls rfl rfl rfl (by rfl) ?_
            refine Z.ls rfl rfl rfl (by rfl) ?_
            refine Z.lsU rfl rfl rfl (by rfl) ?_
            refine Z.lsU rfl rfl rfl (by rfl) ?_
            refine Z.lsU rfl rfl rfl (by rfl) ?_
            refine Z.lsU rfl rfl rfl (by rfl) ?_
            refine Z.lsU rfl rfl rfl (by rfl) ?_
            refine Z.ls rfl rfl rfl (by rfl) ?_
            refine Z.l rfl rfl (by rfl) (Z.keepS hs) (Z.Yd.pickF rfl rfl) ?_
            refine Z.le rfl trivial ?_
            refine Z.ZO.callB rfl rfl (by rfl) rfl rfl Try.call31 rfl (mm_must_any _ 9 _) ?_ ?_
            · skip
              rintro v3_14 w3_14 ⟨hm, rfl, hy⟩
              replace hs := hs.call hy
              clear hy
              try simp only [List.cons_append, List.nil_append, List.append_nil] at hs
              refine Z.lnil ?_
              refine Z.only [4] rfl ?_
              refine Z.nthen ?_
              refine Z.seq ?_
              refine Z.region ?_
              refine Z.lb 2 rfl ?_
              refine Z.lnil ?_
              refine Z.only [2] rfl ?_
              refine Z.nthen ?_
              refine Z.ret ?_
              -- ret#6
              refine Z.out1 (by exact ⟨rfl, trivial⟩) ?_
              exact .inl ⟨_, rfl, by first | omega | simp_all, rfl, hs.sel [0, 1] (by decide)⟩
            · skip
              rintro c3_14 w3_14 ⟨hm, rfl, hy⟩
              replace hs := hs.call hy
              clear hy
              try simp only [List.cons_append, List.nil_append, List.append_nil] at hs
              repeat (first | refine Z.pthen ?_ | refine Z.pblock ?_ | refine Z.pscope ?_)
              -- ret#7
              refine Z.outp ?_
              exact .inr ⟨_, rfl, by first | omega | simp_all, rfl, _, hs.sel [0, 1] (by decide)⟩
            )
  · skip
    refine Z.ZO.alloc rfl rfl (by rfl) Try.zeroValue75 rfl hs ?_
    clear hs; intro g3 w3 hs
    refine Z.tk (Dn := fun _ => true) (i := 4) (fun _ => ⟨_, hs, by first | (simp; done) | exact fun e he => List.mem_append_right _ he⟩) ?_
    refine Z.tn 0 rfl rfl (by kernel_rfl) rfl trivial ?_
    refine Z.ZO.call rfl rfl (by rfl) rfl rfl Try.call36 rfl (mc_formats _) ?_
    rintro v1_0 w1_0 ⟨rfl, hy⟩
    replace hs := hs.call hy
    clear hy
    try simp only [List.cons_append, List.nil_append, List.append_nil] at hs
    refine Z.tk (Dn := fun _ => true) (i := 0) (fun _ => ⟨_, hs, by first | (simp; done) | exact fun e he => List.mem_append_right _ he⟩) ?_
    first
    | replace hs : SX.St w M _ (RdL g T sv l (8 * p) ++ [_]) := hs.rot (L1 := [_])
    | replace hs : SX.St w M _ (RdL g T sv l (8 * p) ++ [_, _]) := hs.rot (L1 := [_, _])
    refine Z.tn 2 rfl rfl (by kernel_rfl) rfl trivial ?_
    refine Z.ZO.call rfl rfl (by rfl) rfl rfl Try.call55 rfl (mm_bits_ok g T sv l (8 * p) 1 _ hs.lend hl hb (by omega) (by omega)) ?_
    rintro v1_2 w1_2 ⟨rfl, hz⟩
    replace hs := hs.regain hz
    rw [e1]
    simp only [RdL, List.cons_append, List.nil_append] at hs
    refine Z.tk (Dn := fun _ => true) (i := 2) (fun _ => ⟨_, hs, by first | (simp; done) | exact fun e he => List.mem_append_right _ he⟩) ?_
    refine Z.t 3 rfl rfl rfl (by rfl) (by kernel_rfl) ⟨_, hs, by first | (simp; done) | exact fun e he => List.mem_append_right _ he⟩ (Z.Yd.index (v := .agg #[.int .u64 0, .int .i64 7, .int .i64 127]) rfl rfl (by intro _ w; kernel_rfl)) ?_
    refine Z.tn 5 rfl rfl (by kernel_rfl) rfl trivial ?_
    first | refine Z.ZO.storeA rfl rfl hs rfl rfl (by kernel_rfl) (by first | (simp [Value.oneCell']; done) | (refine Z.all_one ?_; assumption)) (by first | exact SX.at0 | exact SX.at1 | exact SX.at2 | exact SX.at3 | exact SX.at4 | exact SX.at5 | exact Z.at6 | exact Z.at7 | exact Z.at8 | exact Z.at9 | exact Z.at10 | exact Z.at11 | exact Z.at12) (by rfl) ?_ | refine Z.ZO.storeP rfl rfl hs rfl rfl (by kernel_rfl) (by first | (simp [Value.oneCell']; done) | (refine Z.all_one ?_; assumption)) (by first | exact SX.at0 | exact SX.at1 | exact SX.at2 | exact SX.at3 | exact SX.at4 | exact SX.at5 | exact Z.at6 | exact Z.at7 | exact Z.at8 | exact Z.at9 | exact Z.at10 | exact Z.at11 | exact Z.at12) (by first | decide | (simp; done) | (simp; omega)) ?_ | refine Z.ZO.storePR rfl rfl hs rfl rfl (by kernel_rfl) (by first | (simp [Value.oneCell']; done) | (refine Z.all_one ?_; assumption)) (by first | exact SX.at0 | exact SX.at1 | exact SX.at2 | exact SX.at3 | exact SX.at4 | exact SX.at5 | exact Z.at6 | exact Z.at7 | exact Z.at8 | exact Z.at9 | exact Z.at10 | exact Z.at11 | exact Z.at12) (by first | decide | (simp; done) | (simp; omega)) ?_
    clear hs; intro ws hs
    simp only [Nat.zero_add, Nat.add_zero, Nat.reduceAdd, Int.reduceToNat, Nat.reduceMul, List.set_cons_zero, List.set_cons_succ, List.setIfInBounds_toArray] at hs
    try simp only [Z.putL, Nat.zero_add] at hs
    refine Z.tk (Dn := fun _ => true) (i := 5) (fun _ => ⟨_, hs, by first | (simp; done) | exact fun e he => List.mem_append_right _ he⟩) ?_
    refine Z.td (by rfl) (by kernel_rfl) ?_
    refine Z.only [1, 3] rfl ?_
    refine Z.nthen ?_
    refine Z.seq ?_
    refine Z.region ?_
    refine Z.l rfl rfl (by rfl) (Z.keepS hs) (by first | exact Z.Yd.loadA _ rfl Try.isAgg88 (fun _ => Z.cellsB (by first | ((repeat (first | exact List.mem_cons_self | refine List.mem_cons_of_mem _ ?_ | refine List.mem_append_right _ ?_)); done) | fail)) (by exact Try.sizeOf88) | fail "load 2.0") ?_
    refine Z.l rfl rfl (by rfl) (Z.keepS hs) (Z.Yd.fieldA (m := 1) rfl (by kernel_rfl)) ?_
    refine Z.l rfl rfl (by rfl) (Z.keepS hs) (by first | exact Z.Yd.load rfl Try.isAgg3 (fun _ => Z.cellB (by first | ((repeat (first | exact List.mem_cons_self | refine List.mem_cons_of_mem _ ?_ | refine List.mem_append_right _ ?_)); done) | fail) rfl) | exact Z.Yd.load rfl Try.isAgg3 (fun _ => Z.cellO (by assumption) (by simp) (by assumption)) | fail "load 2.2") ?_
    first
    | replace hs : SX.St w M _ (RdL g T sv l (8 * p + 1) ++ [SX.Ent.blk g3 _ _, SX.Ent.blk g1 _ _]) := hs.sel [1, 2, 0, 3] (by decide)
    | replace hs : SX.St w M _ (RdL g T sv l (8 * p + 1) ++ [SX.Ent.blk g3 _ _, SX.Ent.blk g1 _ _]) := hs.sel [0, 1, 2, 3] (by decide)
    refine Z.le rfl trivial ?_
    refine Z.ZO.call rfl rfl (by rfl) rfl rfl Try.call55 rfl (mm_bits_ok g T sv l (8 * p + 1) 7 _ hs.lend hl hb (by omega) (by omega)) ?_
    rintro v2_3 w2_3 ⟨rfl, hz⟩
    replace hs := hs.regain hz
    rw [e2]
    simp only [RdL, List.cons_append, List.nil_append] at hs
    refine Z.lb 1 rfl ?_
    refine Z.lnil ?_
    refine Z.only [3, 4] rfl ?_
    refine Z.nthen ?_
    refine Z.seq ?_
    refine Z.region ?_
    refine Z.lb 3 rfl ?_
    refine Z.split (s := 15) rfl (fun hsp15 => ?_) (fun hsp15 => ?_)
    · first
        | (exfalso; simp at hsp15 <;> omega)
        | (
          refine Z.yes (s := 15) (b := true) rfl hsp15 rfl ?_
          (try simp at hsp15)
          refine Z.l rfl rfl (by rfl) (Z.keepS hs) (Z.Yd.fieldA (m := 0) rfl (by kernel_rfl)) ?_
          refine Z.l rfl rfl (by rfl) (Z.keepS hs) (by first | exact Z.Yd.load rfl Try.isAgg68 (fun _ => Z.cellB (by first | ((repeat (first | exact List.mem_cons_self | refine List.mem_cons_of_mem _ ?_ | refine List.mem_append_right _ ?_)); done) | fail) rfl) | exact Z.Yd.load rfl Try.isAgg68 (fun _ => Z.cellO (by assumption) (by simp) (by assumption)) | fail "load 3.4") ?_
          refine Z.lb 2 rfl ?_
          refine Z.yes (s := 15) (b := true) rfl rfl rfl ?_
          refine Z.yes (s := 19) (b := true) rfl ((by simp)) rfl ?_
          refine Z.ls rfl rfl rfl (by rfl) ?_
          refine Z.ls rfl rfl rfl (by rfl) ?_
          refine Z.ls rfl rfl rfl (by rfl) ?_
          refine Z.ls rfl rfl rfl (by rfl) ?_
          refine Z.ls rfl rfl rfl (by rfl) ?_
          refine Z.l rfl rfl (by rfl) (Z.keepS hs) (Z.Yd.pickT rfl rfl) ?_
          refine Z.yes (s := 15) (b := true) rfl rfl rfl ?_
          refine Z.l rfl rfl (by rfl) (Z.keepS hs) (Z.Yd.pickT rfl rfl) ?_
          refine Z.le rfl trivial ?_
          refine Z.ZO.callB rfl rfl (by rfl) rfl rfl Try.call31 rfl (mm_must_any _ 9 _) ?_ ?_
          · skip
            rintro v3_14 w3_14 ⟨hm, rfl, hy⟩
            replace hs := hs.call hy
            clear hy
            try simp only [List.cons_append, List.nil_append, List.append_nil] at hs
            refine Z.lnil ?_
            refine Z.only [4] rfl ?_
            refine Z.nthen ?_
            refine Z.seq ?_
            refine Z.region ?_
            refine Z.lb 2 rfl ?_
            refine Z.lnil ?_
            refine Z.only [2] rfl ?_
            refine Z.nthen ?_
            refine Z.ret ?_
            -- ret#8
            refine Z.out1 (by exact ⟨rfl, trivial⟩) ?_
            exact .inl ⟨_, rfl, by first | omega | simp_all, rfl, hs.sel [0, 1] (by decide)⟩
          · skip
            rintro c3_14 w3_14 ⟨hm, rfl, hy⟩
            replace hs := hs.call hy
            clear hy
            try simp only [List.cons_append, List.nil_append, List.append_nil] at hs
            repeat (first | refine Z.pthen ?_ | refine Z.pblock ?_ | refine Z.pscope ?_)
            -- ret#9
            refine Z.outp ?_
            exact .inr ⟨_, rfl, by first | omega | simp_all, rfl, _, hs.sel [0, 1] (by decide)⟩
          )
    · first
        | (exfalso; simp at hsp15 <;> omega)
        | (
          refine Z.yes (s := 15) (b := false) rfl hsp15 rfl ?_
          (try simp at hsp15)
          refine Z.ls rfl rfl rfl (by rfl) ?_
          refine Z.ls rfl rfl rfl (by rfl) ?_
          refine Z.ls rfl rfl rfl (by rfl) ?_
          refine Z.ls rfl rfl rfl (by rfl) ?_
          refine Z.lsU rfl rfl rfl (by rfl) ?_
          refine Z.lsU rfl rfl rfl (by rfl) ?_
          refine Z.lsU rfl rfl rfl (by rfl) ?_
          refine Z.lsU rfl rfl rfl (by rfl) ?_
          refine Z.lsU rfl rfl rfl (by rfl) ?_
          refine Z.ls rfl rfl rfl (by rfl) ?_
          refine Z.l rfl rfl (by rfl) (Z.keepS hs) (Z.Yd.pickF rfl rfl) ?_
          refine Z.le rfl trivial ?_
          refine Z.ZO.callB rfl rfl (by rfl) rfl rfl Try.call31 rfl (mm_must_any _ 9 _) ?_ ?_
          · skip
            rintro v3_14 w3_14 ⟨hm, rfl, hy⟩
            replace hs := hs.call hy
            clear hy
            try simp only [List.cons_append, List.nil_append, List.append_nil] at hs
            refine Z.lnil ?_
            refine Z.only [4] rfl ?_
            refine Z.nthen ?_
            refine Z.seq ?_
            refine Z.region ?_
            refine Z.lb 2 rfl ?_
            refine Z.lnil ?_
            refine Z.only [2] rfl ?_
            refine Z.nthen ?_
            refine Z.ret ?_
            -- ret#10
            refine Z.out1 (by exact ⟨rfl, trivial⟩) ?_
            exact .inl ⟨_, rfl, by first | omega | simp_all, rfl, hs.sel [0, 1] (by decide)⟩
          · skip
            rintro c3_14 w3_14 ⟨hm, rfl, hy⟩
            replace hs := hs.call hy
            clear hy
            try simp only [List.cons_append, List.nil_append, List.append_nil] at hs
            repeat (first | refine Z.pthen ?_ | refine Z.pblock ?_ | refine Z.pscope ?_)
            -- ret#11
            refine Z.outp ?_
            exact .inr ⟨_, rfl, by first | omega | simp_all, rfl, _, hs.sel [0, 1] (by decide)⟩
          )
set_option maxHeartbeats 1000000 in
set_option maxRecDepth 100000 in
theorem ml_cut (g T : Nat) (sv : Value) (l : List Int) (p : Nat) (w : World) (hs : SX.St w (SX.idsOf (RdL g T sv l (8 * p))) w (RdL g T sv l (8 * p))) (hl : l.length ≤ 1000000) (hb : ∀ x ∈ l, 0 ≤ x ∧ x < 256) (h : p < l.length) (h1 : ¬ byB l p < 128) (h2 : ¬ p + 1 < l.length) :
    Calls Try.prog 56 #[.agg #[.pointer (some ⟨g, 0, none⟩)]] w (MPan 5 fun w' => ∃ a', SX.St w (SX.idsOf (RdL g T sv l (8 * p))) w' (RdL g T sv l a')) := by
  generalize hM : SX.idsOf (RdL g T sv l (8 * p)) = M at *
  obtain ⟨-, -, -, f4, f5, -⟩ := head_get hb h
  have h0 := byB_bd hb h
  have e1 : getV l (8 * p) ((1 : Nat) : Int) = 1 := by
    have : getV l (8 * p) 1 = 1 := by rw [f4]; omega
    exact this
  refine Z.enter Try.func56 rfl Try.ntmps56 rfl rfl ?_
  refine Z.seq ?_
  refine Z.region ?_
  refine Z.le rfl trivial ?_
  refine Z.ZO.box rfl rfl (by rfl) rfl rfl hs ?_
  clear hs; intro g1 w1 hs
  refine Z.lb 1 rfl ?_
  refine Z.lnil ?_
  refine Z.only [1] rfl ?_
  refine Z.nthen ?_
  refine Z.seq ?_
  refine Z.drawL [SX.Ent.blk g1 88 #[.pointer (some ⟨g, 0, none⟩)]] (fun _ => true) mixed hs ?_
  clear hs; intro wd1 hs
  refine Z.t 1 rfl rfl rfl (by rfl) (by kernel_rfl) ⟨_, hs, by first | (simp; done) | exact fun e he => List.mem_append_right _ he⟩ (by first | exact Z.Yd.loadA _ rfl Try.isAgg88 (fun _ => Z.cellsB (by first | ((repeat (first | exact List.mem_cons_self | refine List.mem_cons_of_mem _ ?_ | refine List.mem_append_right _ ?_)); done) | fail)) (by exact Try.sizeOf88) | fail "load 1.1") ?_
  refine Z.fork2 0 4 rfl rfl rfl (by kernel_rfl) rfl rfl trivial trivial ?_ ?_
  · skip
    refine Z.ZO.call rfl rfl (by rfl) rfl rfl Try.call36 rfl (mc_formats _) ?_
    rintro v1_0 w1_0 ⟨rfl, hy⟩
    replace hs := hs.call hy
    clear hy
    try simp only [List.cons_append, List.nil_append, List.append_nil] at hs
    refine Z.tk (Dn := fun _ => true) (i := 0) (fun _ => ⟨_, hs, by first | (simp; done) | exact fun e he => List.mem_append_right _ he⟩) ?_
    refine Z.fork2 2 4 rfl rfl rfl (by kernel_rfl) rfl rfl trivial trivial ?_ ?_
    · skip
      first
      | replace hs : SX.St w M _ (RdL g T sv l (8 * p) ++ [_]) := hs.rot (L1 := [_])
      | replace hs : SX.St w M _ (RdL g T sv l (8 * p) ++ [_, _]) := hs.rot (L1 := [_, _])
      refine Z.ZO.call rfl rfl (by rfl) rfl rfl Try.call55 rfl (mm_bits_ok g T sv l (8 * p) 1 _ hs.lend hl hb (by omega) (by omega)) ?_
      rintro v1_2 w1_2 ⟨rfl, hz⟩
      replace hs := hs.regain hz
      rw [e1]
      simp only [RdL, List.cons_append, List.nil_append] at hs
      refine Z.tk (Dn := fun _ => true) (i := 2) (fun _ => ⟨_, hs, by first | (simp; done) | exact fun e he => List.mem_append_right _ he⟩) ?_
      refine Z.t 3 rfl rfl rfl (by rfl) (by kernel_rfl) ⟨_, hs, by first | (simp; done) | exact fun e he => List.mem_append_right _ he⟩ (Z.Yd.index (v := .agg #[.int .u64 1, .int .i64 15, .int .i64 32767]) rfl rfl (by intro _ w; kernel_rfl)) ?_
      refine Z.tn 4 rfl rfl (by kernel_rfl) rfl trivial ?_
      refine Z.ZO.alloc rfl rfl (by rfl) Try.zeroValue75 rfl hs ?_
      clear hs; intro g3 w3 hs
      refine Z.tk (Dn := fun _ => true) (i := 4) (fun _ => ⟨_, hs, by first | (simp; done) | exact fun e he => List.mem_append_right _ he⟩) ?_
      refine Z.tn 5 rfl rfl (by kernel_rfl) rfl trivial ?_
      first | refine Z.ZO.storeA rfl rfl hs rfl rfl (by kernel_rfl) (by first | (simp [Value.oneCell']; done) | (refine Z.all_one ?_; assumption)) (by first | exact SX.at0 | exact SX.at1 | exact SX.at2 | exact SX.at3 | exact SX.at4 | exact SX.at5 | exact Z.at6 | exact Z.at7 | exact Z.at8 | exact Z.at9 | exact Z.at10 | exact Z.at11 | exact Z.at12) (by rfl) ?_ | refine Z.ZO.storeP rfl rfl hs rfl rfl (by kernel_rfl) (by first | (simp [Value.oneCell']; done) | (refine Z.all_one ?_; assumption)) (by first | exact SX.at0 | exact SX.at1 | exact SX.at2 | exact SX.at3 | exact SX.at4 | exact SX.at5 | exact Z.at6 | exact Z.at7 | exact Z.at8 | exact Z.at9 | exact Z.at10 | exact Z.at11 | exact Z.at12) (by first | decide | (simp; done) | (simp; omega)) ?_ | refine Z.ZO.storePR rfl rfl hs rfl rfl (by kernel_rfl) (by first | (simp [Value.oneCell']; done) | (refine Z.all_one ?_; assumption)) (by first | exact SX.at0 | exact SX.at1 | exact SX.at2 | exact SX.at3 | exact SX.at4 | exact SX.at5 | exact Z.at6 | exact Z.at7 | exact Z.at8 | exact Z.at9 | exact Z.at10 | exact Z.at11 | exact Z.at12) (by first | decide | (simp; done) | (simp; omega)) ?_
      clear hs; intro ws hs
      simp only [Nat.zero_add, Nat.add_zero, Nat.reduceAdd, Int.reduceToNat, Nat.reduceMul, List.set_cons_zero, List.set_cons_succ, List.setIfInBounds_toArray] at hs
      try simp only [Z.putL, Nat.zero_add] at hs
      refine Z.tk (Dn := fun _ => true) (i := 5) (fun _ => ⟨_, hs, by first | (simp; done) | exact fun e he => List.mem_append_right _ he⟩) ?_
      refine Z.td (by rfl) (by kernel_rfl) ?_
      refine Z.only [1, 3] rfl ?_
      refine Z.nthen ?_
      refine Z.seq ?_
      refine Z.region ?_
      refine Z.l rfl rfl (by rfl) (Z.keepS hs) (by first | exact Z.Yd.loadA _ rfl Try.isAgg88 (fun _ => Z.cellsB (by first | ((repeat (first | exact List.mem_cons_self | refine List.mem_cons_of_mem _ ?_ | refine List.mem_append_right _ ?_)); done) | fail)) (by exact Try.sizeOf88) | fail "load 2.0") ?_
      refine Z.l rfl rfl (by rfl) (Z.keepS hs) (Z.Yd.fieldA (m := 1) rfl (by kernel_rfl)) ?_
      refine Z.l rfl rfl (by rfl) (Z.keepS hs) (by first | exact Z.Yd.load rfl Try.isAgg3 (fun _ => Z.cellB (by first | ((repeat (first | exact List.mem_cons_self | refine List.mem_cons_of_mem _ ?_ | refine List.mem_append_right _ ?_)); done) | fail) rfl) | exact Z.Yd.load rfl Try.isAgg3 (fun _ => Z.cellO (by assumption) (by simp) (by assumption)) | fail "load 2.2") ?_
      first
      | replace hs : SX.St w M _ (RdL g T sv l (8 * p + 1) ++ [SX.Ent.blk g3 _ _, SX.Ent.blk g1 _ _]) := hs.sel [1, 2, 0, 3] (by decide)
      | replace hs : SX.St w M _ (RdL g T sv l (8 * p + 1) ++ [SX.Ent.blk g3 _ _, SX.Ent.blk g1 _ _]) := hs.sel [0, 1, 2, 3] (by decide)
      refine Z.le rfl trivial ?_
      refine Z.ZO.callP rfl rfl rfl Try.call55 rfl (mm_bits_bad g T sv l (8 * p + 1) 15 _ hs.lend hl hb (by omega) (by omega) (by omega)) ?_
      rintro c2_3 w2_3 ⟨rfl, a', hz⟩
      replace hs := hs.regain hz
      repeat (first | refine Z.pthen ?_ | refine Z.pblock ?_ | refine Z.pscope ?_)
      -- ret#0
      refine Z.outp ?_
      exact ⟨_, rfl, rfl, _, hs.sub (List.sublist_append_left _ _)⟩
    · skip
      refine Z.ZO.alloc rfl rfl (by rfl) Try.zeroValue75 rfl hs ?_
      clear hs; intro g3 w3 hs
      refine Z.tk (Dn := fun _ => true) (i := 4) (fun _ => ⟨_, hs, by first | (simp; done) | exact fun e he => List.mem_append_right _ he⟩) ?_
      first
      | replace hs : SX.St w M _ (RdL g T sv l (8 * p) ++ [_]) := hs.rot (L1 := [_])
      | replace hs : SX.St w M _ (RdL g T sv l (8 * p) ++ [_, _]) := hs.rot (L1 := [_, _])
      refine Z.tn 2 rfl rfl (by kernel_rfl) rfl trivial ?_
      refine Z.ZO.call rfl rfl (by rfl) rfl rfl Try.call55 rfl (mm_bits_ok g T sv l (8 * p) 1 _ hs.lend hl hb (by omega) (by omega)) ?_
      rintro v1_2 w1_2 ⟨rfl, hz⟩
      replace hs := hs.regain hz
      rw [e1]
      simp only [RdL, List.cons_append, List.nil_append] at hs
      refine Z.tk (Dn := fun _ => true) (i := 2) (fun _ => ⟨_, hs, by first | (simp; done) | exact fun e he => List.mem_append_right _ he⟩) ?_
      refine Z.t 3 rfl rfl rfl (by rfl) (by kernel_rfl) ⟨_, hs, by first | (simp; done) | exact fun e he => List.mem_append_right _ he⟩ (Z.Yd.index (v := .agg #[.int .u64 1, .int .i64 15, .int .i64 32767]) rfl rfl (by intro _ w; kernel_rfl)) ?_
      refine Z.tn 5 rfl rfl (by kernel_rfl) rfl trivial ?_
      first | refine Z.ZO.storeA rfl rfl hs rfl rfl (by kernel_rfl) (by first | (simp [Value.oneCell']; done) | (refine Z.all_one ?_; assumption)) (by first | exact SX.at0 | exact SX.at1 | exact SX.at2 | exact SX.at3 | exact SX.at4 | exact SX.at5 | exact Z.at6 | exact Z.at7 | exact Z.at8 | exact Z.at9 | exact Z.at10 | exact Z.at11 | exact Z.at12) (by rfl) ?_ | refine Z.ZO.storeP rfl rfl hs rfl rfl (by kernel_rfl) (by first | (simp [Value.oneCell']; done) | (refine Z.all_one ?_; assumption)) (by first | exact SX.at0 | exact SX.at1 | exact SX.at2 | exact SX.at3 | exact SX.at4 | exact SX.at5 | exact Z.at6 | exact Z.at7 | exact Z.at8 | exact Z.at9 | exact Z.at10 | exact Z.at11 | exact Z.at12) (by first | decide | (simp; done) | (simp; omega)) ?_ | refine Z.ZO.storePR rfl rfl hs rfl rfl (by kernel_rfl) (by first | (simp [Value.oneCell']; done) | (refine Z.all_one ?_; assumption)) (by first | exact SX.at0 | exact SX.at1 | exact SX.at2 | exact SX.at3 | exact SX.at4 | exact SX.at5 | exact Z.at6 | exact Z.at7 | exact Z.at8 | exact Z.at9 | exact Z.at10 | exact Z.at11 | exact Z.at12) (by first | decide | (simp; done) | (simp; omega)) ?_
      clear hs; intro ws hs
      simp only [Nat.zero_add, Nat.add_zero, Nat.reduceAdd, Int.reduceToNat, Nat.reduceMul, List.set_cons_zero, List.set_cons_succ, List.setIfInBounds_toArray] at hs
      try simp only [Z.putL, Nat.zero_add] at hs
      refine Z.tk (Dn := fun _ => true) (i := 5) (fun _ => ⟨_, hs, by first | (simp; done) | exact fun e he => List.mem_append_right _ he⟩) ?_
      refine Z.td (by rfl) (by kernel_rfl) ?_
      refine Z.only [1, 3] rfl ?_
      refine Z.nthen ?_
      refine Z.seq ?_
      refine Z.region ?_
      refine Z.l rfl rfl (by rfl) (Z.keepS hs) (by first | exact Z.Yd.loadA _ rfl Try.isAgg88 (fun _ => Z.cellsB (by first | ((repeat (first | exact List.mem_cons_self | refine List.mem_cons_of_mem _ ?_ | refine List.mem_append_right _ ?_)); done) | fail)) (by exact Try.sizeOf88) | fail "load 2.0") ?_
      refine Z.l rfl rfl (by rfl) (Z.keepS hs) (Z.Yd.fieldA (m := 1) rfl (by kernel_rfl)) ?_
      refine Z.l rfl rfl (by rfl) (Z.keepS hs) (by first | exact Z.Yd.load rfl Try.isAgg3 (fun _ => Z.cellB (by first | ((repeat (first | exact List.mem_cons_self | refine List.mem_cons_of_mem _ ?_ | refine List.mem_append_right _ ?_)); done) | fail) rfl) | exact Z.Yd.load rfl Try.isAgg3 (fun _ => Z.cellO (by assumption) (by simp) (by assumption)) | fail "load 2.2") ?_
      first
      | replace hs : SX.St w M _ (RdL g T sv l (8 * p + 1) ++ [SX.Ent.blk g3 _ _, SX.Ent.blk g1 _ _]) := hs.sel [1, 2, 0, 3] (by decide)
      | replace hs : SX.St w M _ (RdL g T sv l (8 * p + 1) ++ [SX.Ent.blk g3 _ _, SX.Ent.blk g1 _ _]) := hs.sel [0, 1, 2, 3] (by decide)
      refine Z.le rfl trivial ?_
      refine Z.ZO.callP rfl rfl rfl Try.call55 rfl (mm_bits_bad g T sv l (8 * p + 1) 15 _ hs.lend hl hb (by omega) (by omega) (by omega)) ?_
      rintro c2_3 w2_3 ⟨rfl, a', hz⟩
      replace hs := hs.regain hz
      repeat (first | refine Z.pthen ?_ | refine Z.pblock ?_ | refine Z.pscope ?_)
      -- ret#1
      refine Z.outp ?_
      exact ⟨_, rfl, rfl, _, hs.sub (List.sublist_append_left _ _)⟩
  · skip
    refine Z.ZO.alloc rfl rfl (by rfl) Try.zeroValue75 rfl hs ?_
    clear hs; intro g3 w3 hs
    refine Z.tk (Dn := fun _ => true) (i := 4) (fun _ => ⟨_, hs, by first | (simp; done) | exact fun e he => List.mem_append_right _ he⟩) ?_
    refine Z.tn 0 rfl rfl (by kernel_rfl) rfl trivial ?_
    refine Z.ZO.call rfl rfl (by rfl) rfl rfl Try.call36 rfl (mc_formats _) ?_
    rintro v1_0 w1_0 ⟨rfl, hy⟩
    replace hs := hs.call hy
    clear hy
    try simp only [List.cons_append, List.nil_append, List.append_nil] at hs
    refine Z.tk (Dn := fun _ => true) (i := 0) (fun _ => ⟨_, hs, by first | (simp; done) | exact fun e he => List.mem_append_right _ he⟩) ?_
    first
    | replace hs : SX.St w M _ (RdL g T sv l (8 * p) ++ [_]) := hs.rot (L1 := [_])
    | replace hs : SX.St w M _ (RdL g T sv l (8 * p) ++ [_, _]) := hs.rot (L1 := [_, _])
    refine Z.tn 2 rfl rfl (by kernel_rfl) rfl trivial ?_
    refine Z.ZO.call rfl rfl (by rfl) rfl rfl Try.call55 rfl (mm_bits_ok g T sv l (8 * p) 1 _ hs.lend hl hb (by omega) (by omega)) ?_
    rintro v1_2 w1_2 ⟨rfl, hz⟩
    replace hs := hs.regain hz
    rw [e1]
    simp only [RdL, List.cons_append, List.nil_append] at hs
    refine Z.tk (Dn := fun _ => true) (i := 2) (fun _ => ⟨_, hs, by first | (simp; done) | exact fun e he => List.mem_append_right _ he⟩) ?_
    refine Z.t 3 rfl rfl rfl (by rfl) (by kernel_rfl) ⟨_, hs, by first | (simp; done) | exact fun e he => List.mem_append_right _ he⟩ (Z.Yd.index (v := .agg #[.int .u64 1, .int .i64 15, .int .i64 32767]) rfl rfl (by intro _ w; kernel_rfl)) ?_
    refine Z.tn 5 rfl rfl (by kernel_rfl) rfl trivial ?_
    first | refine Z.ZO.storeA rfl rfl hs rfl rfl (by kernel_rfl) (by first | (simp [Value.oneCell']; done) | (refine Z.all_one ?_; assumption)) (by first | exact SX.at0 | exact SX.at1 | exact SX.at2 | exact SX.at3 | exact SX.at4 | exact SX.at5 | exact Z.at6 | exact Z.at7 | exact Z.at8 | exact Z.at9 | exact Z.at10 | exact Z.at11 | exact Z.at12) (by rfl) ?_ | refine Z.ZO.storeP rfl rfl hs rfl rfl (by kernel_rfl) (by first | (simp [Value.oneCell']; done) | (refine Z.all_one ?_; assumption)) (by first | exact SX.at0 | exact SX.at1 | exact SX.at2 | exact SX.at3 | exact SX.at4 | exact SX.at5 | exact Z.at6 | exact Z.at7 | exact Z.at8 | exact Z.at9 | exact Z.at10 | exact Z.at11 | exact Z.at12) (by first | decide | (simp; done) | (simp; omega)) ?_ | refine Z.ZO.storePR rfl rfl hs rfl rfl (by kernel_rfl) (by first | (simp [Value.oneCell']; done) | (refine Z.all_one ?_; assumption)) (by first | exact SX.at0 | exact SX.at1 | exact SX.at2 | exact SX.at3 | exact SX.at4 | exact SX.at5 | exact Z.at6 | exact Z.at7 | exact Z.at8 | exact Z.at9 | exact Z.at10 | exact Z.at11 | exact Z.at12) (by first | decide | (simp; done) | (simp; omega)) ?_
    clear hs; intro ws hs
    simp only [Nat.zero_add, Nat.add_zero, Nat.reduceAdd, Int.reduceToNat, Nat.reduceMul, List.set_cons_zero, List.set_cons_succ, List.setIfInBounds_toArray] at hs
    try simp only [Z.putL, Nat.zero_add] at hs
    refine Z.tk (Dn := fun _ => true) (i := 5) (fun _ => ⟨_, hs, by first | (simp; done) | exact fun e he => List.mem_append_right _ he⟩) ?_
    refine Z.td (by rfl) (by kernel_rfl) ?_
    refine Z.only [1, 3] rfl ?_
    refine Z.nthen ?_
    refine Z.seq ?_
    refine Z.region ?_
    refine Z.l rfl rfl (by rfl) (Z.keepS hs) (by first | exact Z.Yd.loadA _ rfl Try.isAgg88 (fun _ => Z.cellsB (by first | ((repeat (first | exact List.mem_cons_self | refine List.mem_cons_of_mem _ ?_ | refine List.mem_append_right _ ?_)); done) | fail)) (by exact Try.sizeOf88) | fail "load 2.0") ?_
    refine Z.l rfl rfl (by rfl) (Z.keepS hs) (Z.Yd.fieldA (m := 1) rfl (by kernel_rfl)) ?_
    refine Z.l rfl rfl (by rfl) (Z.keepS hs) (by first | exact Z.Yd.load rfl Try.isAgg3 (fun _ => Z.cellB (by first | ((repeat (first | exact List.mem_cons_self | refine List.mem_cons_of_mem _ ?_ | refine List.mem_append_right _ ?_)); done) | fail) rfl) | exact Z.Yd.load rfl Try.isAgg3 (fun _ => Z.cellO (by assumption) (by simp) (by assumption)) | fail "load 2.2") ?_
    first
    | replace hs : SX.St w M _ (RdL g T sv l (8 * p + 1) ++ [SX.Ent.blk g3 _ _, SX.Ent.blk g1 _ _]) := hs.sel [1, 2, 0, 3] (by decide)
    | replace hs : SX.St w M _ (RdL g T sv l (8 * p + 1) ++ [SX.Ent.blk g3 _ _, SX.Ent.blk g1 _ _]) := hs.sel [0, 1, 2, 3] (by decide)
    refine Z.le rfl trivial ?_
    refine Z.ZO.callP rfl rfl rfl Try.call55 rfl (mm_bits_bad g T sv l (8 * p + 1) 15 _ hs.lend hl hb (by omega) (by omega) (by omega)) ?_
    rintro c2_3 w2_3 ⟨rfl, a', hz⟩
    replace hs := hs.regain hz
    repeat (first | refine Z.pthen ?_ | refine Z.pblock ?_ | refine Z.pscope ?_)
    -- ret#2
    refine Z.outp ?_
    exact ⟨_, rfl, rfl, _, hs.sub (List.sublist_append_left _ _)⟩
set_option maxHeartbeats 1000000 in
set_option maxRecDepth 100000 in
theorem ml_long (g T : Nat) (sv : Value) (l : List Int) (p : Nat) (w : World) (hs : SX.St w (SX.idsOf (RdL g T sv l (8 * p))) w (RdL g T sv l (8 * p))) (hl : l.length ≤ 1000000) (hb : ∀ x ∈ l, 0 ≤ x ∧ x < 256) (h : p < l.length) (h1 : ¬ byB l p < 128) (h2 : p + 1 < l.length) (V : Int) (hV : byB l p % 128 * 256 + byB l (p + 1) = V) :
    Calls Try.prog 56 #[.agg #[.pointer (some ⟨g, 0, none⟩)]] w (Z.Bo (fun v w' => 127 < V ∧ v = .int .i64 V ∧ SX.St w (SX.idsOf (RdL g T sv l (8 * p))) w' (RdL g T sv l (8 * (p + 2)))) fun c w' => ¬ 127 < V ∧ c = mperr 9 ∧ ∃ a', SX.St w (SX.idsOf (RdL g T sv l (8 * p))) w' (RdL g T sv l a')) := by
  generalize hM : SX.idsOf (RdL g T sv l (8 * p)) = M at *
  obtain ⟨-, -, -, f4, f5, -⟩ := head_get hb h
  have f6 := long_get hb h2
  have h0 := byB_bd hb h
  have h0' := byB_bd hb h2
  have e1 : getV l (8 * p) ((1 : Nat) : Int) = 1 := by
    have : getV l (8 * p) 1 = 1 := by rw [f4]; omega
    exact this
  have e2 : getV l (8 * p + 1) ((15 : Nat) : Int) = V := by
    rw [← hV]
    exact f6
  have hV0 : 0 ≤ V := by omega
  refine Z.enter Try.func56 rfl Try.ntmps56 rfl rfl ?_
  refine Z.seq ?_
  refine Z.region ?_
  refine Z.le rfl trivial ?_
  refine Z.ZO.box rfl rfl (by rfl) rfl rfl hs ?_
  clear hs; intro g1 w1 hs
  refine Z.lb 1 rfl ?_
  refine Z.lnil ?_
  refine Z.only [1] rfl ?_
  refine Z.nthen ?_
  refine Z.seq ?_
  refine Z.drawL [SX.Ent.blk g1 88 #[.pointer (some ⟨g, 0, none⟩)]] (fun _ => true) mixed hs ?_
  clear hs; intro wd1 hs
  refine Z.t 1 rfl rfl rfl (by rfl) (by kernel_rfl) ⟨_, hs, by first | (simp; done) | exact fun e he => List.mem_append_right _ he⟩ (by first | exact Z.Yd.loadA _ rfl Try.isAgg88 (fun _ => Z.cellsB (by first | ((repeat (first | exact List.mem_cons_self | refine List.mem_cons_of_mem _ ?_ | refine List.mem_append_right _ ?_)); done) | fail)) (by exact Try.sizeOf88) | fail "load 1.1") ?_
  refine Z.fork2 0 4 rfl rfl rfl (by kernel_rfl) rfl rfl trivial trivial ?_ ?_
  · skip
    refine Z.ZO.call rfl rfl (by rfl) rfl rfl Try.call36 rfl (mc_formats _) ?_
    rintro v1_0 w1_0 ⟨rfl, hy⟩
    replace hs := hs.call hy
    clear hy
    try simp only [List.cons_append, List.nil_append, List.append_nil] at hs
    refine Z.tk (Dn := fun _ => true) (i := 0) (fun _ => ⟨_, hs, by first | (simp; done) | exact fun e he => List.mem_append_right _ he⟩) ?_
    refine Z.fork2 2 4 rfl rfl rfl (by kernel_rfl) rfl rfl trivial trivial ?_ ?_
    · skip
      first
      | replace hs : SX.St w M _ (RdL g T sv l (8 * p) ++ [_]) := hs.rot (L1 := [_])
      | replace hs : SX.St w M _ (RdL g T sv l (8 * p) ++ [_, _]) := hs.rot (L1 := [_, _])
      refine Z.ZO.call rfl rfl (by rfl) rfl rfl Try.call55 rfl (mm_bits_ok g T sv l (8 * p) 1 _ hs.lend hl hb (by omega) (by omega)) ?_
      rintro v1_2 w1_2 ⟨rfl, hz⟩
      replace hs := hs.regain hz
      rw [e1]
      simp only [RdL, List.cons_append, List.nil_append] at hs
      refine Z.tk (Dn := fun _ => true) (i := 2) (fun _ => ⟨_, hs, by first | (simp; done) | exact fun e he => List.mem_append_right _ he⟩) ?_
      refine Z.t 3 rfl rfl rfl (by rfl) (by kernel_rfl) ⟨_, hs, by first | (simp; done) | exact fun e he => List.mem_append_right _ he⟩ (Z.Yd.index (v := .agg #[.int .u64 1, .int .i64 15, .int .i64 32767]) rfl rfl (by intro _ w; kernel_rfl)) ?_
      refine Z.tn 4 rfl rfl (by kernel_rfl) rfl trivial ?_
      refine Z.ZO.alloc rfl rfl (by rfl) Try.zeroValue75 rfl hs ?_
      clear hs; intro g3 w3 hs
      refine Z.tk (Dn := fun _ => true) (i := 4) (fun _ => ⟨_, hs, by first | (simp; done) | exact fun e he => List.mem_append_right _ he⟩) ?_
      refine Z.tn 5 rfl rfl (by kernel_rfl) rfl trivial ?_
      first | refine Z.ZO.storeA rfl rfl hs rfl rfl (by kernel_rfl) (by first | (simp [Value.oneCell']; done) | (refine Z.all_one ?_; assumption)) (by first | exact SX.at0 | exact SX.at1 | exact SX.at2 | exact SX.at3 | exact SX.at4 | exact SX.at5 | exact Z.at6 | exact Z.at7 | exact Z.at8 | exact Z.at9 | exact Z.at10 | exact Z.at11 | exact Z.at12) (by rfl) ?_ | refine Z.ZO.storeP rfl rfl hs rfl rfl (by kernel_rfl) (by first | (simp [Value.oneCell']; done) | (refine Z.all_one ?_; assumption)) (by first | exact SX.at0 | exact SX.at1 | exact SX.at2 | exact SX.at3 | exact SX.at4 | exact SX.at5 | exact Z.at6 | exact Z.at7 | exact Z.at8 | exact Z.at9 | exact Z.at10 | exact Z.at11 | exact Z.at12) (by first | decide | (simp; done) | (simp; omega)) ?_ | refine Z.ZO.storePR rfl rfl hs rfl rfl (by kernel_rfl) (by first | (simp [Value.oneCell']; done) | (refine Z.all_one ?_; assumption)) (by first | exact SX.at0 | exact SX.at1 | exact SX.at2 | exact SX.at3 | exact SX.at4 | exact SX.at5 | exact Z.at6 | exact Z.at7 | exact Z.at8 | exact Z.at9 | exact Z.at10 | exact Z.at11 | exact Z.at12) (by first | decide | (simp; done) | (simp; omega)) ?_
      clear hs; intro ws hs
      simp only [Nat.zero_add, Nat.add_zero, Nat.reduceAdd, Int.reduceToNat, Nat.reduceMul, List.set_cons_zero, List.set_cons_succ, List.setIfInBounds_toArray] at hs
      try simp only [Z.putL, Nat.zero_add] at hs
      refine Z.tk (Dn := fun _ => true) (i := 5) (fun _ => ⟨_, hs, by first | (simp; done) | exact fun e he => List.mem_append_right _ he⟩) ?_
      refine Z.td (by rfl) (by kernel_rfl) ?_
      refine Z.only [1, 3] rfl ?_
      refine Z.nthen ?_
      refine Z.seq ?_
      refine Z.region ?_
      refine Z.l rfl rfl (by rfl) (Z.keepS hs) (by first | exact Z.Yd.loadA _ rfl Try.isAgg88 (fun _ => Z.cellsB (by first | ((repeat (first | exact List.mem_cons_self | refine List.mem_cons_of_mem _ ?_ | refine List.mem_append_right _ ?_)); done) | fail)) (by exact Try.sizeOf88) | fail "load 2.0") ?_
      refine Z.l rfl rfl (by rfl) (Z.keepS hs) (Z.Yd.fieldA (m := 1) rfl (by kernel_rfl)) ?_
      refine Z.l rfl rfl (by rfl) (Z.keepS hs) (by first | exact Z.Yd.load rfl Try.isAgg3 (fun _ => Z.cellB (by first | ((repeat (first | exact List.mem_cons_self | refine List.mem_cons_of_mem _ ?_ | refine List.mem_append_right _ ?_)); done) | fail) rfl) | exact Z.Yd.load rfl Try.isAgg3 (fun _ => Z.cellO (by assumption) (by simp) (by assumption)) | fail "load 2.2") ?_
      first
      | replace hs : SX.St w M _ (RdL g T sv l (8 * p + 1) ++ [SX.Ent.blk g3 _ _, SX.Ent.blk g1 _ _]) := hs.sel [1, 2, 0, 3] (by decide)
      | replace hs : SX.St w M _ (RdL g T sv l (8 * p + 1) ++ [SX.Ent.blk g3 _ _, SX.Ent.blk g1 _ _]) := hs.sel [0, 1, 2, 3] (by decide)
      refine Z.le rfl trivial ?_
      refine Z.ZO.call rfl rfl (by rfl) rfl rfl Try.call55 rfl (mm_bits_ok g T sv l (8 * p + 1) 15 _ hs.lend hl hb (by omega) (by omega)) ?_
      rintro v2_3 w2_3 ⟨rfl, hz⟩
      replace hs := hs.regain hz
      rw [e2]
      simp only [RdL, List.cons_append, List.nil_append] at hs
      refine Z.lb 1 rfl ?_
      refine Z.lnil ?_
      refine Z.only [3, 4] rfl ?_
      refine Z.nthen ?_
      refine Z.seq ?_
      refine Z.region ?_
      refine Z.lb 3 rfl ?_
      refine Z.split (s := 15) rfl (fun hsp15 => ?_) (fun hsp15 => ?_)
      · first
          | (exfalso; simp at hsp15 <;> omega)
          | (
            refine Z.yes (s := 15) (b := true) rfl hsp15 rfl ?_
            (try simp at hsp15)
            refine Z.l rfl rfl (by rfl) (Z.keepS hs) (Z.Yd.fieldA (m := 0) rfl (by kernel_rfl)) ?_
            refine Z.l rfl rfl (by rfl) (Z.keepS hs) (by first | exact Z.Yd.load rfl Try.isAgg68 (fun _ => Z.cellB (by first | ((repeat (first | exact List.mem_cons_self | refine List.mem_cons_of_mem _ ?_ | refine List.mem_append_right _ ?_)); done) | fail) rfl) | exact Z.Yd.load rfl Try.isAgg68 (fun _ => Z.cellO (by assumption) (by simp) (by assumption)) | fail "load 3.4") ?_
            refine Z.lb 2 rfl ?_
            refine Z.yes (s := 15) (b := true) rfl rfl rfl ?_
            refine Z.yes (s := 19) (b := false) rfl ((by simp)) rfl ?_
            refine Z.lb 1 rfl ?_
            refine Z.yes (s := 19) (b := false) rfl rfl rfl ?_
            refine Z.le rfl (by exact ⟨rfl, trivial⟩) ?_
            refine Z.ZO.call rfl rfl (by rfl) rfl rfl Try.call36 rfl (mc_formats _) ?_
            rintro v3_8 w3_8 ⟨rfl, hy⟩
            replace hs := hs.call hy
            clear hy
            try simp only [List.cons_append, List.nil_append, List.append_nil] at hs
            refine Z.l rfl rfl (by rfl) (Z.keepS hs) (Z.Yd.index (v := .agg #[.int .u64 0, .int .i64 7, .int .i64 127]) rfl rfl (by intro _ w; kernel_rfl)) ?_
            refine Z.l rfl rfl (by rfl) (Z.keepS hs) (by first | exact Z.Yd.fieldL 2 1 rfl rfl (by intro w; kernel_rfl) | exact Z.Yd.field rfl (by intro w; go_simp; try rfl)) ?_
            refine Z.lb 1 rfl ?_
            refine Z.yes (s := 19) (b := false) rfl rfl rfl ?_
            refine Z.l rfl rfl (by rfl) (Z.keepS hs) (Z.Yd.pickF rfl rfl) ?_
            refine Z.yes (s := 15) (b := true) rfl rfl rfl ?_
            refine Z.l rfl rfl (by rfl) (Z.keepS hs) (Z.Yd.pickT rfl rfl) ?_
            refine Z.le rfl trivial ?_
            refine Z.ZO.callB rfl rfl (by rfl) rfl rfl Try.call31 rfl (mm_must_any _ 9 _) ?_ ?_
            · skip
              rintro v3_14 w3_14 ⟨hm, rfl, hy⟩
              replace hs := hs.call hy
              clear hy
              try simp only [List.cons_append, List.nil_append, List.append_nil] at hs
              refine Z.lnil ?_
              refine Z.only [4] rfl ?_
              refine Z.nthen ?_
              refine Z.seq ?_
              refine Z.region ?_
              refine Z.lb 2 rfl ?_
              refine Z.lnil ?_
              refine Z.only [2] rfl ?_
              refine Z.nthen ?_
              refine Z.ret ?_
              -- ret#0
              refine Z.out1 (by exact ⟨rfl, trivial⟩) ?_
              exact .inl ⟨_, rfl, by first | omega | (simp at hm <;> omega), rfl, hs.sel [0, 1] (by decide)⟩
            · skip
              rintro c3_14 w3_14 ⟨hm, rfl, hy⟩
              replace hs := hs.call hy
              clear hy
              try simp only [List.cons_append, List.nil_append, List.append_nil] at hs
              repeat (first | refine Z.pthen ?_ | refine Z.pblock ?_ | refine Z.pscope ?_)
              -- ret#1
              refine Z.outp ?_
              exact .inr ⟨_, rfl, by first | omega | (simp at hm <;> omega), rfl, _, hs.sel [0, 1] (by decide)⟩
            )
      · first
          | (exfalso; simp at hsp15 <;> omega)
          | (
            refine Z.yes (s := 15) (b := false) rfl hsp15 rfl ?_
            (try simp at hsp15)
            refine Z.ls rfl rfl rfl (by rfl) ?_
            refine Z.ls rfl rfl rfl (by rfl) ?_
            refine Z.ls rfl rfl rfl (by rfl) ?_
            refine Z.ls rfl rfl rfl (by rfl) ?_
            refine Z.lsU rfl rfl rfl (by rfl) ?_
            refine Z.lsU rfl rfl rfl (by rfl) ?_
            refine Z.lsU rfl rfl rfl (by rfl) ?_
            refine Z.lsU rfl rfl rfl (by rfl) ?_
            refine Z.lsU rfl rfl rfl (by rfl) ?_
            refine Z.ls rfl rfl rfl (by rfl) ?_
            refine Z.l rfl rfl (by rfl) (Z.keepS hs) (Z.Yd.pickF rfl rfl) ?_
            refine Z.le rfl trivial ?_
            refine Z.ZO.callB rfl rfl (by rfl) rfl rfl Try.call31 rfl (mm_must_any _ 9 _) ?_ ?_
            · skip
              rintro v3_14 w3_14 ⟨hm, rfl, hy⟩
              replace hs := hs.call hy
              clear hy
              try simp only [List.cons_append, List.nil_append, List.append_nil] at hs
              refine Z.lnil ?_
              refine Z.only [4] rfl ?_
              refine Z.nthen ?_
              refine Z.seq ?_
              refine Z.region ?_
              refine Z.lb 2 rfl ?_
              refine Z.lnil ?_
              refine Z.only [2] rfl ?_
              refine Z.nthen ?_
              refine Z.ret ?_
              -- ret#2
              refine Z.out1 (by exact ⟨rfl, trivial⟩) ?_
              exact .inl ⟨_, rfl, by first | omega | (simp at hm <;> omega), rfl, hs.sel [0, 1] (by decide)⟩
            · skip
              rintro c3_14 w3_14 ⟨hm, rfl, hy⟩
              replace hs := hs.call hy
              clear hy
              try simp only [List.cons_append, List.nil_append, List.append_nil] at hs
              repeat (first | refine Z.pthen ?_ | refine Z.pblock ?_ | refine Z.pscope ?_)
              -- ret#3
              refine Z.outp ?_
              exact .inr ⟨_, rfl, by first | omega | (simp at hm <;> omega), rfl, _, hs.sel [0, 1] (by decide)⟩
            )
    · skip
      refine Z.ZO.alloc rfl rfl (by rfl) Try.zeroValue75 rfl hs ?_
      clear hs; intro g3 w3 hs
      refine Z.tk (Dn := fun _ => true) (i := 4) (fun _ => ⟨_, hs, by first | (simp; done) | exact fun e he => List.mem_append_right _ he⟩) ?_
      first
      | replace hs : SX.St w M _ (RdL g T sv l (8 * p) ++ [_]) := hs.rot (L1 := [_])
      | replace hs : SX.St w M _ (RdL g T sv l (8 * p) ++ [_, _]) := hs.rot (L1 := [_, _])
      refine Z.tn 2 rfl rfl (by kernel_rfl) rfl trivial ?_
      refine Z.ZO.call rfl rfl (by rfl) rfl rfl Try.call55 rfl (mm_bits_ok g T sv l (8 * p) 1 _ hs.lend hl hb (by omega) (by omega)) ?_
      rintro v1_2 w1_2 ⟨rfl, hz⟩
      replace hs := hs.regain hz
      rw [e1]
      simp only [RdL, List.cons_append, List.nil_append] at hs
      refine Z.tk (Dn := fun _ => true) (i := 2) (fun _ => ⟨_, hs, by first | (simp; done) | exact fun e he => List.mem_append_right _ he⟩) ?_
      refine Z.t 3 rfl rfl rfl (by rfl) (by kernel_rfl) ⟨_, hs, by first | (simp; done) | exact fun e he => List.mem_append_right _ he⟩ (Z.Yd.index (v := .agg #[.int .u64 1, .int .i64 15, .int .i64 32767]) rfl rfl (by intro _ w; kernel_rfl)) ?_
      refine Z.tn 5 rfl rfl (by kernel_rfl) rfl trivial ?_
      first | refine Z.ZO.storeA rfl rfl hs rfl rfl (by kernel_rfl) (by first | (simp [Value.oneCell']; done) | (refine Z.all_one ?_; assumption)) (by first | exact SX.at0 | exact SX.at1 | exact SX.at2 | exact SX.at3 | exact SX.at4 | exact SX.at5 | exact Z.at6 | exact Z.at7 | exact Z.at8 | exact Z.at9 | exact Z.at10 | exact Z.at11 | exact Z.at12) (by rfl) ?_ | refine Z.ZO.storeP rfl rfl hs rfl rfl (by kernel_rfl) (by first | (simp [Value.oneCell']; done) | (refine Z.all_one ?_; assumption)) (by first | exact SX.at0 | exact SX.at1 | exact SX.at2 | exact SX.at3 | exact SX.at4 | exact SX.at5 | exact Z.at6 | exact Z.at7 | exact Z.at8 | exact Z.at9 | exact Z.at10 | exact Z.at11 | exact Z.at12) (by first | decide | (simp; done) | (simp; omega)) ?_ | refine Z.ZO.storePR rfl rfl hs rfl rfl (by kernel_rfl) (by first | (simp [Value.oneCell']; done) | (refine Z.all_one ?_; assumption)) (by first | exact SX.at0 | exact SX.at1 | exact SX.at2 | exact SX.at3 | exact SX.at4 | exact SX.at5 | exact Z.at6 | exact Z.at7 | exact Z.at8 | exact Z.at9 | exact Z.at10 | exact Z.at11 | exact Z.at12) (by first | decide | (simp; done) | (simp; omega)) ?_
      clear hs; intro ws hs
      simp only [Nat.zero_add, Nat.add_zero, Nat.reduceAdd, Int.reduceToNat, Nat.reduceMul, List.set_cons_zero, List.set_cons_succ, List.setIfInBounds_toArray] at hs
      try simp only [Z.putL, Nat.zero_add] at hs
      refine Z.tk (Dn := fun _ => true) (i := 5) (fun _ => ⟨_, hs, by first | (simp; done) | exact fun e he => List.mem_append_right _ he⟩) ?_
      refine Z.td (by rfl) (by kernel_rfl) ?_
      refine Z.only [1, 3] rfl ?_
      refine Z.nthen ?_
      refine Z.seq ?_
      refine Z.region ?_
      refine Z.l rfl rfl (by rfl) (Z.keepS hs) (by first | exact Z.Yd.loadA _ rfl Try.isAgg88 (fun _ => Z.cellsB (by first | ((repeat (first | exact List.mem_cons_self | refine List.mem_cons_of_mem _ ?_ | refine List.mem_append_right _ ?_)); done) | fail)) (by exact Try.sizeOf88) | fail "load 2.0") ?_
      refine Z.l rfl rfl (by rfl) (Z.keepS hs) (Z.Yd.fieldA (m := 1) rfl (by kernel_rfl)) ?_
      refine Z.l rfl rfl (by rfl) (Z.keepS hs) (by first | exact Z.Yd.load rfl Try.isAgg3 (fun _ => Z.cellB (by first | ((repeat (first | exact List.mem_cons_self | refine List.mem_cons_of_mem _ ?_ | refine List.mem_append_right _ ?_)); done) | fail) rfl) | exact Z.Yd.load rfl Try.isAgg3 (fun _ => Z.cellO (by assumption) (by simp) (by assumption)) | fail "load 2.2") ?_
      first
      | replace hs : SX.St w M _ (RdL g T sv l (8 * p + 1) ++ [SX.Ent.blk g3 _ _, SX.Ent.blk g1 _ _]) := hs.sel [1, 2, 0, 3] (by decide)
      | replace hs : SX.St w M _ (RdL g T sv l (8 * p + 1) ++ [SX.Ent.blk g3 _ _, SX.Ent.blk g1 _ _]) := hs.sel [0, 1, 2, 3] (by decide)
      refine Z.le rfl trivial ?_
      refine Z.ZO.call rfl rfl (by rfl) rfl rfl Try.call55 rfl (mm_bits_ok g T sv l (8 * p + 1) 15 _ hs.lend hl hb (by omega) (by omega)) ?_
      rintro v2_3 w2_3 ⟨rfl, hz⟩
      replace hs := hs.regain hz
      rw [e2]
      simp only [RdL, List.cons_append, List.nil_append] at hs
      refine Z.lb 1 rfl ?_
      refine Z.lnil ?_
      refine Z.only [3, 4] rfl ?_
      refine Z.nthen ?_
      refine Z.seq ?_
      refine Z.region ?_
      refine Z.lb 3 rfl ?_
      refine Z.split (s := 15) rfl (fun hsp15 => ?_) (fun hsp15 => ?_)
      · first
          | (exfalso; simp at hsp15 <;> omega)
          | (
            refine Z.yes (s := 15) (b := true) rfl hsp15 rfl ?_
            (try simp at hsp15)
            refine Z.l rfl rfl (by rfl) (Z.keepS hs) (Z.Yd.fieldA (m := 0) rfl (by kernel_rfl)) ?_
            refine Z.l rfl rfl (by rfl) (Z.keepS hs) (by first | exact Z.Yd.load rfl Try.isAgg68 (fun _ => Z.cellB (by first | ((repeat (first | exact List.mem_cons_self | refine List.mem_cons_of_mem _ ?_ | refine List.mem_append_right _ ?_)); done) | fail) rfl) | exact Z.Yd.load rfl Try.isAgg68 (fun _ => Z.cellO (by assumption) (by simp) (by assumption)) | fail "load 3.4") ?_
            refine Z.lb 2 rfl ?_
            refine Z.yes (s := 15) (b := true) rfl rfl rfl ?_
            refine Z.yes (s := 19) (b := false) rfl ((by simp)) rfl ?_
            refine Z.lb 1 rfl ?_
            refine Z.yes (s := 19) (b := false) rfl rfl rfl ?_
            refine Z.le rfl (by exact ⟨rfl, trivial⟩) ?_
            refine Z.ZO.call rfl rfl (by rfl) rfl rfl Try.call36 rfl (mc_formats _) ?_
            rintro v3_8 w3_8 ⟨rfl, hy⟩
            replace hs := hs.call hy
            clear hy
            try simp only [List.cons_append, List.nil_append, List.append_nil] at hs
            refine Z.l rfl rfl (by rfl) (Z.keepS hs) (Z.Yd.index (v := .agg #[.int .u64 0, .int .i64 7, .int .i64 127]) rfl rfl (by intro _ w; kernel_rfl)) ?_
            refine Z.l rfl rfl (by rfl) (Z.keepS hs) (by first | exact Z.Yd.fieldL 2 1 rfl rfl (by intro w; kernel_rfl) | exact Z.Yd.field rfl (by intro w; go_simp; try rfl)) ?_
            refine Z.lb 1 rfl ?_
            refine Z.yes (s := 19) (b := false) rfl rfl rfl ?_
            refine Z.l rfl rfl (by rfl) (Z.keepS hs) (Z.Yd.pickF rfl rfl) ?_
            refine Z.yes (s := 15) (b := true) rfl rfl rfl ?_
            refine Z.l rfl rfl (by rfl) (Z.keepS hs) (Z.Yd.pickT rfl rfl) ?_
            refine Z.le rfl trivial ?_
            refine Z.ZO.callB rfl rfl (by rfl) rfl rfl Try.call31 rfl (mm_must_any _ 9 _) ?_ ?_
            · skip
              rintro v3_14 w3_14 ⟨hm, rfl, hy⟩
              replace hs := hs.call hy
              clear hy
              try simp only [List.cons_append, List.nil_append, List.append_nil] at hs
              refine Z.lnil ?_
              refine Z.only [4] rfl ?_
              refine Z.nthen ?_
              refine Z.seq ?_
              refine Z.region ?_
              refine Z.lb 2 rfl ?_
              refine Z.lnil ?_
              refine Z.only [2] rfl ?_
              refine Z.nthen ?_
              refine Z.ret ?_
              -- ret#4
              refine Z.out1 (by exact ⟨rfl, trivial⟩) ?_
              exact .inl ⟨_, rfl, by first | omega | (simp at hm <;> omega), rfl, hs.sel [0, 1] (by decide)⟩
            · skip
              rintro c3_14 w3_14 ⟨hm, rfl, hy⟩
              replace hs := hs.call hy
              clear hy
              try simp only [List.cons_append, List.nil_append, List.append_nil] at hs
              repeat (first | refine Z.pthen ?_ | refine Z.pblock ?_ | refine Z.pscope ?_)
              -- ret#5
              refine Z.outp ?_
              exact .inr ⟨_, rfl, by first | omega | (simp at hm <;> omega), rfl, _, hs.sel [0, 1] (by decide)⟩
            )
      · first
          | (exfalso; simp at hsp15 <;> omega)
          | (
            refine Z.yes (s := 15) (b := false) rfl hsp15 rfl ?_
            (try simp at hsp15)
            refine Z.ls rfl rfl rfl (by rfl) ?_
            refine Z.ls rfl rfl rfl (by rfl) ?_
            refine Z.ls rfl rfl rfl (by rfl) ?_
            refine Z.ls rfl rfl rfl (by rfl) ?_
            refine Z.lsU rfl rfl rfl (by rfl) ?_
            refine Z.lsU rfl rfl rfl (by rfl) ?_
            refine Z.lsU rfl rfl rfl (by rfl) ?_
            refine Z.lsU rfl rfl rfl (by rfl) ?_
            refine Z.lsU rfl rfl rfl (by rfl) ?_
            refine Z.ls rfl rfl rfl (by rfl) ?_
            refine Z.l rfl rfl (by rfl) (Z.keepS hs) (Z.Yd.pickF rfl rfl) ?_
            refine Z.le rfl trivial ?_
            refine Z.ZO.callB rfl rfl (by rfl) rfl rfl Try.call31 rfl (mm_must_any _ 9 _) ?_ ?_
            · skip
              rintro v3_14 w3_14 ⟨hm, rfl, hy⟩
              replace hs := hs.call hy
              clear hy
              try simp only [List.cons_append, List.nil_append, List.append_nil] at hs
              refine Z.lnil ?_
              refine Z.only [4] rfl ?_
              refine Z.nthen ?_
              refine Z.seq ?_
              refine Z.region ?_
              refine Z.lb 2 rfl ?_
              refine Z.lnil ?_
              refine Z.only [2] rfl ?_
              refine Z.nthen ?_
              refine Z.ret ?_
              -- ret#6
              refine Z.out1 (by exact ⟨rfl, trivial⟩) ?_
              exact .inl ⟨_, rfl, by first | omega | (simp at hm <;> omega), rfl, hs.sel [0, 1] (by decide)⟩
            · skip
              rintro c3_14 w3_14 ⟨hm, rfl, hy⟩
              replace hs := hs.call hy
              clear hy
              try simp only [List.cons_append, List.nil_append, List.append_nil] at hs
              repeat (first | refine Z.pthen ?_ | refine Z.pblock ?_ | refine Z.pscope ?_)
              -- ret#7
              refine Z.outp ?_
              exact .inr ⟨_, rfl, by first | omega | (simp at hm <;> omega), rfl, _, hs.sel [0, 1] (by decide)⟩
            )
  · skip
    refine Z.ZO.alloc rfl rfl (by rfl) Try.zeroValue75 rfl hs ?_
    clear hs; intro g3 w3 hs
    refine Z.tk (Dn := fun _ => true) (i := 4) (fun _ => ⟨_, hs, by first | (simp; done) | exact fun e he => List.mem_append_right _ he⟩) ?_
    refine Z.tn 0 rfl rfl (by kernel_rfl) rfl trivial ?_
    refine Z.ZO.call rfl rfl (by rfl) rfl rfl Try.call36 rfl (mc_formats _) ?_
    rintro v1_0 w1_0 ⟨rfl, hy⟩
    replace hs := hs.call hy
    clear hy
    try simp only [List.cons_append, List.nil_append, List.append_nil] at hs
    refine Z.tk (Dn := fun _ => true) (i := 0) (fun _ => ⟨_, hs, by first | (simp; done) | exact fun e he => List.mem_append_right _ he⟩) ?_
    first
    | replace hs : SX.St w M _ (RdL g T sv l (8 * p) ++ [_]) := hs.rot (L1 := [_])
    | replace hs : SX.St w M _ (RdL g T sv l (8 * p) ++ [_, _]) := hs.rot (L1 := [_, _])
    refine Z.tn 2 rfl rfl (by kernel_rfl) rfl trivial ?_
    refine Z.ZO.call rfl rfl (by rfl) rfl rfl Try.call55 rfl (mm_bits_ok g T sv l (8 * p) 1 _ hs.lend hl hb (by omega) (by omega)) ?_
    rintro v1_2 w1_2 ⟨rfl, hz⟩
    replace hs := hs.regain hz
    rw [e1]
    simp only [RdL, List.cons_append, List.nil_append] at hs
    refine Z.tk (Dn := fun _ => true) (i := 2) (fun _ => ⟨_, hs, by first | (simp; done) | exact fun e he => List.mem_append_right _ he⟩) ?_
    refine Z.t 3 rfl rfl rfl (by rfl) (by kernel_rfl) ⟨_, hs, by first | (simp; done) | exact fun e he => List.mem_append_right _ he⟩ (Z.Yd.index (v := .agg #[.int .u64 1, .int .i64 15, .int .i64 32767]) rfl rfl (by intro _ w; kernel_rfl)) ?_
    refine Z.tn 5 rfl rfl (by kernel_rfl) rfl trivial ?_
    first | refine Z.ZO.storeA rfl rfl hs rfl rfl (by kernel_rfl) (by first | (simp [Value.oneCell']; done) | (refine Z.all_one ?_; assumption)) (by first | exact SX.at0 | exact SX.at1 | exact SX.at2 | exact SX.at3 | exact SX.at4 | exact SX.at5 | exact Z.at6 | exact Z.at7 | exact Z.at8 | exact Z.at9 | exact Z.at10 | exact Z.at11 | exact Z.at12) (by rfl) ?_ | refine Z.ZO.storeP rfl rfl hs rfl rfl (by kernel_rfl) (by first | (simp [Value.oneCell']; done) | (refine Z.all_one ?_; assumption)) (by first | exact SX.at0 | exact SX.at1 | exact SX.at2 | exact SX.at3 | exact SX.at4 | exact SX.at5 | exact Z.at6 | exact Z.at7 | exact Z.at8 | exact Z.at9 | exact Z.at10 | exact Z.at11 | exact Z.at12) (by first | decide | (simp; done) | (simp; omega)) ?_ | refine Z.ZO.storePR rfl rfl hs rfl rfl (by kernel_rfl) (by first | (simp [Value.oneCell']; done) | (refine Z.all_one ?_; assumption)) (by first | exact SX.at0 | exact SX.at1 | exact SX.at2 | exact SX.at3 | exact SX.at4 | exact SX.at5 | exact Z.at6 | exact Z.at7 | exact Z.at8 | exact Z.at9 | exact Z.at10 | exact Z.at11 | exact Z.at12) (by first | decide | (simp; done) | (simp; omega)) ?_
    clear hs; intro ws hs
    simp only [Nat.zero_add, Nat.add_zero, Nat.reduceAdd, Int.reduceToNat, Nat.reduceMul, List.set_cons_zero, List.set_cons_succ, List.setIfInBounds_toArray] at hs
    try simp only [Z.putL, Nat.zero_add] at hs
    refine Z.tk (Dn := fun _ => true) (i := 5) (fun _ => ⟨_, hs, by first | (simp; done) | exact fun e he => List.mem_append_right _ he⟩) ?_
    refine Z.td (by rfl) (by kernel_rfl) ?_
    refine Z.only [1, 3] rfl ?_
    refine Z.nthen ?_
    refine Z.seq ?_
    refine Z.region ?_
    refine Z.l rfl rfl (by rfl) (Z.keepS hs) (by first | exact Z.Yd.loadA _ rfl Try.isAgg88 (fun _ => Z.cellsB (by first | ((repeat (first | exact List.mem_cons_self | refine List.mem_cons_of_mem _ ?_ | refine List.mem_append_right _ ?_)); done) | fail)) (by exact Try.sizeOf88) | fail "load 2.0") ?_
    refine Z.l rfl rfl (by rfl) (Z.keepS hs) (Z.Yd.fieldA (m := 1) rfl (by kernel_rfl)) ?_
    refine Z.l rfl rfl (by rfl) (Z.keepS hs) (by first | exact Z.Yd.load rfl Try.isAgg3 (fun _ => Z.cellB (by first | ((repeat (first | exact List.mem_cons_self | refine List.mem_cons_of_mem _ ?_ | refine List.mem_append_right _ ?_)); done) | fail) rfl) | exact Z.Yd.load rfl Try.isAgg3 (fun _ => Z.cellO (by assumption) (by simp) (by assumption)) | fail "load 2.2") ?_
    first
    | replace hs : SX.St w M _ (RdL g T sv l (8 * p + 1) ++ [SX.Ent.blk g3 _ _, SX.Ent.blk g1 _ _]) := hs.sel [1, 2, 0, 3] (by decide)
    | replace hs : SX.St w M _ (RdL g T sv l (8 * p + 1) ++ [SX.Ent.blk g3 _ _, SX.Ent.blk g1 _ _]) := hs.sel [0, 1, 2, 3] (by decide)
    refine Z.le rfl trivial ?_
    refine Z.ZO.call rfl rfl (by rfl) rfl rfl Try.call55 rfl (mm_bits_ok g T sv l (8 * p + 1) 15 _ hs.lend hl hb (by omega) (by omega)) ?_
    rintro v2_3 w2_3 ⟨rfl, hz⟩
    replace hs := hs.regain hz
    rw [e2]
    simp only [RdL, List.cons_append, List.nil_append] at hs
    refine Z.lb 1 rfl ?_
    refine Z.lnil ?_
    refine Z.only [3, 4] rfl ?_
    refine Z.nthen ?_
    refine Z.seq ?_
    refine Z.region ?_
    refine Z.lb 3 rfl ?_
    refine Z.split (s := 15) rfl (fun hsp15 => ?_) (fun hsp15 => ?_)
    · first
        | (exfalso; simp at hsp15 <;> omega)
        | (
          refine Z.yes (s := 15) (b := true) rfl hsp15 rfl ?_
          (try simp at hsp15)
          refine Z.l rfl rfl (by rfl) (Z.keepS hs) (Z.Yd.fieldA (m := 0) rfl (by kernel_rfl)) ?_
          refine Z.l rfl rfl (by rfl) (Z.keepS hs) (by first | exact Z.Yd.load rfl Try.isAgg68 (fun _ => Z.cellB (by first | ((repeat (first | exact List.mem_cons_self | refine List.mem_cons_of_mem _ ?_ | refine List.mem_append_right _ ?_)); done) | fail) rfl) | exact Z.Yd.load rfl Try.isAgg68 (fun _ => Z.cellO (by assumption) (by simp) (by assumption)) | fail "load 3.4") ?_
          refine Z.lb 2 rfl ?_
          refine Z.yes (s := 15) (b := true) rfl rfl rfl ?_
          refine Z.yes (s := 19) (b := false) rfl ((by simp)) rfl ?_
          refine Z.lb 1 rfl ?_
          refine Z.yes (s := 19) (b := false) rfl rfl rfl ?_
          refine Z.le rfl (by exact ⟨rfl, trivial⟩) ?_
          refine Z.ZO.call rfl rfl (by rfl) rfl rfl Try.call36 rfl (mc_formats _) ?_
          rintro v3_8 w3_8 ⟨rfl, hy⟩
          replace hs := hs.call hy
          clear hy
          try simp only [List.cons_append, List.nil_append, List.append_nil] at hs
          refine Z.l rfl rfl (by rfl) (Z.keepS hs) (Z.Yd.index (v := .agg #[.int .u64 0, .int .i64 7, .int .i64 127]) rfl rfl (by intro _ w; kernel_rfl)) ?_
          refine Z.l rfl rfl (by rfl) (Z.keepS hs) (by first | exact Z.Yd.fieldL 2 1 rfl rfl (by intro w; kernel_rfl) | exact Z.Yd.field rfl (by intro w; go_simp; try rfl)) ?_
          refine Z.lb 1 rfl ?_
          refine Z.yes (s := 19) (b := false) rfl rfl rfl ?_
          refine Z.l rfl rfl (by rfl) (Z.keepS hs) (Z.Yd.pickF rfl rfl) ?_
          refine Z.yes (s := 15) (b := true) rfl rfl rfl ?_
          refine Z.l rfl rfl (by rfl) (Z.keepS hs) (Z.Yd.pickT rfl rfl) ?_
          refine Z.le rfl trivial ?_
          refine Z.ZO.callB rfl rfl (by rfl) rfl rfl Try.call31 rfl (mm_must_any _ 9 _) ?_ ?_
          · skip
            rintro v3_14 w3_14 ⟨hm, rfl, hy⟩
            replace hs := hs.call hy
            clear hy
            try simp only [List.cons_append, List.nil_append, List.append_nil] at hs
            refine Z.lnil ?_
            refine Z.only [4] rfl ?_
            refine Z.nthen ?_
            refine Z.seq ?_
            refine Z.region ?_
            refine Z.lb 2 rfl ?_
            refine Z.lnil ?_
            refine Z.only [2] rfl ?_
            refine Z.nthen ?_
            refine Z.ret ?_
            -- ret#8
            refine Z.out1 (by exact ⟨rfl, trivial⟩) ?_
            exact .inl ⟨_, rfl, by first | omega | (simp at hm <;> omega), rfl, hs.sel [0, 1] (by decide)⟩
          · skip
            rintro c3_14 w3_14 ⟨hm, rfl, hy⟩
            replace hs := hs.call hy
            clear hy
            try simp only [List.cons_append, List.nil_append, List.append_nil] at hs
            repeat (first | refine Z.pthen ?_ | refine Z.pblock ?_ | refine Z.pscope ?_)
            -- ret#9
            refine Z.outp ?_
            exact .inr ⟨_, rfl, by first | omega | (simp at hm <;> omega), rfl, _, hs.sel [0, 1] (by decide)⟩
          )
    · first
        | (exfalso; simp at hsp15 <;> omega)
        | (
          refine Z.yes (s := 15) (b := false) rfl hsp15 rfl ?_
          (try simp at hsp15)
          refine Z.ls rfl rfl rfl (by rfl) ?_
          refine Z.ls rfl rfl rfl (by rfl) ?_
          refine Z.ls rfl rfl rfl (by rfl) ?_
          refine Z.ls rfl rfl rfl (by rfl) ?_
          refine Z.lsU rfl rfl rfl (by rfl) ?_
          refine Z.lsU rfl rfl rfl (by rfl) ?_
          refine Z.lsU rfl rfl rfl (by rfl) ?_
          refine Z.lsU rfl rfl rfl (by rfl) ?_
          refine Z.lsU rfl rfl rfl (by rfl) ?_
          refine Z.ls rfl rfl rfl (by rfl) ?_
          refine Z.l rfl rfl (by rfl) (Z.keepS hs) (Z.Yd.pickF rfl rfl) ?_
          refine Z.le rfl trivial ?_
          refine Z.ZO.callB rfl rfl (by rfl) rfl rfl Try.call31 rfl (mm_must_any _ 9 _) ?_ ?_
          · skip
            rintro v3_14 w3_14 ⟨hm, rfl, hy⟩
            replace hs := hs.call hy
            clear hy
            try simp only [List.cons_append, List.nil_append, List.append_nil] at hs
            refine Z.lnil ?_
            refine Z.only [4] rfl ?_
            refine Z.nthen ?_
            refine Z.seq ?_
            refine Z.region ?_
            refine Z.lb 2 rfl ?_
            refine Z.lnil ?_
            refine Z.only [2] rfl ?_
            refine Z.nthen ?_
            refine Z.ret ?_
            -- ret#10
            refine Z.out1 (by exact ⟨rfl, trivial⟩) ?_
            exact .inl ⟨_, rfl, by first | omega | (simp at hm <;> omega), rfl, hs.sel [0, 1] (by decide)⟩
          · skip
            rintro c3_14 w3_14 ⟨hm, rfl, hy⟩
            replace hs := hs.call hy
            clear hy
            try simp only [List.cons_append, List.nil_append, List.append_nil] at hs
            repeat (first | refine Z.pthen ?_ | refine Z.pblock ?_ | refine Z.pscope ?_)
            -- ret#11
            refine Z.outp ?_
            exact .inr ⟨_, rfl, by first | omega | (simp at hm <;> omega), rfl, _, hs.sel [0, 1] (by decide)⟩
          )
theorem mm_length (g T : Nat) (sv : Value) (l : List Int) (p : Nat) (w : World) (hs : SX.St w (SX.idsOf (RdL g T sv l (8 * p))) w (RdL g T sv l (8 * p))) (hl : l.length ≤ 1000000) (hb : ∀ x ∈ l, 0 ≤ x ∧ x < 256) (hp : p ≤ l.length) :
    Calls Try.prog 56 #[.agg #[.pointer (some ⟨g, 0, none⟩)]] w (LenR g T sv l p w) := by
  by_cases h : p < l.length
  · by_cases h1 : byB l p < 128
    · have eE : lnE l p = if byB l p = 0 then 9 else 0 := by unfold lnE; rw [if_neg (fun k => k h), if_pos h1]
      have eV : lnV l p = byB l p := by unfold lnV; rw [if_pos h1]
      have eP : lnP l p = p + 1 := by unfold lnP; rw [if_pos h1]
      unfold LenR
      rw [eE, eV, eP]
      refine (ml_short g T sv l p w hs hl hb h h1).mono ?_
      rintro e w' (⟨v, rfl, q1, q2, q3⟩ | ⟨c, rfl, q1, q2, q3⟩)
      · exact .inl ⟨v, rfl, if_neg q1, q2, q3⟩
      · rw [if_pos q1]
        exact .inr ⟨c, rfl, by decide, q2, q3⟩
    · by_cases h2 : p + 1 < l.length
      · have eE : lnE l p = if 127 < byB l p % 128 * 256 + byB l (p + 1) then 0 else 9 := by unfold lnE; rw [if_neg (fun k => k h), if_neg h1, if_neg (fun k => k h2)]
        have eV : lnV l p = byB l p % 128 * 256 + byB l (p + 1) := by unfold lnV; rw [if_neg h1]
        have eP : lnP l p = p + 2 := by unfold lnP; rw [if_neg h1]
        unfold LenR
        rw [eE, eV, eP]
        refine (ml_long g T sv l p w hs hl hb h h1 h2 _ rfl).mono ?_
        rintro e w' (⟨v, rfl, q1, q2, q3⟩ | ⟨c, rfl, q1, q2, q3⟩)
        · exact .inl ⟨v, rfl, if_pos q1, q2, q3⟩
        · rw [if_neg q1]
          exact .inr ⟨c, rfl, by decide, q2, q3⟩
      · have eE : lnE l p = 5 := by unfold lnE; rw [if_neg (fun k => k h), if_neg h1, if_pos h2]
        refine Z.Bo.pan ((ml_cut g T sv l p w hs hl hb h h1 h2).mono ?_)
        rintro e w' ⟨c, rfl, q1, q2⟩
        exact ⟨c, rfl, by rw [eE]; decide, by rw [eE]; exact q1, q2⟩
  · have eE : lnE l p = 5 := by unfold lnE; rw [if_pos h]
    refine Z.Bo.pan ((ml_none g T sv l p w hs hl hb hp h).mono ?_)
    rintro e w' ⟨c, rfl, q1, q2⟩
    exact ⟨c, rfl, by rw [eE]; decide, by rw [eE]; exact q1, q2⟩
end Go.Proofs.Ytogjkgoiofngaaa
