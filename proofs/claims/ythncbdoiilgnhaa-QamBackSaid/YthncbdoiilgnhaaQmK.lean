/- Same of points; the law's point and known. -/
import Derived.Test.YthncbdoiilgnhaaQmJ
namespace Go.Proofs.Ythncbdoiilgnhaa
open Go.RowKit
set_option linter.unusedSimpArgs false
set_option linter.unusedVariables false
attribute [local go_sem] Oper.semAt_some

namespace SX
theorem y_loadagg {P : Program} {a : Act} {o : Oper} {S : World → Prop} {T : TypeId} {p : Operand} {b i : Nat} (cs : List Value) (ho : o.op = .load T p) (hagg : ∀ w, (isAgg T).run P w = .ok true w) (hsz : (P.info? T).map (·.size) = some cs.length)
    (hp : a.eval p = .pointer (some ⟨b, i, none⟩)) (hc : ∀ w, S w → ∀ j v, cs[j]? = some v → w.cell? ⟨b, i + j, none⟩ = some v) :
    ∀ w, S w → (execOp a.eval o).run P w = .ok (.value (.agg cs.toArray)) w := fun w hS => by
  have := run_loadVar_agg (w := w) (p := ⟨b, i, none⟩) T hagg hsz (fun j v hv => by
    have hadd : (⟨b, i, none⟩ : Addr).add j = ⟨b, i + j, none⟩ := by unfold Addr.add; split <;> simp_all
    rw [hadd]; exact hc w hS j v hv)
  simp [execOp, ho, hp, Instr.loadAt, Instr.sureAddr, this]
end SX

set_option maxRecDepth 100000 in
set_option maxHeartbeats 1000000 in
theorem sameP_any (A B : Option Addr) (n m c d : Nat) (xs ys : List (Int × Int)) (w : World) (hx : Sl w A (pcells xs)) (hy : Sl w B (pcells ys)) (hlx : xs.length = n) (hly : ys.length = m) (hn : n ≤ 9223372036854775806) (hm : m ≤ 9223372036854775806) :
    Calls Try.prog 15 #[.slice A n c, .slice B m d] w (SX.Ret fun v w' => v = .bool (decide (xs = ys)) ∧ SX.St w [] w' []) := by
  by_cases hnm : n = m
  · subst hnm
    have HX := Lib.hid hlx
    have HY := Lib.hid hly
    clear hlx hly
    refine SX.enter Try.func15 rfl ?_
    simp only [Try.ntmps15, List.size_toArray, List.length_cons, List.length_nil, Nat.reduceAdd, Nat.reduceSub, Array.replicate_succ, Array.replicate_zero, List.push_toArray, List.append_toArray, List.nil_append, List.cons_append]
    gi_wp2
    gi_loopw [5] (fun i wr => ∃ k : Nat, i = .int .i64 (k : Int) ∧ k ≤ n ∧ Hid (xs.take k = ys.take k) ∧ SX.St w [] wr []) (fun i _ => n - (intOf i).toNat)
    case atStart => exact ⟨0, rfl, by omega, Lib.hid rfl, SX.St.start w⟩
    case round =>
      obtain ⟨k, rfl, hkn, hE, hs⟩ := hrel
      by_cases hlt : k < n
      · have hlt' : (k : Int) < n := by omega
        obtain ⟨b, off, rfl, hb, hc⟩ := hx.pt (z := (k : Int)) (by omega) (by rw [HX.out]; exact hlt')
        obtain ⟨b', off', rfl, hb', hc'⟩ := hy.pt (z := (k : Int)) (by omega) (by rw [HY.out]; exact hlt')
        have HS : Hid (xs.take (k + 1) = xs.take k ++ [ptAt xs (k : Nat)]) := Lib.hid (take_pt (by rw [HX.out]; exact hlt))
        have HT : Hid (ys.take (k + 1) = ys.take k ++ [ptAt ys (k : Nat)]) := Lib.hid (take_pt (by rw [HY.out]; exact hlt))
        have HNE : Hid (ptAt xs (k : Nat) ≠ ptAt ys (k : Nat) → xs ≠ ys) := Lib.hid (fun h e => h (by rw [e]))
        have HC1 := Lib.hid (fun W (hK : SX.Keep w [] [] W) j u hu => (hK.old (p := ⟨b, off + (k : Int).toNat * 2 + j, none⟩) hb (by simp) (hc j u hu)))
        have HC2 := Lib.hid (fun W (hK : SX.Keep w [] [] W) j u hu => (hK.old (p := ⟨b', off' + (k : Int).toNat * 2 + j, none⟩) hb' (by simp) (hc' j u hu)))
        clear hx hy hc hc'
        generalize ptAt xs (k : Nat) = x at *
        generalize ptAt ys (k : Nat) = y at *
        obtain ⟨x1, x2⟩ := x
        obtain ⟨y1, y2⟩ := y
        simp only [] at HC1 HC2
        gi_wp2
        refine SX.region_begin (SX.Keep w [] []) (fun _ => true) mixed ?_
        have hsD := SX.St.drew hs
        generalize World.drew _ = wd at hsD ⊢
        refine SX.take 0 (fun _ => trivial) (by simp only [List.getElem?_toArray, List.getElem?_cons_succ, List.getElem?_cons_zero]; rfl) (by kernel_rfl) (by exact fun _ _ _ h => h) (by rfl) (by intro w' _; go_simp; (try go_bits); rfl) (by exact ⟨_, by assumption, by simp⟩) ?_
        simp only [Act.put, List.setIfInBounds_toArray, List.set_cons_succ, List.set_cons_zero]
        refine SX.take 1 (fun _ => trivial) (by simp only [List.getElem?_toArray, List.getElem?_cons_succ, List.getElem?_cons_zero]; rfl) (by kernel_rfl) (by exact fun _ _ _ h => h) (by rfl) (by intro w' _; go_simp; (try go_bits); rfl) (by exact ⟨_, by assumption, by simp⟩) ?_
        simp only [Act.put, List.setIfInBounds_toArray, List.set_cons_succ, List.set_cons_zero]
        refine SX.take 2 (fun _ => trivial) (by simp only [List.getElem?_toArray, List.getElem?_cons_succ, List.getElem?_cons_zero]; rfl) (by kernel_rfl) (by exact fun _ _ _ h => h) (by rfl) (by intro w' _; go_simp; (try go_bits); rfl) (by exact ⟨_, by assumption, by simp⟩) ?_
        simp only [Act.put, List.setIfInBounds_toArray, List.set_cons_succ, List.set_cons_zero]
        refine SX.take 3 (fun _ => trivial) (by simp only [List.getElem?_toArray, List.getElem?_cons_succ, List.getElem?_cons_zero]; rfl) (by kernel_rfl) (by exact fun _ _ _ h => h) (by rfl) (by exact SX.y_loadagg [.int .i64 x1, .int .i64 x2] rfl (by first | (simp; done) | fail) (by kernel_rfl) rfl HC1.out) (by exact ⟨_, by assumption, by simp⟩) ?_
        simp only [Act.put, List.setIfInBounds_toArray, List.set_cons_succ, List.set_cons_zero]
        refine SX.take 4 (fun _ => trivial) (by simp only [List.getElem?_toArray, List.getElem?_cons_succ, List.getElem?_cons_zero]; rfl) (by kernel_rfl) (by exact fun _ _ _ h => h) (by rfl) (by intro w' _; go_simp; (try go_bits); rfl) (by exact ⟨_, by assumption, by simp⟩) ?_
        simp only [Act.put, List.setIfInBounds_toArray, List.set_cons_succ, List.set_cons_zero]
        refine SX.take 5 (fun _ => trivial) (by simp only [List.getElem?_toArray, List.getElem?_cons_succ, List.getElem?_cons_zero]; rfl) (by kernel_rfl) (by exact fun _ _ _ h => h) (by rfl) (by intro w' _; go_simp; (try go_bits); rfl) (by exact ⟨_, by assumption, by simp⟩) ?_
        simp only [Act.put, List.setIfInBounds_toArray, List.set_cons_succ, List.set_cons_zero]
        refine SX.take 6 (fun _ => trivial) (by simp only [List.getElem?_toArray, List.getElem?_cons_succ, List.getElem?_cons_zero]; rfl) (by kernel_rfl) (by exact fun _ _ _ h => h) (by rfl) (by intro w' _; go_simp; (try go_bits); rfl) (by exact ⟨_, by assumption, by simp⟩) ?_
        simp only [Act.put, List.setIfInBounds_toArray, List.set_cons_succ, List.set_cons_zero]
        refine SX.take 7 (fun _ => trivial) (by simp only [List.getElem?_toArray, List.getElem?_cons_succ, List.getElem?_cons_zero]; rfl) (by kernel_rfl) (by exact fun _ _ _ h => h) (by rfl) (by exact SX.y_loadagg [.int .i64 y1, .int .i64 y2] rfl (by first | (simp; done) | fail) (by kernel_rfl) rfl HC2.out) (by exact ⟨_, by assumption, by simp⟩) ?_
        simp only [Act.put, List.setIfInBounds_toArray, List.set_cons_succ, List.set_cons_zero]
        by_cases he : x1 = y1 ∧ x2 = y2
        · obtain ⟨rfl, rfl⟩ := he
          refine SX.take 8 (fun _ => trivial) (by simp only [List.getElem?_toArray, List.getElem?_cons_succ, List.getElem?_cons_zero]; rfl) (by kernel_rfl) (by exact fun _ _ _ h => h) (by rfl) (v := .bool false) (by intro w' _; go_simp; (try rfl)) (by exact ⟨_, by assumption, by simp⟩) ?_
          simp only [Act.put, List.setIfInBounds_toArray, List.set_cons_succ, List.set_cons_zero]
          refine SX.done (by kernel_rfl) ?_
          gi_wp2
          go_roundw
          case rel => exact ⟨k + 1, by go_num, by omega, Lib.hid (by rw [HS.out, HT.out, hE.out]), hsD⟩
          case measure => simp [intOf]; omega
        · have hne : ((x1, x2) : Int × Int) ≠ (y1, y2) := by simpa using he
          refine SX.take 8 (fun _ => trivial) (by simp only [List.getElem?_toArray, List.getElem?_cons_succ, List.getElem?_cons_zero]; rfl) (by kernel_rfl) (by exact fun _ _ _ h => h) (by rfl) (v := .bool true) (by intro w' _; go_simp; intro e1 e2; exact he ⟨e1, e2⟩) (by exact ⟨_, by assumption, by simp⟩) ?_
          simp only [Act.put, List.setIfInBounds_toArray, List.set_cons_succ, List.set_cons_zero]
          refine SX.done (by kernel_rfl) ?_
          have HN2 := Lib.hid hne
          clear he hne
          gi_wp2
          go_ret
          exact ⟨_, rfl, by simp [HNE.out HN2.out], hsD⟩
      · have hge : ¬ (k : Int) < n := by omega
        obtain rfl : k = n := by omega
        clear hx hy
        gi_wp2
        go_ret
        refine ⟨_, rfl, ?_, hs⟩
        have := hE.out
        rw [List.take_of_length_le (by rw [HX.out]; exact Nat.le_refl _), List.take_of_length_le (by rw [HY.out]; exact Nat.le_refl _)] at this
        simp [this]
  · have hne : ((n : Int) != m) = true := by simpa using (by omega : ¬ (n : Int) = m)
    have hxy : xs ≠ ys := fun e => hnm (by rw [← hlx, ← hly, e])
    have hs := SX.St.start w
    clear hx hy hlx hly hnm
    refine SX.enter Try.func15 rfl ?_
    simp only [Try.ntmps15, List.size_toArray, List.length_cons, List.length_nil, Nat.reduceAdd, Nat.reduceSub, Array.replicate_succ, Array.replicate_zero, List.push_toArray, List.append_toArray, List.nil_append, List.cons_append]
    have HXY := Lib.hid hxy
    clear hxy
    gi_wp2
    all_goals
      go_ret
      exact ⟨_, rfl, by simp [HXY.out], hs⟩

set_option maxRecDepth 100000 in
set_option maxHeartbeats 1000000 in
theorem point_any (k : Nat) (A : Option Addr) (c : Nat) (bs : List Int) (i q : Int) (w : World) (hr : Sl w A (ints .u8 bs)) (hl : bs.length = 2 * k) (hk : 1 ≤ k) (hk3 : k ≤ 3) (hnc : 2 * k ≤ c) (hc : (c : Int) ≤ 9223372036854775807) (hb : ∀ b ∈ bs, b = 0 ∨ b = 1) :
    Calls Try.prog 24 #[.int .i64 ((2 * k : Nat) : Int), .slice A (2 * k) c, .int .i64 i, .int .i64 q] w (SX.Ret fun v w' => v = .bool (decide ([mpt k bs 0] = [(i, q)])) ∧ SX.St w [] w' []) := by
  have hs := SX.St.start w
  have HMo := Lib.hid (modulate_ok A (2 * k) c k 1 bs w hr hl (by omega) hk hk3 (by omega) hnc hc hb)
  have e1 : (List.range 1).map (mpt k bs) = [mpt k bs 0] := rfl
  rw [e1] at HMo
  generalize mpt k bs 0 = pt at *
  generalize 2 * k = m at *
  clear e1 hr hl hk hk3 hb
  refine SX.enter Try.func24 rfl ?_
  simp only [Try.ntmps24, List.size_toArray, List.length_cons, List.length_nil, Nat.reduceAdd, Nat.reduceSub, Array.replicate_succ, Array.replicate_zero, List.push_toArray, List.append_toArray, List.nil_append, List.cons_append]
  gi_wp2_with (first
    | (refine SX.lsm rfl rfl ?_; first | (refine SX.load_blk rfl (by assumption) (by first | (simp; done) | fail) (by rfl) (by first | exact SX.at0 | exact SX.at1 | exact SX.at2 | exact SX.at3 | exact SX.at4 | exact SX.at5) (by rfl) ?_) | (refine SX.load_old rfl (by assumption) (by first | (simp; done) | fail) (by rfl) (by assumption) (by first | (simp; done) | fail) (by assumption) ?_) | (refine SX.store_blk rfl (by assumption) (by first | (simp; done) | fail) (by rfl) (by first | (go_simp; exact rfl) | fail) (by rfl) (by first | exact SX.at0 | exact SX.at1 | exact SX.at2 | exact SX.at3 | exact SX.at4 | exact SX.at5) (by first | (simp; done) | fail) ?_; intro w1 hs1; simp only [List.set_cons_zero, List.set_cons_succ, List.setIfInBounds_toArray] at hs1) | (refine SX.alc_ptr rfl (by assumption) (by first | (intro W; go_simp; exact rfl) | fail) ?_; intro g1 w1 hs1) | (refine SX.alc_slice rfl (by assumption) (by first | (intro W; go_simp; exact rfl) | fail) ?_; intro g1 w1 hs1) | (refine SX.store_agg rfl (by assumption) (by rfl) (by first | (go_simp; exact rfl) | fail) (by kernel_rfl) (by first | (simp [Value.oneCell']; done) | fail) (by first | exact SX.at0 | exact SX.at1 | exact SX.at2 | exact SX.at3 | exact SX.at4 | exact SX.at5) (by rfl) ?_; intro w1 hs1; simp only [List.set_cons_zero, List.set_cons_succ, List.setIfInBounds_toArray] at hs1) | (refine SX.load_aggB rfl (by assumption) (by first | (simp; done) | fail) (by rfl) (by first | exact SX.at0 | exact SX.at1 | exact SX.at2 | exact SX.at3 | exact SX.at4 | exact SX.at5) (by kernel_rfl) ?_))
    | (refine SX.lsmw rfl (by rfl) ?_; first | (refine SX.load_blk rfl (by assumption) (by first | (simp; done) | fail) (by rfl) (by first | exact SX.at0 | exact SX.at1 | exact SX.at2 | exact SX.at3 | exact SX.at4 | exact SX.at5) (by rfl) ?_) | (refine SX.load_old rfl (by assumption) (by first | (simp; done) | fail) (by rfl) (by assumption) (by first | (simp; done) | fail) (by assumption) ?_) | (refine SX.store_blk rfl (by assumption) (by first | (simp; done) | fail) (by rfl) (by first | (go_simp; exact rfl) | fail) (by rfl) (by first | exact SX.at0 | exact SX.at1 | exact SX.at2 | exact SX.at3 | exact SX.at4 | exact SX.at5) (by first | (simp; done) | fail) ?_; intro w1 hs1; simp only [List.set_cons_zero, List.set_cons_succ, List.setIfInBounds_toArray] at hs1) | (refine SX.alc_ptr rfl (by assumption) (by first | (intro W; go_simp; exact rfl) | fail) ?_; intro g1 w1 hs1) | (refine SX.alc_slice rfl (by assumption) (by first | (intro W; go_simp; exact rfl) | fail) ?_; intro g1 w1 hs1) | (refine SX.store_agg rfl (by assumption) (by rfl) (by first | (go_simp; exact rfl) | fail) (by kernel_rfl) (by first | (simp [Value.oneCell']; done) | fail) (by first | exact SX.at0 | exact SX.at1 | exact SX.at2 | exact SX.at3 | exact SX.at4 | exact SX.at5) (by rfl) ?_; intro w1 hs1; simp only [List.set_cons_zero, List.set_cons_succ, List.setIfInBounds_toArray] at hs1) | (refine SX.load_aggB rfl (by assumption) (by first | (simp; done) | fail) (by rfl) (by first | exact SX.at0 | exact SX.at1 | exact SX.at2 | exact SX.at3 | exact SX.at4 | exact SX.at5) (by kernel_rfl) ?_))
    | (refine SX.lsc rfl rfl ?_
       refine SX.wp_calls (fun _ => trivial) rfl rfl (by rfl) Try.call11 (by go_simp; rfl) ?_
       refine (SX.call HMo.out).mono ?_
       rintro e w1 ⟨v, rfl, sv, rfl, hs1⟩
       obtain ⟨B, cb, rfl, hb1, hb2, hB⟩ := SX.row_slv hs1 SX.at0
       refine ⟨_, rfl, ?_⟩)
    | (refine SX.lscw rfl (by rfl) ?_
       refine SX.wp_calls (fun _ => trivial) rfl rfl (by rfl) Try.call15 (by go_simp; rfl) ?_
       refine (SX.call (sameP_any _ _ 1 1 _ 1 [pt] [(i, q)] _ (by exact SX.row_slB hs1 SX.at1) (by exact SX.blk_sl hs1 SX.at0) rfl rfl (by omega) (by omega))).mono ?_
       rintro e w2 ⟨v, rfl, rfl, hs2⟩
       refine ⟨_, rfl, ?_⟩))
  go_ret
  exact ⟨_, rfl, congrArg Value.bool (by simp), (hs1.call hs2).sub (List.nil_sublist _)⟩

theorem dml1 : dml 1 [(5, -200)] = [5, -127] := by decide
theorem dml2 : dml 2 [(40, 0)] = [48, 0, -8, 32] := by decide

set_option maxRecDepth 100000 in
set_option maxHeartbeats 1000000 in
theorem known_any (w : World) : Calls Try.prog 10 #[] w (SX.Ret fun v w' => v = .bool true ∧ SX.St w [] w' []) := by
  have hs := SX.St.start w
  have HD1 := Lib.hid (fun A W (hr : Sl W A (pcells [(5, -200)])) => demod_ok A 1 1 1 _ W hr rfl (by omega) (by omega) (by omega) (by decide))
  have HD2 := Lib.hid (fun A W (hr : Sl W A (pcells [(40, 0)])) => demod_ok A 1 1 2 _ W hr rfl (by omega) (by omega) (by omega) (by decide))
  rw [dml1] at HD1
  rw [dml2] at HD2
  have HP1 := Lib.hid (fun A W (hr : Sl W A (ints .u8 [0, 1])) => point_any 1 A 2 _ 16 (-16) W hr rfl (by omega) (by omega) (by omega) (by omega) (by decide))
  have HP2 := Lib.hid (fun A W (hr : Sl W A (ints .u8 [0, 1, 1, 0])) => point_any 2 A 4 _ 48 (-16) W hr rfl (by omega) (by omega) (by omega) (by omega) (by decide))
  have HP3 := Lib.hid (fun A W (hr : Sl W A (ints .u8 [1, 0, 0, 1, 1, 1])) => point_any 3 A 6 _ (-16) 112 W hr rfl (by omega) (by omega) (by omega) (by omega) (by decide))
  rw [show decide ([mpt 1 [0, 1] 0] = [(16, -16)]) = true from by decide] at HP1
  rw [show decide ([mpt 2 [0, 1, 1, 0] 0] = [(48, -16)]) = true from by decide] at HP2
  rw [show decide ([mpt 3 [1, 0, 0, 1, 1, 1] 0] = [(-16, 112)]) = true from by decide] at HP3
  refine SX.enter Try.func10 rfl ?_
  simp only [Try.ntmps10, List.size_toArray, List.length_cons, List.length_nil, Nat.reduceAdd, Nat.reduceSub, Array.replicate_succ, Array.replicate_zero, List.push_toArray, List.append_toArray, List.nil_append, List.cons_append]
  (gi_wp2_with (first | (refine SX.lsm rfl rfl ?_; first | (refine SX.load_blk rfl (by assumption) (by first | (simp; done) | fail) (by rfl) (by first | exact SX.at0 | exact SX.at1 | exact SX.at2 | exact SX.at3 | exact SX.at4 | exact SX.at5) (by rfl) ?_) | (refine SX.load_old rfl (by assumption) (by first | (simp; done) | fail) (by rfl) (by assumption) (by first | (simp; done) | fail) (by assumption) ?_) | (refine SX.store_blk rfl (by assumption) (by first | (simp; done) | fail) (by rfl) (by first | (go_simp; exact rfl) | fail) (by rfl) (by first | exact SX.at0 | exact SX.at1 | exact SX.at2 | exact SX.at3 | exact SX.at4 | exact SX.at5) (by first | (simp; done) | fail) ?_; intro w1 hs1; simp only [List.set_cons_zero, List.set_cons_succ, List.setIfInBounds_toArray] at hs1) | (refine SX.alc_ptr rfl (by assumption) (by first | (intro W; go_simp; exact rfl) | fail) ?_; intro g1 w1 hs1) | (refine SX.alc_slice rfl (by assumption) (by first | (intro W; go_simp; exact rfl) | fail) ?_; intro g1 w1 hs1) | (refine SX.store_agg rfl (by assumption) (by rfl) (by first | (go_simp; exact rfl) | fail) (by kernel_rfl) (by first | (simp [Value.oneCell']; done) | fail) (by first | exact SX.at0 | exact SX.at1 | exact SX.at2 | exact SX.at3 | exact SX.at4 | exact SX.at5) (by rfl) ?_; intro w1 hs1; simp only [List.set_cons_zero, List.set_cons_succ, List.setIfInBounds_toArray] at hs1) | (refine SX.load_aggB rfl (by assumption) (by first | (simp; done) | fail) (by rfl) (by first | exact SX.at0 | exact SX.at1 | exact SX.at2 | exact SX.at3 | exact SX.at4 | exact SX.at5) (by kernel_rfl) ?_)) | (refine SX.lsmw rfl (by rfl) ?_; first | (refine SX.load_blk rfl (by assumption) (by first | (simp; done) | fail) (by rfl) (by first | exact SX.at0 | exact SX.at1 | exact SX.at2 | exact SX.at3 | exact SX.at4 | exact SX.at5) (by rfl) ?_) | (refine SX.load_old rfl (by assumption) (by first | (simp; done) | fail) (by rfl) (by assumption) (by first | (simp; done) | fail) (by assumption) ?_) | (refine SX.store_blk rfl (by assumption) (by first | (simp; done) | fail) (by rfl) (by first | (go_simp; exact rfl) | fail) (by rfl) (by first | exact SX.at0 | exact SX.at1 | exact SX.at2 | exact SX.at3 | exact SX.at4 | exact SX.at5) (by first | (simp; done) | fail) ?_; intro w1 hs1; simp only [List.set_cons_zero, List.set_cons_succ, List.setIfInBounds_toArray] at hs1) | (refine SX.alc_ptr rfl (by assumption) (by first | (intro W; go_simp; exact rfl) | fail) ?_; intro g1 w1 hs1) | (refine SX.alc_slice rfl (by assumption) (by first | (intro W; go_simp; exact rfl) | fail) ?_; intro g1 w1 hs1) | (refine SX.store_agg rfl (by assumption) (by rfl) (by first | (go_simp; exact rfl) | fail) (by kernel_rfl) (by first | (simp [Value.oneCell']; done) | fail) (by first | exact SX.at0 | exact SX.at1 | exact SX.at2 | exact SX.at3 | exact SX.at4 | exact SX.at5) (by rfl) ?_; intro w1 hs1; simp only [List.set_cons_zero, List.set_cons_succ, List.setIfInBounds_toArray] at hs1) | (refine SX.load_aggB rfl (by assumption) (by first | (simp; done) | fail) (by rfl) (by first | exact SX.at0 | exact SX.at1 | exact SX.at2 | exact SX.at3 | exact SX.at4 | exact SX.at5) (by kernel_rfl) ?_)) | (refine SX.lsc rfl rfl ?_; refine SX.hold (fun q hq => ?_)) | (refine SX.lscw rfl (by rfl) ?_; refine SX.hold (fun q hq => ?_))); refine hq.out ?_; clear hq q)
  refine SX.wp_calls (fun _ => trivial) rfl rfl (by rfl) Try.call17 (by go_simp; rfl) ?_
  refine (SX.call (HD1.out _ _ (by exact SX.blk_sl hs1 SX.at0))).mono ?_
  rintro e w2 ⟨v, rfl, sa, rfl, hy⟩
  have hs2 := hs1.tl.call hy
  simp only [List.cons_append, List.nil_append, List.append_nil] at hs2
  clear hy hs1
  refine ⟨_, rfl, ?_⟩
  (gi_wp2_with (first | (refine SX.lsm rfl rfl ?_; first | (refine SX.load_blk rfl (by assumption) (by first | (simp; done) | fail) (by rfl) (by first | exact SX.at0 | exact SX.at1 | exact SX.at2 | exact SX.at3 | exact SX.at4 | exact SX.at5) (by rfl) ?_) | (refine SX.load_old rfl (by assumption) (by first | (simp; done) | fail) (by rfl) (by assumption) (by first | (simp; done) | fail) (by assumption) ?_) | (refine SX.store_blk rfl (by assumption) (by first | (simp; done) | fail) (by rfl) (by first | (go_simp; exact rfl) | fail) (by rfl) (by first | exact SX.at0 | exact SX.at1 | exact SX.at2 | exact SX.at3 | exact SX.at4 | exact SX.at5) (by first | (simp; done) | fail) ?_; intro w1 hs1; simp only [List.set_cons_zero, List.set_cons_succ, List.setIfInBounds_toArray] at hs1) | (refine SX.alc_ptr rfl (by assumption) (by first | (intro W; go_simp; exact rfl) | fail) ?_; intro g1 w1 hs1) | (refine SX.alc_slice rfl (by assumption) (by first | (intro W; go_simp; exact rfl) | fail) ?_; intro g1 w1 hs1) | (refine SX.store_agg rfl (by assumption) (by rfl) (by first | (go_simp; exact rfl) | fail) (by kernel_rfl) (by first | (simp [Value.oneCell']; done) | fail) (by first | exact SX.at0 | exact SX.at1 | exact SX.at2 | exact SX.at3 | exact SX.at4 | exact SX.at5) (by rfl) ?_; intro w1 hs1; simp only [List.set_cons_zero, List.set_cons_succ, List.setIfInBounds_toArray] at hs1) | (refine SX.load_aggB rfl (by assumption) (by first | (simp; done) | fail) (by rfl) (by first | exact SX.at0 | exact SX.at1 | exact SX.at2 | exact SX.at3 | exact SX.at4 | exact SX.at5) (by kernel_rfl) ?_)) | (refine SX.lsmw rfl (by rfl) ?_; first | (refine SX.load_blk rfl (by assumption) (by first | (simp; done) | fail) (by rfl) (by first | exact SX.at0 | exact SX.at1 | exact SX.at2 | exact SX.at3 | exact SX.at4 | exact SX.at5) (by rfl) ?_) | (refine SX.load_old rfl (by assumption) (by first | (simp; done) | fail) (by rfl) (by assumption) (by first | (simp; done) | fail) (by assumption) ?_) | (refine SX.store_blk rfl (by assumption) (by first | (simp; done) | fail) (by rfl) (by first | (go_simp; exact rfl) | fail) (by rfl) (by first | exact SX.at0 | exact SX.at1 | exact SX.at2 | exact SX.at3 | exact SX.at4 | exact SX.at5) (by first | (simp; done) | fail) ?_; intro w1 hs1; simp only [List.set_cons_zero, List.set_cons_succ, List.setIfInBounds_toArray] at hs1) | (refine SX.alc_ptr rfl (by assumption) (by first | (intro W; go_simp; exact rfl) | fail) ?_; intro g1 w1 hs1) | (refine SX.alc_slice rfl (by assumption) (by first | (intro W; go_simp; exact rfl) | fail) ?_; intro g1 w1 hs1) | (refine SX.store_agg rfl (by assumption) (by rfl) (by first | (go_simp; exact rfl) | fail) (by kernel_rfl) (by first | (simp [Value.oneCell']; done) | fail) (by first | exact SX.at0 | exact SX.at1 | exact SX.at2 | exact SX.at3 | exact SX.at4 | exact SX.at5) (by rfl) ?_; intro w1 hs1; simp only [List.set_cons_zero, List.set_cons_succ, List.setIfInBounds_toArray] at hs1) | (refine SX.load_aggB rfl (by assumption) (by first | (simp; done) | fail) (by rfl) (by first | exact SX.at0 | exact SX.at1 | exact SX.at2 | exact SX.at3 | exact SX.at4 | exact SX.at5) (by kernel_rfl) ?_)) | (refine SX.lsc rfl rfl ?_; refine SX.hold (fun q hq => ?_)) | (refine SX.lscw rfl (by rfl) ?_; refine SX.hold (fun q hq => ?_))); refine hq.out ?_; clear hq q)
  refine SX.wp_calls (fun _ => trivial) rfl rfl (by rfl) Try.call17 (by go_simp; rfl) ?_
  refine (SX.call (HD2.out _ _ (by exact SX.blk_sl hs1 SX.at0))).mono ?_
  rintro e w3 ⟨v, rfl, sb, rfl, hy⟩
  have hs3 := hs1.tl.call hy
  simp only [List.cons_append, List.nil_append, List.append_nil] at hs3
  clear hy hs1 hs2
  refine ⟨_, rfl, ?_⟩
  (gi_wp2_with (first | (refine SX.lsm rfl rfl ?_; first | (refine SX.load_blk rfl (by assumption) (by first | (simp; done) | fail) (by rfl) (by first | exact SX.at0 | exact SX.at1 | exact SX.at2 | exact SX.at3 | exact SX.at4 | exact SX.at5) (by rfl) ?_) | (refine SX.load_old rfl (by assumption) (by first | (simp; done) | fail) (by rfl) (by assumption) (by first | (simp; done) | fail) (by assumption) ?_) | (refine SX.store_blk rfl (by assumption) (by first | (simp; done) | fail) (by rfl) (by first | (go_simp; exact rfl) | fail) (by rfl) (by first | exact SX.at0 | exact SX.at1 | exact SX.at2 | exact SX.at3 | exact SX.at4 | exact SX.at5) (by first | (simp; done) | fail) ?_; intro w1 hs1; simp only [List.set_cons_zero, List.set_cons_succ, List.setIfInBounds_toArray] at hs1) | (refine SX.alc_ptr rfl (by assumption) (by first | (intro W; go_simp; exact rfl) | fail) ?_; intro g1 w1 hs1) | (refine SX.alc_slice rfl (by assumption) (by first | (intro W; go_simp; exact rfl) | fail) ?_; intro g1 w1 hs1) | (refine SX.store_agg rfl (by assumption) (by rfl) (by first | (go_simp; exact rfl) | fail) (by kernel_rfl) (by first | (simp [Value.oneCell']; done) | fail) (by first | exact SX.at0 | exact SX.at1 | exact SX.at2 | exact SX.at3 | exact SX.at4 | exact SX.at5) (by rfl) ?_; intro w1 hs1; simp only [List.set_cons_zero, List.set_cons_succ, List.setIfInBounds_toArray] at hs1) | (refine SX.load_aggB rfl (by assumption) (by first | (simp; done) | fail) (by rfl) (by first | exact SX.at0 | exact SX.at1 | exact SX.at2 | exact SX.at3 | exact SX.at4 | exact SX.at5) (by kernel_rfl) ?_)) | (refine SX.lsmw rfl (by rfl) ?_; first | (refine SX.load_blk rfl (by assumption) (by first | (simp; done) | fail) (by rfl) (by first | exact SX.at0 | exact SX.at1 | exact SX.at2 | exact SX.at3 | exact SX.at4 | exact SX.at5) (by rfl) ?_) | (refine SX.load_old rfl (by assumption) (by first | (simp; done) | fail) (by rfl) (by assumption) (by first | (simp; done) | fail) (by assumption) ?_) | (refine SX.store_blk rfl (by assumption) (by first | (simp; done) | fail) (by rfl) (by first | (go_simp; exact rfl) | fail) (by rfl) (by first | exact SX.at0 | exact SX.at1 | exact SX.at2 | exact SX.at3 | exact SX.at4 | exact SX.at5) (by first | (simp; done) | fail) ?_; intro w1 hs1; simp only [List.set_cons_zero, List.set_cons_succ, List.setIfInBounds_toArray] at hs1) | (refine SX.alc_ptr rfl (by assumption) (by first | (intro W; go_simp; exact rfl) | fail) ?_; intro g1 w1 hs1) | (refine SX.alc_slice rfl (by assumption) (by first | (intro W; go_simp; exact rfl) | fail) ?_; intro g1 w1 hs1) | (refine SX.store_agg rfl (by assumption) (by rfl) (by first | (go_simp; exact rfl) | fail) (by kernel_rfl) (by first | (simp [Value.oneCell']; done) | fail) (by first | exact SX.at0 | exact SX.at1 | exact SX.at2 | exact SX.at3 | exact SX.at4 | exact SX.at5) (by rfl) ?_; intro w1 hs1; simp only [List.set_cons_zero, List.set_cons_succ, List.setIfInBounds_toArray] at hs1) | (refine SX.load_aggB rfl (by assumption) (by first | (simp; done) | fail) (by rfl) (by first | exact SX.at0 | exact SX.at1 | exact SX.at2 | exact SX.at3 | exact SX.at4 | exact SX.at5) (by kernel_rfl) ?_)) | (refine SX.lsc rfl rfl ?_; refine SX.hold (fun q hq => ?_)) | (refine SX.lscw rfl (by rfl) ?_; refine SX.hold (fun q hq => ?_))); refine hq.out ?_; clear hq q)
  refine SX.wp_calls (fun _ => trivial) rfl rfl (by rfl) Try.call24 (by go_simp; rfl) ?_
  refine (SX.call (HP1.out _ _ (by exact SX.blk_sl hs1 SX.at0))).mono ?_
  rintro e w4 ⟨v, rfl, rfl, hy⟩
  have hs4 := hs1.tl.call hy
  simp only [List.cons_append, List.nil_append, List.append_nil] at hs4
  clear hy hs1 hs3
  refine ⟨_, rfl, ?_⟩
  (gi_wp2_with (first | (refine SX.lsm rfl rfl ?_; first | (refine SX.load_blk rfl (by assumption) (by first | (simp; done) | fail) (by rfl) (by first | exact SX.at0 | exact SX.at1 | exact SX.at2 | exact SX.at3 | exact SX.at4 | exact SX.at5) (by rfl) ?_) | (refine SX.load_old rfl (by assumption) (by first | (simp; done) | fail) (by rfl) (by assumption) (by first | (simp; done) | fail) (by assumption) ?_) | (refine SX.store_blk rfl (by assumption) (by first | (simp; done) | fail) (by rfl) (by first | (go_simp; exact rfl) | fail) (by rfl) (by first | exact SX.at0 | exact SX.at1 | exact SX.at2 | exact SX.at3 | exact SX.at4 | exact SX.at5) (by first | (simp; done) | fail) ?_; intro w1 hs1; simp only [List.set_cons_zero, List.set_cons_succ, List.setIfInBounds_toArray] at hs1) | (refine SX.alc_ptr rfl (by assumption) (by first | (intro W; go_simp; exact rfl) | fail) ?_; intro g1 w1 hs1) | (refine SX.alc_slice rfl (by assumption) (by first | (intro W; go_simp; exact rfl) | fail) ?_; intro g1 w1 hs1) | (refine SX.store_agg rfl (by assumption) (by rfl) (by first | (go_simp; exact rfl) | fail) (by kernel_rfl) (by first | (simp [Value.oneCell']; done) | fail) (by first | exact SX.at0 | exact SX.at1 | exact SX.at2 | exact SX.at3 | exact SX.at4 | exact SX.at5) (by rfl) ?_; intro w1 hs1; simp only [List.set_cons_zero, List.set_cons_succ, List.setIfInBounds_toArray] at hs1) | (refine SX.load_aggB rfl (by assumption) (by first | (simp; done) | fail) (by rfl) (by first | exact SX.at0 | exact SX.at1 | exact SX.at2 | exact SX.at3 | exact SX.at4 | exact SX.at5) (by kernel_rfl) ?_)) | (refine SX.lsmw rfl (by rfl) ?_; first | (refine SX.load_blk rfl (by assumption) (by first | (simp; done) | fail) (by rfl) (by first | exact SX.at0 | exact SX.at1 | exact SX.at2 | exact SX.at3 | exact SX.at4 | exact SX.at5) (by rfl) ?_) | (refine SX.load_old rfl (by assumption) (by first | (simp; done) | fail) (by rfl) (by assumption) (by first | (simp; done) | fail) (by assumption) ?_) | (refine SX.store_blk rfl (by assumption) (by first | (simp; done) | fail) (by rfl) (by first | (go_simp; exact rfl) | fail) (by rfl) (by first | exact SX.at0 | exact SX.at1 | exact SX.at2 | exact SX.at3 | exact SX.at4 | exact SX.at5) (by first | (simp; done) | fail) ?_; intro w1 hs1; simp only [List.set_cons_zero, List.set_cons_succ, List.setIfInBounds_toArray] at hs1) | (refine SX.alc_ptr rfl (by assumption) (by first | (intro W; go_simp; exact rfl) | fail) ?_; intro g1 w1 hs1) | (refine SX.alc_slice rfl (by assumption) (by first | (intro W; go_simp; exact rfl) | fail) ?_; intro g1 w1 hs1) | (refine SX.store_agg rfl (by assumption) (by rfl) (by first | (go_simp; exact rfl) | fail) (by kernel_rfl) (by first | (simp [Value.oneCell']; done) | fail) (by first | exact SX.at0 | exact SX.at1 | exact SX.at2 | exact SX.at3 | exact SX.at4 | exact SX.at5) (by rfl) ?_; intro w1 hs1; simp only [List.set_cons_zero, List.set_cons_succ, List.setIfInBounds_toArray] at hs1) | (refine SX.load_aggB rfl (by assumption) (by first | (simp; done) | fail) (by rfl) (by first | exact SX.at0 | exact SX.at1 | exact SX.at2 | exact SX.at3 | exact SX.at4 | exact SX.at5) (by kernel_rfl) ?_)) | (refine SX.lsc rfl rfl ?_; refine SX.hold (fun q hq => ?_)) | (refine SX.lscw rfl (by rfl) ?_; refine SX.hold (fun q hq => ?_))); refine hq.out ?_; clear hq q)
  refine SX.wp_calls (fun _ => trivial) rfl rfl (by rfl) Try.call24 (by go_simp; rfl) ?_
  refine (SX.call (HP2.out _ _ (by exact SX.blk_sl hs1 SX.at0))).mono ?_
  rintro e w5 ⟨v, rfl, rfl, hy⟩
  have hs5 := hs1.tl.call hy
  simp only [List.cons_append, List.nil_append, List.append_nil] at hs5
  clear hy hs1 hs4
  refine ⟨_, rfl, ?_⟩
  (gi_wp2_with (first | (refine SX.lsm rfl rfl ?_; first | (refine SX.load_blk rfl (by assumption) (by first | (simp; done) | fail) (by rfl) (by first | exact SX.at0 | exact SX.at1 | exact SX.at2 | exact SX.at3 | exact SX.at4 | exact SX.at5) (by rfl) ?_) | (refine SX.load_old rfl (by assumption) (by first | (simp; done) | fail) (by rfl) (by assumption) (by first | (simp; done) | fail) (by assumption) ?_) | (refine SX.store_blk rfl (by assumption) (by first | (simp; done) | fail) (by rfl) (by first | (go_simp; exact rfl) | fail) (by rfl) (by first | exact SX.at0 | exact SX.at1 | exact SX.at2 | exact SX.at3 | exact SX.at4 | exact SX.at5) (by first | (simp; done) | fail) ?_; intro w1 hs1; simp only [List.set_cons_zero, List.set_cons_succ, List.setIfInBounds_toArray] at hs1) | (refine SX.alc_ptr rfl (by assumption) (by first | (intro W; go_simp; exact rfl) | fail) ?_; intro g1 w1 hs1) | (refine SX.alc_slice rfl (by assumption) (by first | (intro W; go_simp; exact rfl) | fail) ?_; intro g1 w1 hs1) | (refine SX.store_agg rfl (by assumption) (by rfl) (by first | (go_simp; exact rfl) | fail) (by kernel_rfl) (by first | (simp [Value.oneCell']; done) | fail) (by first | exact SX.at0 | exact SX.at1 | exact SX.at2 | exact SX.at3 | exact SX.at4 | exact SX.at5) (by rfl) ?_; intro w1 hs1; simp only [List.set_cons_zero, List.set_cons_succ, List.setIfInBounds_toArray] at hs1) | (refine SX.load_aggB rfl (by assumption) (by first | (simp; done) | fail) (by rfl) (by first | exact SX.at0 | exact SX.at1 | exact SX.at2 | exact SX.at3 | exact SX.at4 | exact SX.at5) (by kernel_rfl) ?_)) | (refine SX.lsmw rfl (by rfl) ?_; first | (refine SX.load_blk rfl (by assumption) (by first | (simp; done) | fail) (by rfl) (by first | exact SX.at0 | exact SX.at1 | exact SX.at2 | exact SX.at3 | exact SX.at4 | exact SX.at5) (by rfl) ?_) | (refine SX.load_old rfl (by assumption) (by first | (simp; done) | fail) (by rfl) (by assumption) (by first | (simp; done) | fail) (by assumption) ?_) | (refine SX.store_blk rfl (by assumption) (by first | (simp; done) | fail) (by rfl) (by first | (go_simp; exact rfl) | fail) (by rfl) (by first | exact SX.at0 | exact SX.at1 | exact SX.at2 | exact SX.at3 | exact SX.at4 | exact SX.at5) (by first | (simp; done) | fail) ?_; intro w1 hs1; simp only [List.set_cons_zero, List.set_cons_succ, List.setIfInBounds_toArray] at hs1) | (refine SX.alc_ptr rfl (by assumption) (by first | (intro W; go_simp; exact rfl) | fail) ?_; intro g1 w1 hs1) | (refine SX.alc_slice rfl (by assumption) (by first | (intro W; go_simp; exact rfl) | fail) ?_; intro g1 w1 hs1) | (refine SX.store_agg rfl (by assumption) (by rfl) (by first | (go_simp; exact rfl) | fail) (by kernel_rfl) (by first | (simp [Value.oneCell']; done) | fail) (by first | exact SX.at0 | exact SX.at1 | exact SX.at2 | exact SX.at3 | exact SX.at4 | exact SX.at5) (by rfl) ?_; intro w1 hs1; simp only [List.set_cons_zero, List.set_cons_succ, List.setIfInBounds_toArray] at hs1) | (refine SX.load_aggB rfl (by assumption) (by first | (simp; done) | fail) (by rfl) (by first | exact SX.at0 | exact SX.at1 | exact SX.at2 | exact SX.at3 | exact SX.at4 | exact SX.at5) (by kernel_rfl) ?_)) | (refine SX.lsc rfl rfl ?_; refine SX.hold (fun q hq => ?_)) | (refine SX.lscw rfl (by rfl) ?_; refine SX.hold (fun q hq => ?_))); refine hq.out ?_; clear hq q)
  refine SX.wp_calls (fun _ => trivial) rfl rfl (by rfl) Try.call24 (by go_simp; rfl) ?_
  refine (SX.call (HP3.out _ _ (by exact SX.blk_sl hs1 SX.at0))).mono ?_
  rintro e w6 ⟨v, rfl, rfl, hy⟩
  have hs6 := hs1.tl.call hy
  simp only [List.cons_append, List.nil_append, List.append_nil] at hs6
  clear hy hs1 hs5
  refine ⟨_, rfl, ?_⟩
  obtain ⟨Aa, ca, rfl, hca, hca', -⟩ := SX.row_slv hs6 SX.at1
  obtain ⟨Ab, cb, rfl, hcb, hcb', -⟩ := SX.row_slv hs6 SX.at0
  (gi_wp2_with (first | (refine SX.lsm rfl rfl ?_; first | (refine SX.load_blk rfl (by assumption) (by first | (simp; done) | fail) (by rfl) (by first | exact SX.at0 | exact SX.at1 | exact SX.at2 | exact SX.at3 | exact SX.at4 | exact SX.at5) (by rfl) ?_) | (refine SX.load_old rfl (by assumption) (by first | (simp; done) | fail) (by rfl) (by assumption) (by first | (simp; done) | fail) (by assumption) ?_) | (refine SX.store_blk rfl (by assumption) (by first | (simp; done) | fail) (by rfl) (by first | (go_simp; exact rfl) | fail) (by rfl) (by first | exact SX.at0 | exact SX.at1 | exact SX.at2 | exact SX.at3 | exact SX.at4 | exact SX.at5) (by first | (simp; done) | fail) ?_; intro w1 hs1; simp only [List.set_cons_zero, List.set_cons_succ, List.setIfInBounds_toArray] at hs1) | (refine SX.alc_ptr rfl (by assumption) (by first | (intro W; go_simp; exact rfl) | fail) ?_; intro g1 w1 hs1) | (refine SX.alc_slice rfl (by assumption) (by first | (intro W; go_simp; exact rfl) | fail) ?_; intro g1 w1 hs1) | (refine SX.store_agg rfl (by assumption) (by rfl) (by first | (go_simp; exact rfl) | fail) (by kernel_rfl) (by first | (simp [Value.oneCell']; done) | fail) (by first | exact SX.at0 | exact SX.at1 | exact SX.at2 | exact SX.at3 | exact SX.at4 | exact SX.at5) (by rfl) ?_; intro w1 hs1; simp only [List.set_cons_zero, List.set_cons_succ, List.setIfInBounds_toArray] at hs1) | (refine SX.load_aggB rfl (by assumption) (by first | (simp; done) | fail) (by rfl) (by first | exact SX.at0 | exact SX.at1 | exact SX.at2 | exact SX.at3 | exact SX.at4 | exact SX.at5) (by kernel_rfl) ?_)) | (refine SX.lsmw rfl (by rfl) ?_; first | (refine SX.load_blk rfl (by assumption) (by first | (simp; done) | fail) (by rfl) (by first | exact SX.at0 | exact SX.at1 | exact SX.at2 | exact SX.at3 | exact SX.at4 | exact SX.at5) (by rfl) ?_) | (refine SX.load_old rfl (by assumption) (by first | (simp; done) | fail) (by rfl) (by assumption) (by first | (simp; done) | fail) (by assumption) ?_) | (refine SX.store_blk rfl (by assumption) (by first | (simp; done) | fail) (by rfl) (by first | (go_simp; exact rfl) | fail) (by rfl) (by first | exact SX.at0 | exact SX.at1 | exact SX.at2 | exact SX.at3 | exact SX.at4 | exact SX.at5) (by first | (simp; done) | fail) ?_; intro w1 hs1; simp only [List.set_cons_zero, List.set_cons_succ, List.setIfInBounds_toArray] at hs1) | (refine SX.alc_ptr rfl (by assumption) (by first | (intro W; go_simp; exact rfl) | fail) ?_; intro g1 w1 hs1) | (refine SX.alc_slice rfl (by assumption) (by first | (intro W; go_simp; exact rfl) | fail) ?_; intro g1 w1 hs1) | (refine SX.store_agg rfl (by assumption) (by rfl) (by first | (go_simp; exact rfl) | fail) (by kernel_rfl) (by first | (simp [Value.oneCell']; done) | fail) (by first | exact SX.at0 | exact SX.at1 | exact SX.at2 | exact SX.at3 | exact SX.at4 | exact SX.at5) (by rfl) ?_; intro w1 hs1; simp only [List.set_cons_zero, List.set_cons_succ, List.setIfInBounds_toArray] at hs1) | (refine SX.load_aggB rfl (by assumption) (by first | (simp; done) | fail) (by rfl) (by first | exact SX.at0 | exact SX.at1 | exact SX.at2 | exact SX.at3 | exact SX.at4 | exact SX.at5) (by kernel_rfl) ?_)) | (refine SX.lsc rfl rfl ?_; refine SX.hold (fun q hq => ?_)) | (refine SX.lscw rfl (by rfl) ?_; refine SX.hold (fun q hq => ?_))); refine hq.out ?_; clear hq q)
  refine SX.wp_calls (fun _ => trivial) rfl rfl (by rfl) Try.call20 (by go_simp; rfl) ?_
  refine (SX.call (sameI_any _ _ 2 2 _ _ [5, -127] [5, -127] _ (by exact SX.row_slB hs1 SX.at2) (by exact SX.blk_sl hs1 SX.at0) rfl rfl (by omega) (by omega))).mono ?_
  rintro e w7 ⟨v, rfl, rfl, hy⟩
  have hs7 := hs1.tl.call hy
  simp only [List.cons_append, List.nil_append, List.append_nil] at hs7
  clear hy hs1 hs6
  refine ⟨_, rfl, ?_⟩
  (gi_wp2_with (first | (refine SX.lsm rfl rfl ?_; first | (refine SX.load_blk rfl (by assumption) (by first | (simp; done) | fail) (by rfl) (by first | exact SX.at0 | exact SX.at1 | exact SX.at2 | exact SX.at3 | exact SX.at4 | exact SX.at5) (by rfl) ?_) | (refine SX.load_old rfl (by assumption) (by first | (simp; done) | fail) (by rfl) (by assumption) (by first | (simp; done) | fail) (by assumption) ?_) | (refine SX.store_blk rfl (by assumption) (by first | (simp; done) | fail) (by rfl) (by first | (go_simp; exact rfl) | fail) (by rfl) (by first | exact SX.at0 | exact SX.at1 | exact SX.at2 | exact SX.at3 | exact SX.at4 | exact SX.at5) (by first | (simp; done) | fail) ?_; intro w1 hs1; simp only [List.set_cons_zero, List.set_cons_succ, List.setIfInBounds_toArray] at hs1) | (refine SX.alc_ptr rfl (by assumption) (by first | (intro W; go_simp; exact rfl) | fail) ?_; intro g1 w1 hs1) | (refine SX.alc_slice rfl (by assumption) (by first | (intro W; go_simp; exact rfl) | fail) ?_; intro g1 w1 hs1) | (refine SX.store_agg rfl (by assumption) (by rfl) (by first | (go_simp; exact rfl) | fail) (by kernel_rfl) (by first | (simp [Value.oneCell']; done) | fail) (by first | exact SX.at0 | exact SX.at1 | exact SX.at2 | exact SX.at3 | exact SX.at4 | exact SX.at5) (by rfl) ?_; intro w1 hs1; simp only [List.set_cons_zero, List.set_cons_succ, List.setIfInBounds_toArray] at hs1) | (refine SX.load_aggB rfl (by assumption) (by first | (simp; done) | fail) (by rfl) (by first | exact SX.at0 | exact SX.at1 | exact SX.at2 | exact SX.at3 | exact SX.at4 | exact SX.at5) (by kernel_rfl) ?_)) | (refine SX.lsmw rfl (by rfl) ?_; first | (refine SX.load_blk rfl (by assumption) (by first | (simp; done) | fail) (by rfl) (by first | exact SX.at0 | exact SX.at1 | exact SX.at2 | exact SX.at3 | exact SX.at4 | exact SX.at5) (by rfl) ?_) | (refine SX.load_old rfl (by assumption) (by first | (simp; done) | fail) (by rfl) (by assumption) (by first | (simp; done) | fail) (by assumption) ?_) | (refine SX.store_blk rfl (by assumption) (by first | (simp; done) | fail) (by rfl) (by first | (go_simp; exact rfl) | fail) (by rfl) (by first | exact SX.at0 | exact SX.at1 | exact SX.at2 | exact SX.at3 | exact SX.at4 | exact SX.at5) (by first | (simp; done) | fail) ?_; intro w1 hs1; simp only [List.set_cons_zero, List.set_cons_succ, List.setIfInBounds_toArray] at hs1) | (refine SX.alc_ptr rfl (by assumption) (by first | (intro W; go_simp; exact rfl) | fail) ?_; intro g1 w1 hs1) | (refine SX.alc_slice rfl (by assumption) (by first | (intro W; go_simp; exact rfl) | fail) ?_; intro g1 w1 hs1) | (refine SX.store_agg rfl (by assumption) (by rfl) (by first | (go_simp; exact rfl) | fail) (by kernel_rfl) (by first | (simp [Value.oneCell']; done) | fail) (by first | exact SX.at0 | exact SX.at1 | exact SX.at2 | exact SX.at3 | exact SX.at4 | exact SX.at5) (by rfl) ?_; intro w1 hs1; simp only [List.set_cons_zero, List.set_cons_succ, List.setIfInBounds_toArray] at hs1) | (refine SX.load_aggB rfl (by assumption) (by first | (simp; done) | fail) (by rfl) (by first | exact SX.at0 | exact SX.at1 | exact SX.at2 | exact SX.at3 | exact SX.at4 | exact SX.at5) (by kernel_rfl) ?_)) | (refine SX.lsc rfl rfl ?_; refine SX.hold (fun q hq => ?_)) | (refine SX.lscw rfl (by rfl) ?_; refine SX.hold (fun q hq => ?_))); refine hq.out ?_; clear hq q)
  refine SX.wp_calls (fun _ => trivial) rfl rfl (by rfl) Try.call20 (by go_simp; rfl) ?_
  refine (SX.call (sameI_any _ _ 4 4 _ _ [48, 0, -8, 32] [48, 0, -8, 32] _ (by exact SX.row_slB hs1 SX.at1) (by exact SX.blk_sl hs1 SX.at0) rfl rfl (by omega) (by omega))).mono ?_
  rintro e w8 ⟨v, rfl, rfl, hy⟩
  have hs8 := hs1.tl.call hy
  simp only [List.cons_append, List.nil_append, List.append_nil] at hs8
  clear hy hs1 hs7
  refine ⟨_, rfl, ?_⟩
  gi_wp2
  go_ret
  exact ⟨_, rfl, rfl, hs8.sub (List.nil_sublist _)⟩
end Go.Proofs.Ythncbdoiilgnhaa
