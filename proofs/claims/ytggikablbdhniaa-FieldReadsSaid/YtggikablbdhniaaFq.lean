/- The law's valid. -/
import Derived.Test.YtggikablbdhniaaFp
namespace Go.Proofs.Ytggikablbdhniaa
open Go.RowKit
set_option linter.unusedSimpArgs false
set_option linter.unusedVariables false

def vw (f : Int × Int) : Nat := (f.2 % 18446744073709551616 % 65).toNat
def vv (f : Int × Int) : Int := if vw f < 64 then f.1 % 2 ^ vw f else f.1
/-- a field made to fit -/
def vf (f : Int × Int) : Int × Int := (vv f, (vw f : Int))
theorem vw_lt (f : Int × Int) : vw f < 65 := by unfold vw; omega
theorem vv_bd {f : Int × Int} (h : GoodF f) : 0 ≤ vv f ∧ vv f < 18446744073709551616 := by
  have h1 := h.1
  have h2 := h.2.1
  unfold vv
  split
  · have hp : (0 : Int) < 2 ^ vw f := Int.pow_pos (by decide)
    have h3 := Int.emod_nonneg f.1 (Int.ne_of_gt hp)
    have h4 : f.1 % 2 ^ vw f ≤ f.1 := by
      have h5 := Int.emod_add_mul_ediv f.1 (2 ^ vw f)
      have h6 := Int.mul_nonneg (Int.le_of_lt hp) (Int.ediv_nonneg h1 (Int.le_of_lt hp))
      omega
    omega
  · exact ⟨h1, h2⟩
theorem vf_good {f : Int × Int} (h : GoodF f) : GoodF (vf f) := by
  have h1 := vv_bd h
  have h2 := vw_lt f
  exact ⟨h1.1, h1.2, by show _ ≤ (vw f : Int); omega, by show (vw f : Int) ≤ _; omega⟩
theorem vf_chk {f : Int × Int} (h : GoodF f) : chkF (vf f) = 0 := by
  have h1 := vv_bd h
  have h2 := vw_lt f
  unfold chkF
  rw [if_neg (by show ¬ ((vw f : Int) < 0 ∨ 64 < (vw f : Int)); omega)]
  have hq : quoF (vf f) = 0 := by
    show (vv f).toNat / 2 ^ (vw f : Int).toNat = 0
    rw [Int.toNat_natCast]
    apply Nat.div_eq_of_lt
    by_cases h64 : vw f < 64
    · have e : vv f = f.1 % 2 ^ vw f := by unfold vv; rw [if_pos h64]
      have hp : (0 : Int) < 2 ^ vw f := Int.pow_pos (by decide)
      have h3 := Int.emod_lt_of_pos f.1 hp
      have e2 : ((2 ^ vw f : Nat) : Int) = (2 : Int) ^ vw f := by push_cast; rfl
      rw [e] at h1 ⊢
      omega
    · have h5 : vw f = 64 := by omega
      rw [h5]
      have : (2 : Nat) ^ 64 = 18446744073709551616 := by decide
      omega
  rw [if_pos hq]
theorem vfs_chk : ∀ {fs : List (Int × Int)}, (∀ f ∈ fs, GoodF f) → chkA (fs.map vf) = 0
  | [], _ => rfl
  | f :: fs, h => by
    simp only [List.map_cons, chkA]
    rw [if_pos (vf_chk (h f (by simp)))]
    exact vfs_chk fun g hg => h g (by simp [hg])
theorem vfs_good {fs : List (Int × Int)} (h : ∀ f ∈ fs, GoodF f) : ∀ f ∈ fs.map vf, GoodF f := by
  intro f hf
  obtain ⟨g, hg, rfl⟩ := List.mem_map.1 hf
  exact vf_good (h g hg)

theorem wrap65 (f : Int × Int) : IntKind.u64.wrap f.2 = f.2 % 18446744073709551616 := by
  unfold IntKind.wrap
  simp [IntKind.bits, IntKind.signed]
theorem shl_w {w : Nat} (h : w < 64) : IntKind.u64.wrap (1 * 2 ^ (min (w : Int).toNat IntKind.u64.bits)) = 2 ^ w := by
  have e : min (w : Int).toNat IntKind.u64.bits = w := by
    have : IntKind.u64.bits = 64 := rfl
    omega
  rw [e, Int.one_mul]
  have h1 : (2 : Nat) ^ w ≤ 2 ^ 63 := Nat.pow_le_pow_right (by decide) (by omega)
  have h2 : (2 : Nat) ^ 63 = 9223372036854775808 := by decide
  have h3 : ((2 ^ w : Nat) : Int) = (2 : Int) ^ w := by push_cast; rfl
  rw [← h3]
  generalize (2 : Nat) ^ w = q at *
  exact Z.wu64 (by omega)
theorem rem65 (f : Int × Int) : (f.2 % 18446744073709551616).tmod 65 = (vw f : Int) := by
  rw [Z.tmodn (by omega)]
  unfold vw
  omega
theorem rem_w {v : Int} {w : Nat} (h : 0 ≤ v) : v.tmod (2 ^ w) = v % 2 ^ w := Int.tmod_eq_emod_of_nonneg h

set_option maxRecDepth 100000 in
theorem valid_any (A : Option Addr) (n c : Nat) (fs : List (Int × Int)) (w : World) (hx : Sx w [] A (fs.flatMap encF)) (hl : fs.length = n) (hn : n ≤ 1000) (hg : ∀ f ∈ fs, GoodF f) :
    Calls Try.prog 19 #[.slice A n c] w (SX.Ret fun r w' => SX.St w [] w' [SX.Ent.row r 50 2 n ((fs.map vf).flatMap encF)]) := by
  have hs := SX.St.start w
  have hfl : (fs.flatMap encF).length = n * 2 := by rw [Z.flat_length (s := 2) encF_length, hl]
  refine Z.enter Try.func19 rfl Try.ntmps19 rfl rfl ?_
  refine Z.seq ?_
  refine Z.region ?_
  refine Z.lb 1 rfl ?_
  refine Z.lnil ?_
  refine Z.only [0] rfl ?_
  refine Z.nthen ?_
  refine Z.seq ?_
  refine Z.region ?_
  refine Z.lb 1 rfl ?_
  refine Z.lnil ?_
  refine Z.only [0, 3] rfl ?_
  refine Z.nthen ?_
  refine Z.seq ?_
  refine Z.seq ?_
  refine Z.region ?_
  refine Z.lb 1 rfl ?_
  refine Z.lnil ?_
  refine Z.only [0, 3, 4] rfl ?_
  refine Z.nthen ?_
  refine Z.block ?_
  refine Z.loopk (ι := Nat × Value) [0] rfl (fun k => [(3, [], k.2), (4, [], .int .i64 (k.1 : Int))]) (fun k wr => k.1 ≤ n ∧ SX.St w [] wr [SX.Ent.row k.2 50 2 k.1 (((fs.take k.1).map vf).flatMap encF)]) (fun k => n - k.1) (0, .slice none 0 0) (by refine ⟨?_, ?_, trivial⟩ <;> (first | rfl | (refine Z.lookv rfl ?_; simp; done) | (refine Z.lookv rfl ?_; simp; omega))) ⟨by omega, hs.nil _ _⟩ ?_
  clear hs
  rintro ⟨k, sv⟩ w1 ⟨hkn, hs⟩
  refine Z.only [0, 3, 4] rfl ?_
  dsimp only at hs
  refine Z.seq ?_
  refine Z.seq ?_
  refine Z.region ?_
  refine Z.lb 2 rfl ?_
  refine Z.l rfl rfl (by rfl) (Z.keepS hs) (Z.Yd.lenS rfl Try.underlying34) ?_
  refine Z.lb 1 rfl ?_
  refine Z.lnil ?_
  refine Z.only [0, 3, 4, 9] rfl ?_
  refine Z.nthen ?_
  refine Z.cond rfl (fun hc3 => ?_) (fun hc3 => ?_)
  · first
      | (exfalso; simp at hc3 <;> omega)
      | (
        (try simp at hc3)
        obtain ⟨b, off, rfl, hx⟩ := hx.some (by omega)
        obtain ⟨⟨v, wd⟩, hf⟩ : ∃ f, fs[k]? = some f := ⟨_, List.getElem?_eq_getElem (by omega)⟩
        have hgf := hg _ (List.mem_of_getElem? hf)
        obtain ⟨hv0, hv1, hw0, hw1⟩ := hgf
        simp only at hv0 hv1 hw0 hw1
        have hvw := vw_lt (v, wd)
        refine Z.skip ?_
        refine Z.nthen ?_
        refine Z.seq ?_
        refine Z.block ?_
        refine Z.seq ?_
        refine Z.region ?_
        refine Z.lb 2 rfl ?_
        refine Z.l rfl rfl (by rfl) (Z.keepS hs) (Z.Yd.elem rfl rfl Try.underlying34 Try.sizeOf50 (fun hG => ⟨(by first | omega | (have hG' := Z.gh rfl hG; simp at hG'; omega)), (by first | omega | (have hG' := Z.gh rfl hG; simp at hG'; omega))⟩)) ?_
        refine Z.l rfl rfl (by rfl) (Z.keepS hs) (Z.Yd.loadA _ rfl Try.isAgg50 (fun _ => Z.cellsX [.int .u64 v, .int .i64 wd] hx encF_length hf rfl) (by exact Try.sizeOf50)) ?_
        refine Z.le rfl trivial ?_
        refine Z.ZO.alloc rfl rfl (by rfl) Try.zeroValue50 rfl hs ?_
        clear hs; intro g5 w5 hs
        refine Z.le rfl trivial ?_
        refine Z.ZO.storeA rfl rfl hs rfl rfl (by kernel_rfl) (by simp [Value.oneCell']) (by first | exact SX.at0 | exact SX.at1 | exact SX.at2 | exact SX.at3 | exact SX.at4 | exact SX.at5 | exact Z.at6 | exact Z.at7 | exact Z.at8 | exact Z.at9 | exact Z.at10 | exact Z.at11 | exact Z.at12) (by rfl) ?_
        clear hs; intro ws hs
        simp only [Nat.zero_add, Nat.add_zero, Nat.reduceAdd, List.set_cons_zero, List.set_cons_succ, List.setIfInBounds_toArray] at hs
        refine Z.lnil ?_
        refine Z.only [0, 3, 4, 5] rfl ?_
        refine Z.nthen ?_
        refine Z.seq ?_
        refine Z.region ?_
        refine Z.l rfl rfl (by rfl) (Z.keepS hs) (Z.Yd.fieldA (m := 1) rfl (by kernel_rfl)) ?_
        refine Z.l rfl rfl (by rfl) (Z.keepS hs) (by first | exact Z.Yd.load rfl Try.isAgg3 (fun _ => Z.cellB (by first | ((repeat (first | exact List.mem_cons_self | refine List.mem_cons_of_mem _ ?_ | refine List.mem_append_right _ ?_)); done) | fail) rfl) | exact Z.Yd.load rfl Try.isAgg3 (fun _ => Z.cellO (by assumption) (by simp) (by assumption)) | fail "load 6.1") ?_
        refine Z.l rfl rfl (by rfl) (Z.keepS hs) (Z.Yd.convI rfl ⟨_, Try.underlying3⟩ Try.underlying82 (fun _ => wrap65 (v, wd))) ?_
        refine Z.l rfl rfl (by rfl) (Z.keepS hs) (Z.Yd.rem rfl rfl (by intro hG; first | decide | omega) (fun _ => rem65 (v, wd))) ?_
        refine Z.l rfl rfl (by rfl) (Z.keepS hs) (Z.Yd.convI rfl ⟨_, Try.underlying82⟩ Try.underlying3 (fun hG => Z.wi64 (by first | omega | (have hG' := Z.gh rfl hG; simp at hG'; omega)))) ?_
        refine Z.l rfl rfl (by rfl) (Z.keepS hs) (Z.Yd.fieldA (m := 1) rfl (by kernel_rfl)) ?_
        refine Z.le rfl trivial ?_
        first | refine Z.ZO.store rfl rfl hs Try.sizeOf3 rfl rfl rfl (by first | exact SX.at0 | exact SX.at1 | exact SX.at2 | exact SX.at3 | exact SX.at4 | exact SX.at5 | exact Z.at6 | exact Z.at7 | exact Z.at8 | exact Z.at9 | exact Z.at10 | exact Z.at11 | exact Z.at12) (by simp) ?_ | refine Z.ZO.storeR rfl rfl hs Try.sizeOf3 rfl rfl rfl (by first | exact SX.at0 | exact SX.at1 | exact SX.at2 | exact SX.at3 | exact SX.at4 | exact SX.at5 | exact Z.at6 | exact Z.at7 | exact Z.at8 | exact Z.at9 | exact Z.at10 | exact Z.at11 | exact Z.at12) (by first | omega | (simp [ints_length]; done) | (simp [ints_length]; omega)) ?_
        clear hs; intro ws hs
        simp only [Nat.zero_add, Nat.add_zero, Nat.reduceAdd, List.set_cons_zero, List.set_cons_succ, List.setIfInBounds_toArray] at hs
        refine Z.lnil ?_
        refine Z.only [0, 3, 4, 5] rfl ?_
        refine Z.nthen ?_
        refine Z.seq ?_
        refine Z.seq ?_
        refine Z.region ?_
        refine Z.l rfl rfl (by rfl) (Z.keepS hs) (Z.Yd.fieldA (m := 1) rfl (by kernel_rfl)) ?_
        refine Z.l rfl rfl (by rfl) (Z.keepS hs) (by first | exact Z.Yd.load rfl Try.isAgg3 (fun _ => Z.cellB (by first | ((repeat (first | exact List.mem_cons_self | refine List.mem_cons_of_mem _ ?_ | refine List.mem_append_right _ ?_)); done) | fail) rfl) | exact Z.Yd.load rfl Try.isAgg3 (fun _ => Z.cellO (by assumption) (by simp) (by assumption)) | fail "load 7.1") ?_
        refine Z.lb 1 rfl ?_
        refine Z.lnil ?_
        refine Z.only [0, 3, 4, 5, 24] rfl ?_
        refine Z.nthen ?_
        refine Z.cond rfl (fun hc7 => ?_) (fun hc7 => ?_)
        · first
            | (exfalso; simp at hc7 <;> omega)
            | (
              (try simp at hc7)
              refine Z.drawK (fun j => j != 7) mixed hs ?_
              clear hs; intro wd8 hs
              refine Z.t 0 rfl rfl rfl (by rfl) (by kernel_rfl) ⟨_, hs, by first | (simp; done) | exact fun e he => List.mem_append_right _ he⟩ (Z.Yd.fieldA (m := 0) rfl (by kernel_rfl)) ?_
              refine Z.t 1 rfl rfl rfl (by rfl) (by kernel_rfl) ⟨_, hs, by first | (simp; done) | exact fun e he => List.mem_append_right _ he⟩ (by first | exact Z.Yd.load rfl Try.isAgg33 (fun _ => Z.cellB (by first | ((repeat (first | exact List.mem_cons_self | refine List.mem_cons_of_mem _ ?_ | refine List.mem_append_right _ ?_)); done) | fail) rfl) | exact Z.Yd.load rfl Try.isAgg33 (fun _ => Z.cellO (by assumption) (by simp) (by assumption)) | fail "load 8.1") ?_
              refine Z.t 2 rfl rfl rfl (by rfl) (by kernel_rfl) ⟨_, hs, by first | (simp; done) | exact fun e he => List.mem_append_right _ he⟩ (Z.Yd.fieldA (m := 1) rfl (by kernel_rfl)) ?_
              refine Z.t 3 rfl rfl rfl (by rfl) (by kernel_rfl) ⟨_, hs, by first | (simp; done) | exact fun e he => List.mem_append_right _ he⟩ (by first | exact Z.Yd.load rfl Try.isAgg3 (fun _ => Z.cellB (by first | ((repeat (first | exact List.mem_cons_self | refine List.mem_cons_of_mem _ ?_ | refine List.mem_append_right _ ?_)); done) | fail) rfl) | exact Z.Yd.load rfl Try.isAgg3 (fun _ => Z.cellO (by assumption) (by simp) (by assumption)) | fail "load 8.3") ?_
              refine Z.t 4 rfl rfl rfl (by rfl) (by kernel_rfl) ⟨_, hs, by first | (simp; done) | exact fun e he => List.mem_append_right _ he⟩ (Z.Yd.shl rfl rfl (by intro hG; first | decide | omega) (fun _ => shl_w (by omega))) ?_
              refine Z.t 5 rfl rfl rfl (by rfl) (by kernel_rfl) ⟨_, hs, by first | (simp; done) | exact fun e he => List.mem_append_right _ he⟩ (Z.Yd.rem rfl rfl (fun _ => Int.ne_of_gt (Int.pow_pos (by decide))) (fun _ => rem_w hv0)) ?_
              refine Z.t 6 rfl rfl rfl (by rfl) (by kernel_rfl) ⟨_, hs, by first | (simp; done) | exact fun e he => List.mem_append_right _ he⟩ (Z.Yd.fieldA (m := 0) rfl (by kernel_rfl)) ?_
              refine Z.tn 7 rfl rfl (by kernel_rfl) rfl trivial ?_
              first | refine Z.ZO.store rfl rfl hs Try.sizeOf33 rfl rfl rfl (by first | exact SX.at0 | exact SX.at1 | exact SX.at2 | exact SX.at3 | exact SX.at4 | exact SX.at5 | exact Z.at6 | exact Z.at7 | exact Z.at8 | exact Z.at9 | exact Z.at10 | exact Z.at11 | exact Z.at12) (by simp) ?_ | refine Z.ZO.storeR rfl rfl hs Try.sizeOf33 rfl rfl rfl (by first | exact SX.at0 | exact SX.at1 | exact SX.at2 | exact SX.at3 | exact SX.at4 | exact SX.at5 | exact Z.at6 | exact Z.at7 | exact Z.at8 | exact Z.at9 | exact Z.at10 | exact Z.at11 | exact Z.at12) (by first | omega | (simp [ints_length]; done) | (simp [ints_length]; omega)) ?_
              clear hs; intro ws hs
              simp only [Nat.zero_add, Nat.add_zero, Nat.reduceAdd, List.set_cons_zero, List.set_cons_succ, List.setIfInBounds_toArray] at hs
              refine Z.tk (Dn := fun j => j != 7) (i := 7) (fun h => absurd h (by decide)) ?_
              refine Z.td (by rfl) (by kernel_rfl) ?_
              refine Z.only [0, 3, 4, 5] rfl ?_
              refine Z.nthen ?_
              refine Z.region ?_
              refine Z.lb 1 rfl ?_
              refine Z.l rfl rfl (by rfl) (Z.keepS hs) (by first | exact Z.Yd.loadA _ rfl Try.isAgg50 (fun _ => Z.cellsB (by first | ((repeat (first | exact List.mem_cons_self | refine List.mem_cons_of_mem _ ?_ | refine List.mem_append_right _ ?_)); done) | fail)) (by exact Try.sizeOf50) | fail "load 9.1") ?_
              refine Z.le rfl trivial ?_
              refine Z.ZO.lit rfl rfl (by rfl) rfl (by intro W; go_simp; exact rfl) hs ?_
              clear hs; intro g34 w34 hs
              refine Z.le rfl trivial ?_
              refine Z.ZO.append (i0 := Try.t50) (size := 2) (bytes := 16) rfl rfl (by rfl) hs Try.underlying34 (by kernel_rfl) rfl rfl rfl rfl (by decide) rfl rfl (by first | exact SX.at0 | exact SX.at1 | exact SX.at2 | exact SX.at3 | exact SX.at4 | exact SX.at5 | exact Z.at6 | exact Z.at7 | exact Z.at8 | exact Z.at9 | exact Z.at10 | exact Z.at11 | exact Z.at12) (by first | exact SX.at0 | exact SX.at1 | exact SX.at2 | exact SX.at3 | exact SX.at4 | exact SX.at5 | exact Z.at6 | exact Z.at7 | exact Z.at8 | exact Z.at9 | exact Z.at10 | exact Z.at11 | exact Z.at12) (by first | rfl | simp) (by simp [Value.oneCell']) (by decide) (by unfold maxLen; omega) (by omega) ?_
              clear hs; intro g35 cap35 w35 hs
              simp only [List.set_cons_zero, List.set_cons_succ, List.eraseIdx_cons_zero, List.eraseIdx_cons_succ] at hs
              refine Z.lb 1 rfl ?_
              refine Z.lnil ?_
              refine Z.only [0, 3, 4] rfl ?_
              refine Z.nblock ?_
              refine Z.nthen ?_
              refine Z.region ?_
              refine Z.lb 1 rfl ?_
              refine Z.l rfl rfl (by rfl) (Z.keepS hs) (Z.Yd.add rfl rfl (fun hG => Z.wi64 (by first | omega | (have hG' := Z.gh rfl hG; simp at hG'; omega)))) ?_
              refine Z.lb 1 rfl ?_
              refine Z.lnil ?_
              refine Z.only [0, 3, 4] rfl ?_
              refine Z.nthen ?_
              first
              | (have e : vf (v, wd) = (v % 2 ^ vw (v, wd), ((vw (v, wd) : Nat) : Int)) := by unfold vf vv; rw [if_pos (by omega)]
                 have e2 : ((fs.take k).map vf).flatMap encF ++ [.int .u64 (v % 2 ^ vw (v, wd)), .int .i64 ((vw (v, wd) : Nat) : Int)] = ((fs.take (k + 1)).map vf).flatMap encF := by
                   rw [← take_snoc hf, List.map_append, List.flatMap_append]
                   simp [e, encF]
                 rw [e2] at hs
                 exact Z.again (k + 1, _) (by refine ⟨?_, ?_, ?_, trivial⟩ <;> (first | rfl | (refine Z.lookv rfl ?_; simp; done) | (refine Z.lookv rfl ?_; simp; omega))) ⟨by simp only; omega, hs.tl⟩ (by simp only; omega))
              | (have e : vf (v, wd) = (v, ((vw (v, wd) : Nat) : Int)) := by unfold vf vv; rw [if_neg (by omega)]
                 have e2 : ((fs.take k).map vf).flatMap encF ++ [.int .u64 v, .int .i64 ((vw (v, wd) : Nat) : Int)] = ((fs.take (k + 1)).map vf).flatMap encF := by
                   rw [← take_snoc hf, List.map_append, List.flatMap_append]
                   simp [e, encF]
                 rw [e2] at hs
                 exact Z.again (k + 1, _) (by refine ⟨?_, ?_, ?_, trivial⟩ <;> (first | rfl | (refine Z.lookv rfl ?_; simp; done) | (refine Z.lookv rfl ?_; simp; omega))) ⟨by simp only; omega, hs.tl⟩ (by simp only; omega))
              )
        · first
            | (exfalso; simp at hc7 <;> omega)
            | (
              (try simp at hc7)
              refine Z.skip ?_
              refine Z.nthen ?_
              refine Z.region ?_
              refine Z.lb 1 rfl ?_
              refine Z.l rfl rfl (by rfl) (Z.keepS hs) (by first | exact Z.Yd.loadA _ rfl Try.isAgg50 (fun _ => Z.cellsB (by first | ((repeat (first | exact List.mem_cons_self | refine List.mem_cons_of_mem _ ?_ | refine List.mem_append_right _ ?_)); done) | fail)) (by exact Try.sizeOf50) | fail "load 9.1") ?_
              refine Z.le rfl trivial ?_
              refine Z.ZO.lit rfl rfl (by rfl) rfl (by intro W; go_simp; exact rfl) hs ?_
              clear hs; intro g34 w34 hs
              refine Z.le rfl trivial ?_
              refine Z.ZO.append (i0 := Try.t50) (size := 2) (bytes := 16) rfl rfl (by rfl) hs Try.underlying34 (by kernel_rfl) rfl rfl rfl rfl (by decide) rfl rfl (by first | exact SX.at0 | exact SX.at1 | exact SX.at2 | exact SX.at3 | exact SX.at4 | exact SX.at5 | exact Z.at6 | exact Z.at7 | exact Z.at8 | exact Z.at9 | exact Z.at10 | exact Z.at11 | exact Z.at12) (by first | exact SX.at0 | exact SX.at1 | exact SX.at2 | exact SX.at3 | exact SX.at4 | exact SX.at5 | exact Z.at6 | exact Z.at7 | exact Z.at8 | exact Z.at9 | exact Z.at10 | exact Z.at11 | exact Z.at12) (by first | rfl | simp) (by simp [Value.oneCell']) (by decide) (by unfold maxLen; omega) (by omega) ?_
              clear hs; intro g35 cap35 w35 hs
              simp only [List.set_cons_zero, List.set_cons_succ, List.eraseIdx_cons_zero, List.eraseIdx_cons_succ] at hs
              refine Z.lb 1 rfl ?_
              refine Z.lnil ?_
              refine Z.only [0, 3, 4] rfl ?_
              refine Z.nblock ?_
              refine Z.nthen ?_
              refine Z.region ?_
              refine Z.lb 1 rfl ?_
              refine Z.l rfl rfl (by rfl) (Z.keepS hs) (Z.Yd.add rfl rfl (fun hG => Z.wi64 (by first | omega | (have hG' := Z.gh rfl hG; simp at hG'; omega)))) ?_
              refine Z.lb 1 rfl ?_
              refine Z.lnil ?_
              refine Z.only [0, 3, 4] rfl ?_
              refine Z.nthen ?_
              first
              | (have e : vf (v, wd) = (v % 2 ^ vw (v, wd), ((vw (v, wd) : Nat) : Int)) := by unfold vf vv; rw [if_pos (by omega)]
                 have e2 : ((fs.take k).map vf).flatMap encF ++ [.int .u64 (v % 2 ^ vw (v, wd)), .int .i64 ((vw (v, wd) : Nat) : Int)] = ((fs.take (k + 1)).map vf).flatMap encF := by
                   rw [← take_snoc hf, List.map_append, List.flatMap_append]
                   simp [e, encF]
                 rw [e2] at hs
                 exact Z.again (k + 1, _) (by refine ⟨?_, ?_, ?_, trivial⟩ <;> (first | rfl | (refine Z.lookv rfl ?_; simp; done) | (refine Z.lookv rfl ?_; simp; omega))) ⟨by simp only; omega, hs.tl⟩ (by simp only; omega))
              | (have e : vf (v, wd) = (v, ((vw (v, wd) : Nat) : Int)) := by unfold vf vv; rw [if_neg (by omega)]
                 have e2 : ((fs.take k).map vf).flatMap encF ++ [.int .u64 v, .int .i64 ((vw (v, wd) : Nat) : Int)] = ((fs.take (k + 1)).map vf).flatMap encF := by
                   rw [← take_snoc hf, List.map_append, List.flatMap_append]
                   simp [e, encF]
                 rw [e2] at hs
                 exact Z.again (k + 1, _) (by refine ⟨?_, ?_, ?_, trivial⟩ <;> (first | rfl | (refine Z.lookv rfl ?_; simp; done) | (refine Z.lookv rfl ?_; simp; omega))) ⟨by simp only; omega, hs.tl⟩ (by simp only; omega))
              )
        )
  · first
      | (exfalso; simp at hc3 <;> omega)
      | (
        (try simp at hc3)
        refine Z.exit ?_
        refine Z.xthen ?_
        refine Z.xthen ?_
        refine Z.xblock ?_
        refine Z.nthen ?_
        refine Z.seq ?_
        refine Z.region ?_
        refine Z.lb 2 rfl ?_
        refine Z.lnil ?_
        refine Z.only [2] rfl ?_
        refine Z.nthen ?_
        refine Z.ret ?_
        -- ret#0
        refine Z.out1 (by exact ⟨rfl, trivial⟩) ?_
        obtain rfl : k = n := by omega
        rw [List.take_of_length_le (by omega)] at hs
        exact ⟨_, rfl, hs⟩
        )
end Go.Proofs.Ytggikablbdhniaa
