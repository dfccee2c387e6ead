/- The writer: add. -/
import Derived.Test.YteabcdmgklhijaaRows
import Derived.Test.YteabcdmgklhijaaFm
namespace Go.Proofs.Yteabcdmgklhijaa
open Go.RowKit
set_option linter.unusedSimpArgs false
set_option linter.unusedVariables false
theorem mixed : Try.prog.follows .mixedOrders = true := by kernel_rfl

/-- a writer at block g that holds the bits bs -/
def WrL (g T : Nat) (sv : Value) (bs : List Bool) : List SX.Ent := [SX.Ent.blk g T #[sv, .int .i64 (bs.length : Int)], SX.Ent.row sv 5 1 (pk bs).length (ints .u8 (pk bs))]

theorem elt_pkn {bs : List Bool} {m j : Nat} (h : j < m) : elt (pkn bs m) (j : Int) = (byt bs j : Int) := by
  simp [elt, pkn, h]
theorem pkn_at {bs : List Bool} {m j : Nat} {i : Int} (hi : i = (j : Int)) (h : j < m) : (ints .u8 (pkn bs m))[0 + i.toNat * 1]? = some (.int .u8 (byt bs j : Int)) := by
  subst hi
  have := Z.ints_at (k := .u8) (l := pkn bs m) (i := (j : Int)) (by omega) (by rw [pkn_length]; omega)
  rwa [elt_pkn h] at this
theorem shl_bit (b : Bool) (r : Nat) (hr : r < 8) : IntKind.u8.wrap (bi b * 2 ^ (min ((7 : Int) - (r : Int)).toNat IntKind.u8.bits)) = bi b * 2 ^ (7 - r) := by
  have h8 : r = 0 ∨ r = 1 ∨ r = 2 ∨ r = 3 ∨ r = 4 ∨ r = 5 ∨ r = 6 ∨ r = 7 := by omega
  rcases h8 with rfl | rfl | rfl | rfl | rfl | rfl | rfl | rfl <;> cases b <;> decide
theorem set_byt (bs : List Bool) (b : Bool) : (ints .u8 (pkn bs (bs.length / 8 + 1))).set (((bs.length : Int) / 8).toNat * 1) (.int .u8 (byt (bs ++ [b]) (bs.length / 8) : Nat)) = ints .u8 (pk (bs ++ [b])) := by
  have e : (((bs.length : Int) / 8).toNat * 1) = bs.length / 8 := by omega
  rw [e, ← pk_snoc]
  simp only [ints]
  rw [List.map_set]

set_option maxRecDepth 100000 in
theorem add_any (g T : Nat) (sv : Value) (bs : List Bool) (b : Bool) (w : World) (hs : SX.St w (SX.idsOf (WrL g T sv bs)) w (WrL g T sv bs)) (hb : bs.length ≤ 10000000) :
    Calls Try.prog 66 #[.pointer (some ⟨g, 0, none⟩), .int .u8 (bi b)] w (SX.Ret fun v w' => ∃ sv', v = .tuple #[] ∧ SX.St w (SX.idsOf (WrL g T sv bs)) w' (WrL g T sv' (bs ++ [b]))) := by
  have hpl : (pk bs).length ≤ 2000000 := by rw [pk_length]; omega
  have hbb := bi_bd b
  generalize SX.idsOf (WrL g T sv bs) = M at *
  simp only [WrL] at hs
  refine Z.enter Try.func66 rfl Try.ntmps66 rfl rfl ?_
  refine Z.seq ?_
  refine Z.seq ?_
  refine Z.region ?_
  refine Z.lb 1 rfl ?_
  refine Z.l rfl rfl (by rfl) (Z.keepS hs) (Z.Yd.nilc rfl rfl) ?_
  refine Z.l rfl rfl (by rfl) (Z.keepS hs) (Z.Yd.fieldA (m := 1) rfl (by kernel_rfl)) ?_
  refine Z.l rfl rfl (by rfl) (Z.keepS hs) (by first | exact Z.Yd.load rfl Try.isAgg3 (fun _ => Z.cellB (by first | ((repeat (first | exact List.mem_cons_self | refine List.mem_cons_of_mem _ ?_ | refine List.mem_append_right _ ?_)); done) | fail) rfl) | exact Z.Yd.load rfl Try.isAgg3 (fun _ => Z.cellO (by assumption) (by simp) (by assumption)) | fail "load 0.3") ?_
  refine Z.l rfl rfl (by rfl) (Z.keepS hs) (Z.Yd.rem rfl rfl (by intro hG; first | decide | omega) (by intro hG; first | exact Z.tmodn (by omega) | exact rfl)) ?_
  refine Z.lb 1 rfl ?_
  refine Z.lnil ?_
  refine Z.only [0, 1, 9] rfl ?_
  refine Z.nthen ?_
  refine Z.cutt (ι := Value) [0, 1] rfl (fun _ => []) (fun sv1 wr => SX.St w M wr [SX.Ent.blk g T #[sv1, .int .i64 (bs.length : Int)], SX.Ent.row sv1 5 1 (bs.length / 8 + 1) (ints .u8 (pkn bs (bs.length / 8 + 1)))]) ?_ ?_
  · skip
    refine Z.cond rfl (fun hc0 => ?_) (fun hc0 => ?_)
    · first
        | (exfalso; simp at hc0 <;> omega)
        | (
          (try simp at hc0)
          refine Z.region ?_
          refine Z.lb 2 rfl ?_
          refine Z.l rfl rfl (by rfl) (Z.keepS hs) (Z.Yd.nilc rfl rfl) ?_
          refine Z.l rfl rfl (by rfl) (Z.keepS hs) (Z.Yd.fieldA (m := 0) rfl (by kernel_rfl)) ?_
          refine Z.l rfl rfl (by rfl) (Z.keepS hs) (by first | exact Z.Yd.load rfl Try.isAgg29 (fun _ => Z.cellB (by first | ((repeat (first | exact List.mem_cons_self | refine List.mem_cons_of_mem _ ?_ | refine List.mem_append_right _ ?_)); done) | fail) rfl) | exact Z.Yd.load rfl Try.isAgg29 (fun _ => Z.cellO (by assumption) (by simp) (by assumption)) | fail "load 1.4") ?_
          refine Z.le rfl trivial ?_
          refine Z.ZO.lit rfl rfl (by rfl) rfl (by intro W; go_simp; exact rfl) hs ?_
          clear hs; intro g15 w15 hs
          refine Z.le rfl trivial ?_
          refine Z.ZO.append (i0 := Try.t5) (size := 1) (bytes := 1) rfl rfl (by rfl) hs Try.underlying29 (by kernel_rfl) rfl rfl rfl rfl (by decide) rfl rfl (by first | exact SX.at0 | exact SX.at1 | exact SX.at2 | exact SX.at3 | exact SX.at4 | exact SX.at5 | exact Z.at6 | exact Z.at7 | exact Z.at8 | exact Z.at9 | exact Z.at10 | exact Z.at11 | exact Z.at12) (by first | exact SX.at0 | exact SX.at1 | exact SX.at2 | exact SX.at3 | exact SX.at4 | exact SX.at5 | exact Z.at6 | exact Z.at7 | exact Z.at8 | exact Z.at9 | exact Z.at10 | exact Z.at11 | exact Z.at12) (by first | rfl | simp) (by simp [Value.oneCell']) (by decide) (by unfold maxLen; omega) (by omega) ?_
          clear hs; intro g16 cap16 w16 hs
          simp only [List.set_cons_zero, List.set_cons_succ, List.eraseIdx_cons_zero, List.eraseIdx_cons_succ] at hs
          refine Z.l rfl rfl (by rfl) (Z.keepS hs) (Z.Yd.nilc rfl rfl) ?_
          refine Z.l rfl rfl (by rfl) (Z.keepS hs) (Z.Yd.fieldA (m := 0) rfl (by kernel_rfl)) ?_
          refine Z.le rfl trivial ?_
          first | refine Z.ZO.store rfl rfl hs Try.sizeOf29 rfl rfl rfl (by first | exact SX.at0 | exact SX.at1 | exact SX.at2 | exact SX.at3 | exact SX.at4 | exact SX.at5 | exact Z.at6 | exact Z.at7 | exact Z.at8 | exact Z.at9 | exact Z.at10 | exact Z.at11 | exact Z.at12) (by first | (simp; done) | (simp; omega)) ?_ | refine Z.ZO.storeR rfl rfl hs Try.sizeOf29 rfl rfl rfl (by first | exact SX.at0 | exact SX.at1 | exact SX.at2 | exact SX.at3 | exact SX.at4 | exact SX.at5 | exact Z.at6 | exact Z.at7 | exact Z.at8 | exact Z.at9 | exact Z.at10 | exact Z.at11 | exact Z.at12) (by first | omega | (simp [ints_length]; done) | (simp [ints_length]; omega)) ?_
          clear hs; intro ws hs
          simp only [Nat.zero_add, Nat.add_zero, Nat.reduceAdd, List.set_cons_zero, List.set_cons_succ, List.setIfInBounds_toArray] at hs
          refine Z.lnil ?_
          refine Z.only [0, 1] rfl ?_
          refine Z.nthen ?_
          first
          | (have e := pk_same (bs := bs) (by omega)
             exact Z.meet _ (by refine ⟨?_, ?_, trivial⟩ <;> rfl) (by rw [e, pkn_length] at hs; exact hs))
          | (have e := pk_grow (bs := bs) (by omega)
             have e2 := pk_length bs
             rw [show (pk bs).length + 1 = bs.length / 8 + 1 from by omega] at hs
             have e3 : ints .u8 (pk bs) ++ [.int .u8 0] = ints .u8 (pkn bs (bs.length / 8 + 1)) := by rw [← e]; simp [ints]
             rw [e3] at hs
             exact Z.meet _ (by refine ⟨?_, ?_, trivial⟩ <;> rfl) hs)
          )
    · first
        | (exfalso; simp at hc0 <;> omega)
        | (
          (try simp at hc0)
          refine Z.skip ?_
          refine Z.nthen ?_
          first
          | (have e := pk_same (bs := bs) (by omega)
             exact Z.meet _ (by refine ⟨?_, ?_, trivial⟩ <;> rfl) (by rw [e, pkn_length] at hs; exact hs))
          | (have e := pk_grow (bs := bs) (by omega)
             have e2 := pk_length bs
             rw [show (pk bs).length + 1 = bs.length / 8 + 1 from by omega] at hs
             have e3 : ints .u8 (pk bs) ++ [.int .u8 0] = ints .u8 (pkn bs (bs.length / 8 + 1)) := by rw [← e]; simp [ints]
             rw [e3] at hs
             exact Z.meet _ (by refine ⟨?_, ?_, trivial⟩ <;> rfl) hs)
          )
  · clear hs
    rintro sv1 w1 hs
    refine Z.only [0, 1] rfl ?_
    obtain ⟨g1, cap1, rfl, hc1, hc2⟩ := row_form (j := 1) hs rfl (by omega)
    refine Z.seq ?_
    refine Z.drawK (fun j => j != 21) mixed hs ?_
    clear hs; intro wd2 hs
    refine Z.tb [0] (by kernel_rfl) rfl ⟨_, hs, by first | (simp; done) | exact fun e he => List.mem_append_right _ he⟩ rfl ?_
    refine Z.t 1 rfl rfl rfl (by rfl) (by kernel_rfl) ⟨_, hs, by first | (simp; done) | exact fun e he => List.mem_append_right _ he⟩ (Z.Yd.nilc rfl rfl) ?_
    refine Z.t 2 rfl rfl rfl (by rfl) (by kernel_rfl) ⟨_, hs, by first | (simp; done) | exact fun e he => List.mem_append_right _ he⟩ (Z.Yd.fieldA (m := 0) rfl (by kernel_rfl)) ?_
    refine Z.t 3 rfl rfl rfl (by rfl) (by kernel_rfl) ⟨_, hs, by first | (simp; done) | exact fun e he => List.mem_append_right _ he⟩ (by first | exact Z.Yd.load rfl Try.isAgg29 (fun _ => Z.cellB (by first | ((repeat (first | exact List.mem_cons_self | refine List.mem_cons_of_mem _ ?_ | refine List.mem_append_right _ ?_)); done) | fail) rfl) | exact Z.Yd.load rfl Try.isAgg29 (fun _ => Z.cellO (by assumption) (by simp) (by assumption)) | fail "load 2.3") ?_
    refine Z.tb [4] (by kernel_rfl) rfl ⟨_, hs, by first | (simp; done) | exact fun e he => List.mem_append_right _ he⟩ rfl ?_
    refine Z.t 5 rfl rfl rfl (by rfl) (by kernel_rfl) ⟨_, hs, by first | (simp; done) | exact fun e he => List.mem_append_right _ he⟩ (Z.Yd.nilc rfl rfl) ?_
    refine Z.t 6 rfl rfl rfl (by rfl) (by kernel_rfl) ⟨_, hs, by first | (simp; done) | exact fun e he => List.mem_append_right _ he⟩ (Z.Yd.fieldA (m := 1) rfl (by kernel_rfl)) ?_
    refine Z.t 7 rfl rfl rfl (by rfl) (by kernel_rfl) ⟨_, hs, by first | (simp; done) | exact fun e he => List.mem_append_right _ he⟩ (by first | exact Z.Yd.load rfl Try.isAgg3 (fun _ => Z.cellB (by first | ((repeat (first | exact List.mem_cons_self | refine List.mem_cons_of_mem _ ?_ | refine List.mem_append_right _ ?_)); done) | fail) rfl) | exact Z.Yd.load rfl Try.isAgg3 (fun _ => Z.cellO (by assumption) (by simp) (by assumption)) | fail "load 2.7") ?_
    refine Z.t 8 rfl rfl rfl (by rfl) (by kernel_rfl) ⟨_, hs, by first | (simp; done) | exact fun e he => List.mem_append_right _ he⟩ (Z.Yd.quo rfl rfl (by intro hG; first | decide | omega) (by intro hG; first | exact Z.qi64 ⟨by omega, by omega⟩ (by omega) | exact rfl)) ?_
    refine Z.t 9 rfl rfl rfl (by rfl) (by kernel_rfl) ⟨_, hs, by first | (simp; done) | exact fun e he => List.mem_append_right _ he⟩ (Z.Yd.elem rfl rfl Try.underlying29 Try.sizeOf5 (fun hG => ⟨(by first | omega | (have hG' := Z.gh rfl hG; simp at hG'; omega)), (by first | omega | (have hG' := Z.gh rfl hG; simp at hG'; omega))⟩)) ?_
    refine Z.t 10 rfl rfl rfl (by rfl) (by kernel_rfl) ⟨_, hs, by first | (simp; done) | exact fun e he => List.mem_append_right _ he⟩ (Z.Yd.load rfl Try.isAgg5 (fun _ => Z.cellR (by first | ((repeat (first | exact List.mem_cons_self | refine List.mem_cons_of_mem _ ?_ | refine List.mem_append_right _ ?_)); done) | fail) (pkn_at (j := bs.length / 8) (by omega) (by omega)))) ?_
    refine Z.tb [11, 12] (by kernel_rfl) rfl ⟨_, hs, by first | (simp; done) | exact fun e he => List.mem_append_right _ he⟩ rfl ?_
    refine Z.t 13 rfl rfl rfl (by rfl) (by kernel_rfl) ⟨_, hs, by first | (simp; done) | exact fun e he => List.mem_append_right _ he⟩ (Z.Yd.nilc rfl rfl) ?_
    refine Z.t 14 rfl rfl rfl (by rfl) (by kernel_rfl) ⟨_, hs, by first | (simp; done) | exact fun e he => List.mem_append_right _ he⟩ (Z.Yd.fieldA (m := 1) rfl (by kernel_rfl)) ?_
    refine Z.t 15 rfl rfl rfl (by rfl) (by kernel_rfl) ⟨_, hs, by first | (simp; done) | exact fun e he => List.mem_append_right _ he⟩ (by first | exact Z.Yd.load rfl Try.isAgg3 (fun _ => Z.cellB (by first | ((repeat (first | exact List.mem_cons_self | refine List.mem_cons_of_mem _ ?_ | refine List.mem_append_right _ ?_)); done) | fail) rfl) | exact Z.Yd.load rfl Try.isAgg3 (fun _ => Z.cellO (by assumption) (by simp) (by assumption)) | fail "load 2.15") ?_
    refine Z.t 16 rfl rfl rfl (by rfl) (by kernel_rfl) ⟨_, hs, by first | (simp; done) | exact fun e he => List.mem_append_right _ he⟩ (Z.Yd.rem rfl rfl (by intro hG; first | decide | omega) (by intro hG; first | exact Z.tmodn (by omega) | exact rfl)) ?_
    refine Z.t 17 rfl rfl rfl (by rfl) (by kernel_rfl) ⟨_, hs, by first | (simp; done) | exact fun e he => List.mem_append_right _ he⟩ (Z.Yd.sub rfl rfl (fun hG => Z.wi64 (by first | omega | (have hG' := Z.gh rfl hG; simp at hG'; omega)))) ?_
    refine Z.t 18 rfl rfl rfl (by rfl) (by kernel_rfl) ⟨_, hs, by first | (simp; done) | exact fun e he => List.mem_append_right _ he⟩ (Z.Yd.shl rfl rfl (by intro hG; first | decide | omega) (fun _ => shl_bit b (bs.length % 8) (by omega))) ?_
    refine Z.t 19 rfl rfl rfl (by rfl) (by kernel_rfl) ⟨_, hs, by first | (simp; done) | exact fun e he => List.mem_append_right _ he⟩ (Z.Yd.or rfl rfl (fun _ => or_byt bs b)) ?_
    refine Z.t 20 rfl rfl rfl (by rfl) (by kernel_rfl) ⟨_, hs, by first | (simp; done) | exact fun e he => List.mem_append_right _ he⟩ (Z.Yd.elem rfl rfl Try.underlying29 Try.sizeOf5 (fun hG => ⟨(by first | omega | (have hG' := Z.gh rfl hG; simp at hG'; omega)), (by first | omega | (have hG' := Z.gh rfl hG; simp at hG'; omega))⟩)) ?_
    refine Z.tn 21 rfl rfl (by kernel_rfl) rfl trivial ?_
    first | refine Z.ZO.store rfl rfl hs Try.sizeOf5 rfl rfl rfl (by first | exact SX.at0 | exact SX.at1 | exact SX.at2 | exact SX.at3 | exact SX.at4 | exact SX.at5 | exact Z.at6 | exact Z.at7 | exact Z.at8 | exact Z.at9 | exact Z.at10 | exact Z.at11 | exact Z.at12) (by first | (simp; done) | (simp; omega)) ?_ | refine Z.ZO.storeR rfl rfl hs Try.sizeOf5 rfl rfl rfl (by first | exact SX.at0 | exact SX.at1 | exact SX.at2 | exact SX.at3 | exact SX.at4 | exact SX.at5 | exact Z.at6 | exact Z.at7 | exact Z.at8 | exact Z.at9 | exact Z.at10 | exact Z.at11 | exact Z.at12) (by first | omega | (simp [ints_length]; done) | (simp [ints_length]; omega)) ?_
    clear hs; intro ws hs
    simp only [Nat.zero_add, Nat.add_zero, Nat.reduceAdd, List.set_cons_zero, List.set_cons_succ, List.setIfInBounds_toArray] at hs
    refine Z.tk (Dn := fun j => j != 21) (i := 21) (fun h => absurd h (by decide)) ?_
    refine Z.td (by rfl) (by kernel_rfl) ?_
    refine Z.only [0] rfl ?_
    rw [set_byt] at hs
    refine Z.nthen ?_
    refine Z.region ?_
    refine Z.lb 1 rfl ?_
    refine Z.l rfl rfl (by rfl) (Z.keepS hs) (Z.Yd.nilc rfl rfl) ?_
    refine Z.l rfl rfl (by rfl) (Z.keepS hs) (Z.Yd.fieldA (m := 1) rfl (by kernel_rfl)) ?_
    refine Z.l rfl rfl (by rfl) (Z.keepS hs) (by first | exact Z.Yd.load rfl Try.isAgg3 (fun _ => Z.cellB (by first | ((repeat (first | exact List.mem_cons_self | refine List.mem_cons_of_mem _ ?_ | refine List.mem_append_right _ ?_)); done) | fail) rfl) | exact Z.Yd.load rfl Try.isAgg3 (fun _ => Z.cellO (by assumption) (by simp) (by assumption)) | fail "load 3.3") ?_
    refine Z.l rfl rfl (by rfl) (Z.keepS hs) (Z.Yd.add rfl rfl (fun hG => Z.wi64 (by first | omega | (have hG' := Z.gh rfl hG; simp at hG'; omega)))) ?_
    refine Z.l rfl rfl (by rfl) (Z.keepS hs) (Z.Yd.nilc rfl rfl) ?_
    refine Z.l rfl rfl (by rfl) (Z.keepS hs) (Z.Yd.fieldA (m := 1) rfl (by kernel_rfl)) ?_
    refine Z.le rfl trivial ?_
    first | refine Z.ZO.store rfl rfl hs Try.sizeOf3 rfl rfl rfl (by first | exact SX.at0 | exact SX.at1 | exact SX.at2 | exact SX.at3 | exact SX.at4 | exact SX.at5 | exact Z.at6 | exact Z.at7 | exact Z.at8 | exact Z.at9 | exact Z.at10 | exact Z.at11 | exact Z.at12) (by first | (simp; done) | (simp; omega)) ?_ | refine Z.ZO.storeR rfl rfl hs Try.sizeOf3 rfl rfl rfl (by first | exact SX.at0 | exact SX.at1 | exact SX.at2 | exact SX.at3 | exact SX.at4 | exact SX.at5 | exact Z.at6 | exact Z.at7 | exact Z.at8 | exact Z.at9 | exact Z.at10 | exact Z.at11 | exact Z.at12) (by first | omega | (simp [ints_length]; done) | (simp [ints_length]; omega)) ?_
    clear hs; intro ws hs
    simp only [Nat.zero_add, Nat.add_zero, Nat.reduceAdd, List.set_cons_zero, List.set_cons_succ, List.setIfInBounds_toArray] at hs
    refine Z.lnil ?_
    refine Z.only [] rfl ?_
    -- ret#0
    refine Z.out0n trivial ?_
    refine ⟨_, rfl, .slice (some ⟨g1, 0, none⟩) (bs.length / 8 + 1) cap1, rfl, ?_⟩
    have e1 : (pk (bs ++ [b])).length = bs.length / 8 + 1 := by rw [pk_length]; simp; omega
    have e2 : ((bs ++ [b]).length : Int) = bs.length + 1 := by simp
    simp only [WrL, e1, e2]
    exact hs
end Go.Proofs.Yteabcdmgklhijaa
