/- FieldCuts. -/
import Derived.Test.YtggikablbdhniaaFq
namespace Go.Proofs.Ytggikablbdhniaa
open Go.RowKit
set_option linter.unusedSimpArgs false
set_option linter.unusedVariables false

theorem Z.flat_at {α : Type} {enc : α → List Value} {s : Nat} {xs : List α} {i j : Nat} {x : α} {u : Value} (hs : ∀ x, (enc x).length = s) (hx : xs[i]? = some x) (hj : (enc x)[j]? = some u) : (xs.flatMap enc)[0 + (i : Int).toNat * s + j]? = some u := by
  have hjs : j < s := by
    have := (List.getElem?_eq_some_iff.1 hj).1
    rwa [hs x] at this
  rw [Nat.zero_add, Int.toNat_natCast]
  exact (Z.flat_get hs hx hjs).trans hj
/-- all widths together -/
def sumW (ws : List Int) : Nat := (ws.map Int.toNat).sum
theorem gsE_short {l : List Int} : ∀ {ws : List Int} {a : Nat}, (∀ x ∈ ws, 0 ≤ x ∧ x ≤ 64) → 8 * l.length < a + sumW ws → a ≤ 8 * l.length → gsE l a ws = 5
  | [], a, _, h, h2 => by simp [sumW] at h; omega
  | x :: ws, a, hw, h, h2 => by
    have hx := hw x (by simp)
    simp only [sumW, List.map_cons, List.sum_cons] at h
    by_cases he : getE l a x = 0
    · have e : getA l a x = a + x.toNat := by unfold getA; rw [if_pos he]
      have h3 := getA_le (l := l) (w := x) h2
      simp only [gsE, if_pos he]
      rw [e] at h3 ⊢
      exact gsE_short (fun y hy => hw y (by simp [hy])) (by unfold sumW; omega) h3
    · simp only [gsE, if_neg he]
      unfold getE at he ⊢
      rw [if_neg (by omega)] at he ⊢
      split
      · rfl
      · rename_i h5
        rw [if_neg h5] at he
        exact absurd rfl he
theorem sumW_flat : ∀ (fs : List (Int × Int)), (fs.flatMap fldF).length = sumW (fs.map (·.2))
  | [] => rfl
  | f :: fs => by
    have := sumW_flat fs
    simp only [List.flatMap_cons, List.length_append, this, fldF, fld_length, sumW, List.map_cons, List.sum_cons]
def wds (fs : List (Int × Int)) : List Int := (fs.map vf).map (·.2)
theorem wds_bd {fs : List (Int × Int)} : ∀ x ∈ wds fs, 0 ≤ x ∧ x ≤ 64 := by
  intro x hx
  simp only [wds, List.mem_map] at hx
  obtain ⟨f, ⟨g, _, rfl⟩, rfl⟩ := hx
  have := vw_lt g
  show 0 ≤ (vw g : Int) ∧ (vw g : Int) ≤ 64
  omega

set_option maxRecDepth 100000 in
theorem fieldCuts_walk (A : Option Addr) (n c : Nat) (fs : List (Int × Int)) (cut : Int) (w : World) (hx : Sl w A (fs.flatMap encF)) (hl : fs.length = n) (hn : n ≤ maxLen) (hg : ∀ f ∈ fs, GoodF f) :
    Calls Try.prog 5 #[.slice A n c, .int .i64 cut] w (SX.Ret fun r w' => r = .bool true ∧ SX.St w [] w' []) := by
  have hs := SX.St.start w
  replace hx := hx.sx
  have hmx : maxLen = 9223372036854775807 := rfl
  have hck := vfs_chk hg
  have hgv := vfs_good hg
  refine Z.enter Try.func5 rfl Try.ntmps5 rfl rfl ?_
  refine Z.seq ?_
  refine Z.region ?_
  refine Z.lb 1 rfl ?_
  refine Z.lnil ?_
  refine Z.only [0, 1] rfl ?_
  refine Z.nthen ?_
  refine Z.seq ?_
  refine Z.seq ?_
  refine Z.region ?_
  refine Z.lb 1 rfl ?_
  refine Z.l rfl rfl (by rfl) (Z.keepS hs) (Z.Yd.lenS rfl Try.underlying34) ?_
  refine Z.lb 1 rfl ?_
  refine Z.lnil ?_
  refine Z.only [0, 1, 15] rfl ?_
  refine Z.nthen ?_
  refine Z.cond rfl (fun hc1 => ?_) (fun hc1 => ?_)
  · first
      | (exfalso; simp at hc1 <;> omega)
      | (
        (try simp at hc1)
        refine Z.seq ?_
        refine Z.region ?_
        refine Z.le rfl trivial ?_
        refine Z.ZO.call rfl rfl (by rfl) rfl rfl Try.call10 rfl (works_any _) ?_
        rintro v2_0 w2_0 ⟨rfl, hy⟩
        replace hs := hs.call hy
        clear hy
        try simp only [List.cons_append, List.nil_append, List.append_nil] at hs
        refine Z.lb 1 rfl ?_
        refine Z.lnil ?_
        refine Z.only [4] rfl ?_
        refine Z.nthen ?_
        refine Z.ret ?_
        repeat (first | refine Z.rthen ?_ | refine Z.rblock ?_ | refine Z.rscope ?_)
        -- ret#0
        refine Z.out1 (by exact ⟨rfl, trivial⟩) ?_
        first | exact ⟨_, rfl, rfl, hs⟩ | exact ⟨_, rfl, rfl, hs.sub (List.nil_sublist _)⟩
        )
  · first
      | (exfalso; simp at hc1 <;> omega)
      | (
        (try simp at hc1)
        refine Z.skip ?_
        refine Z.nthen ?_
        refine Z.seq ?_
        refine Z.region ?_
        refine Z.lb 1 rfl ?_
        refine Z.le rfl trivial ?_
        refine Z.ZO.call rfl rfl (by rfl) rfl rfl Try.call19 rfl (valid_any A n c fs _ ((hx.st hs).sx) hl (by omega) hg) ?_
        rintro v3_1 w3_1 hy
        replace hs := hs.call hy
        clear hy
        try simp only [List.cons_append, List.nil_append, List.append_nil] at hs
        obtain ⟨Ao, co, rfl, hco1, hco2, -⟩ := SX.row_slv hs (j := 0) rfl
        refine Z.lb 1 rfl ?_
        refine Z.lnil ?_
        refine Z.only [1, 5] rfl ?_
        refine Z.nthen ?_
        refine Z.seq ?_
        refine Z.region ?_
        refine Z.le rfl trivial ?_
        refine Z.ZO.alloc rfl rfl (by rfl) Try.zeroValue29 rfl hs ?_
        clear hs; intro g6 w6 hs
        refine Z.lnil ?_
        refine Z.only [1, 5, 6] rfl ?_
        replace hs := WrL_start hs
        refine Z.nthen ?_
        refine Z.seq ?_
        refine Z.seq ?_
        refine Z.region ?_
        refine Z.lb 1 rfl ?_
        refine Z.le rfl trivial ?_
        refine Z.ZO.call rfl rfl (by rfl) rfl rfl Try.call20 rfl (putAll_any g6 _ _ [] Ao n co (fs.map vf) _ (hs.lend (L1 := WrL _ _ _ _)) (Z.row_lentv (L1 := WrL _ _ _ _) hs (j := 0) rfl) (by simpa using hl) (by omega) (by simp) hgv) ?_
        rintro v5_1 w5_1 ⟨sv, hv, hz⟩
        replace hs := hs.regain (L1 := WrL _ _ _ _) hz
        rw [hck] at hv
        subst hv
        have hres : resA [] (fs.map vf) = (fs.map vf).flatMap fldF := by unfold resA; rw [if_pos hck]; rfl
        rw [hres] at hs
        have hfl := flatF_length hck
        rw [List.length_map] at hfl
        refine Z.le rfl trivial ?_
        refine Z.ZO.call rfl rfl (by rfl) rfl rfl Try.call18 rfl (num_any _ _) ?_
        rintro v5_2 w5_2 ⟨rfl, hy⟩
        replace hs := hs.call hy
        clear hy
        try simp only [List.cons_append, List.nil_append, List.append_nil] at hs
        refine Z.lb 1 rfl ?_
        refine Z.lnil ?_
        refine Z.only [1, 5, 6, 22] rfl ?_
        refine Z.nthen ?_
        refine Z.cond rfl (fun h => absurd h (by simp)) (fun hc5 => ?_)
        refine Z.skip ?_
        refine Z.nthen ?_
        refine Z.seq ?_
        refine Z.region ?_
        replace hs : SX.St w [] _ (WrL g6 29 sv ((fs.map vf).flatMap fldF) ++ [SX.Ent.row (.slice Ao n co) 50 2 n ((fs.map vf).flatMap encF)]) := hs
        refine Z.le rfl trivial ?_
        refine Z.ZO.call rfl rfl (by rfl) rfl rfl Try.call14 rfl (wbytes_any g6 _ sv _ _ (hs.lend (L1 := WrL _ _ _ _)) (by omega)) ?_
        rintro v7_0 w7_0 hz
        replace hs := hs.regain (L1 := WrL _ _ _ _) hz
        obtain ⟨Aw, cw, rfl, hcw1, hcw2, -⟩ := SX.row_slv hs (j := 0) rfl
        have hpl := pk_length ((fs.map vf).flatMap fldF)
        replace hs : SX.St w [] w7_0 [rowP (.slice Aw (pk ((fs.map vf).flatMap fldF)).length cw) ((fs.map vf).flatMap fldF), SX.Ent.row (.slice Ao n co) 50 2 n ((fs.map vf).flatMap encF)] := hs.sel [0, 3] (by decide)
        refine Z.lb 1 rfl ?_
        refine Z.lnil ?_
        refine Z.only [1, 5, 7] rfl ?_
        refine Z.nthen ?_
        refine Z.seq ?_
        refine Z.seq ?_
        refine Z.region ?_
        refine Z.lb 3 rfl ?_
        refine Z.split (s := 26) rfl (fun hsp26 => ?_) (fun hsp26 => ?_)
        · refine Z.yes (s := 26) (b := true) rfl hsp26 rfl ?_
          (try simp at hsp26)
          refine Z.ls rfl rfl rfl (by rfl) ?_
          refine Z.ls rfl rfl rfl (by rfl) ?_
          refine Z.ls rfl rfl rfl (by rfl) ?_
          refine Z.ls rfl rfl rfl (by rfl) ?_
          refine Z.l rfl rfl (by rfl) (Z.keepS hs) (Z.Yd.pickT rfl rfl) ?_
          refine Z.lnil ?_
          refine Z.only [1, 5, 7, 31] rfl ?_
          refine Z.nthen ?_
          refine Z.cond rfl (fun hc8 => ?_) (fun hc8 => ?_)
          · first
              | (exfalso; simp at hc8 <;> omega)
              | (
                (try simp at hc8)
                refine Z.seq ?_
                refine Z.region ?_
                refine Z.le rfl trivial ?_
                refine Z.ZO.call rfl rfl (by rfl) rfl rfl Try.call10 rfl (works_any _) ?_
                rintro v9_0 w9_0 ⟨rfl, hy⟩
                replace hs := hs.call hy
                clear hy
                try simp only [List.cons_append, List.nil_append, List.append_nil] at hs
                refine Z.lb 1 rfl ?_
                refine Z.lnil ?_
                refine Z.only [4] rfl ?_
                refine Z.nthen ?_
                refine Z.ret ?_
                repeat (first | refine Z.rthen ?_ | refine Z.rblock ?_ | refine Z.rscope ?_)
                -- ret#1
                refine Z.out1 (by exact ⟨rfl, trivial⟩) ?_
                first | exact ⟨_, rfl, rfl, hs⟩ | exact ⟨_, rfl, rfl, hs.sub (List.nil_sublist _)⟩
                )
          · first
              | (exfalso; simp at hc8 <;> omega)
              | (
                (try simp at hc8)
                refine Z.skip ?_
                refine Z.nthen ?_
                refine Z.seq ?_
                refine Z.region ?_
                obtain ⟨cu, rfl⟩ := Int.eq_ofNat_of_zero_le (show 0 ≤ cut by omega)
                replace hs := hs.nil 3 1
                refine Z.l rfl rfl (by rfl) (Z.keepS hs) (Z.Yd.pure rfl) ?_
                refine Z.lnil ?_
                refine Z.only [1, 5, 7, 8] rfl ?_
                refine Z.nthen ?_
                refine Z.seq ?_
                refine Z.seq ?_
                refine Z.region ?_
                refine Z.lb 1 rfl ?_
                refine Z.lnil ?_
                refine Z.only [1, 5, 7, 8, 9] rfl ?_
                refine Z.nthen ?_
                refine Z.block ?_
                refine Z.loopk (ι := Nat × Value) [1, 5, 7] rfl (fun k => [(8, [], k.2), (9, [], .int .i64 (k.1 : Int))]) (fun k wr => k.1 ≤ n ∧ SX.St w [] wr [SX.Ent.row k.2 3 1 k.1 (ints .i64 ((wds fs).take k.1)), rowP (.slice Aw (pk ((fs.map vf).flatMap fldF)).length cw) ((fs.map vf).flatMap fldF), SX.Ent.row (.slice Ao n co) 50 2 n ((fs.map vf).flatMap encF)]) (fun k => n - k.1) (0, .slice none 0 0) (by refine ⟨?_, ?_, trivial⟩ <;> (first | rfl | (refine Z.lookv rfl ?_; simp; done) | (refine Z.lookv rfl ?_; simp; omega))) ⟨by omega, hs⟩ ?_
                clear hs
                rintro ⟨k, sw⟩ w1 ⟨hkn, hs⟩
                refine Z.only [1, 5, 7, 8, 9] rfl ?_
                dsimp only at hs
                dsimp only at hkn
                refine Z.seq ?_
                refine Z.seq ?_
                refine Z.region ?_
                refine Z.lb 2 rfl ?_
                refine Z.l rfl rfl (by rfl) (Z.keepS hs) (Z.Yd.lenS rfl Try.underlying34) ?_
                refine Z.lb 1 rfl ?_
                refine Z.lnil ?_
                refine Z.only [1, 5, 7, 8, 9, 36] rfl ?_
                refine Z.nthen ?_
                refine Z.cond rfl (fun hc12 => ?_) (fun hc12 => ?_)
                · first
                    | (exfalso; simp at hc12 <;> omega)
                    | (
                      (try simp at hc12)
                      obtain ⟨go, co', e, -, -⟩ := row_form (j := 2) hs rfl (by omega)
                      simp only [Value.slice.injEq, true_and] at e
                      obtain ⟨rfl, rfl⟩ := e
                      obtain ⟨⟨v, wd⟩, hf⟩ : ∃ f, (fs.map vf)[k]? = some f := ⟨_, List.getElem?_eq_getElem (by simp; omega)⟩
                      have hwk : (wds fs)[k]? = some wd := by unfold wds; rw [List.getElem?_map, hf]; rfl
                      refine Z.skip ?_
                      refine Z.nthen ?_
                      refine Z.seq ?_
                      refine Z.block ?_
                      refine Z.region ?_
                      refine Z.lb 3 rfl ?_
                      refine Z.l rfl rfl (by rfl) (Z.keepS hs) (Z.Yd.elem rfl rfl Try.underlying34 Try.sizeOf50 (fun hG => ⟨(by first | omega | (have hG' := Z.gh rfl hG; simp at hG'; omega)), (by first | omega | (have hG' := Z.gh rfl hG; simp at hG'; omega))⟩)) ?_
                      refine Z.l rfl rfl (by rfl) (Z.keepS hs) (Z.Yd.fieldA (m := 1) rfl (by kernel_rfl)) ?_
                      refine Z.l rfl rfl (by rfl) (Z.keepS hs) (Z.Yd.load rfl Try.isAgg3 (fun _ => Z.cellR (by first | ((repeat (first | exact List.mem_cons_self | refine List.mem_cons_of_mem _ ?_ | refine List.mem_append_right _ ?_)); done) | fail) (Z.flat_at (j := 1) encF_length hf rfl))) ?_
                      refine Z.le rfl trivial ?_
                      refine Z.ZO.lit rfl rfl (by rfl) rfl (by intro W; go_simp; exact rfl) hs ?_
                      clear hs; intro g45 w45 hs
                      refine Z.le rfl trivial ?_
                      refine Z.ZO.append (i0 := Try.t3) (size := 1) (bytes := 8) rfl rfl (by rfl) hs Try.underlying48 (by kernel_rfl) rfl rfl rfl rfl (by decide) rfl rfl (by first | exact SX.at0 | exact SX.at1 | exact SX.at2 | exact SX.at3 | exact SX.at4 | exact SX.at5 | exact Z.at6 | exact Z.at7 | exact Z.at8 | exact Z.at9 | exact Z.at10 | exact Z.at11 | exact Z.at12) (by first | exact SX.at0 | exact SX.at1 | exact SX.at2 | exact SX.at3 | exact SX.at4 | exact SX.at5 | exact Z.at6 | exact Z.at7 | exact Z.at8 | exact Z.at9 | exact Z.at10 | exact Z.at11 | exact Z.at12) (by first | rfl | simp) (by simp [Value.oneCell']) (by decide) (by unfold maxLen; omega) (by omega) ?_
                      clear hs; intro g46 cap46 w46 hs
                      simp only [List.set_cons_zero, List.set_cons_succ, List.eraseIdx_cons_zero, List.eraseIdx_cons_succ] at hs
                      refine Z.lb 1 rfl ?_
                      refine Z.lnil ?_
                      refine Z.only [1, 5, 7, 8, 9] rfl ?_
                      refine Z.nblock ?_
                      refine Z.nthen ?_
                      refine Z.region ?_
                      refine Z.lb 1 rfl ?_
                      refine Z.l rfl rfl (by rfl) (Z.keepS hs) (Z.Yd.add rfl rfl (fun hG => Z.wi64 (by first | omega | (have hG' := Z.gh rfl hG; simp at hG'; omega)))) ?_
                      refine Z.lb 1 rfl ?_
                      refine Z.lnil ?_
                      refine Z.only [1, 5, 7, 8, 9] rfl ?_
                      refine Z.nthen ?_
                      have e : ints .i64 ((wds fs).take k) ++ [.int .i64 wd] = ints .i64 ((wds fs).take (k + 1)) := by
                        rw [← take_snoc hwk]
                        simp [ints]
                      rw [e] at hs
                      exact Z.again (k + 1, _) (by refine ⟨?_, ?_, ?_, ?_, ?_, trivial⟩ <;> (first | rfl | (refine Z.lookv rfl ?_; simp; done) | (refine Z.lookv rfl ?_; simp; omega))) ⟨by simp only; omega, hs⟩ (by simp only; omega)
                      )
                · first
                    | (exfalso; simp at hc12 <;> omega)
                    | (
                      (try simp at hc12)
                      refine Z.exit ?_
                      refine Z.xthen ?_
                      refine Z.xthen ?_
                      refine Z.xblock ?_
                      refine Z.nthen ?_
                      refine Z.seq ?_
                      refine Z.region ?_
                      obtain rfl : k = n := by omega
                      have hwl : (wds fs).length = k := by simp [wds, hl]
                      rw [List.take_of_length_le (by omega)] at hs
                      obtain ⟨Aq, cq, rfl, -, -, -⟩ := SX.row_slv hs (j := 0) rfl
                      obtain ⟨Bs, hBs⟩ : ∃ Bs, Bs = (fs.map vf).flatMap fldF := ⟨_, rfl⟩
                      have hcut : cu < (pk ((fs.map vf).flatMap fldF)).length := by omega
                      simp only [← hBs] at hs hpl hcw1 hfl hcut ⊢
                      refine Z.l rfl rfl (by rfl) (Z.keepS hs) (Z.Yd.pure rfl) ?_
                      refine Z.lb 1 rfl ?_
                      refine Z.l rfl rfl (by rfl) (Z.keepS hs) (Z.Yd.cut 0 cu rfl rfl (Z.lvl_some rfl (by intro hG; first | rfl | exact (by first | omega | (have hG' := Z.gh rfl hG; simp at hG'; omega)))) Try.underlying25 Try.sizeOf5 (fun hG => ⟨(by first | omega | (have hG' := Z.gh rfl hG; simp at hG'; omega)), (by first | omega | (have hG' := Z.gh rfl hG; simp at hG'; omega))⟩)) ?_
                      refine Z.le rfl trivial ?_
                      refine Z.ZO.call rfl rfl (by rfl) rfl rfl Try.call21 rfl (newreader_any (slA Aw cw 0 1) cu cw ((pk Bs).take cu) _ ((Z.row_lentv (L1 := []) hs (j := 1) rfl).cut (l := 0) (by simp only [Nat.zero_mul, List.drop_zero, ints, List.map_take]; exact List.take_prefix _ _) (by omega)) (by simp; omega) (by omega) (by intro e; rw [slA_zero] at e; have := SX.row_none hs (j := 1) rfl e; omega)) ?_
                      rintro v15_3 w15_3 ⟨gr, svr, rfl, hy⟩
                      replace hs := hs.call hy
                      clear hy
                      try simp only [List.cons_append, List.nil_append, List.append_nil] at hs
                      have hlr : ((pk Bs).take cu).length = cu := by simp; omega
                      have hbr : ∀ x ∈ (pk Bs).take cu, 0 ≤ x ∧ x < 256 := fun x hx => pk_bd Bs x (List.mem_of_mem_take hx)
                      have hE : gsE ((pk Bs).take cu) 0 (wds fs) = 5 := gsE_short wds_bd (by rw [hlr]; have e := sumW_flat (fs.map vf); rw [← hBs] at e; unfold wds; omega) (by omega)
                      refine Z.lb 1 rfl ?_
                      refine Z.lnil ?_
                      refine Z.only [1, 8, 10] rfl ?_
                      refine Z.nthen ?_
                      refine Z.seq ?_
                      refine Z.region ?_
                      refine Z.lb 2 rfl ?_
                      refine Z.le rfl trivial ?_
                      refine Z.ZO.call rfl rfl (by rfl) rfl rfl Try.call22 rfl (rgetall_any gr _ svr _ 0 Aq k cq (wds fs) _ (hs.lend (L1 := RdL _ _ _ _ _)) (Z.row_lentv (L1 := RdL _ _ _ _ _) hs (j := 0) rfl) hwl (by omega) (by omega) (by omega) hbr) ?_
                      rintro v16_2 w16_2 ⟨so, hv, hz⟩
                      rw [hE] at hv
                      subst hv
                      rw [hE, if_neg (by decide), if_neg (by decide), if_neg (by decide)] at hz
                      replace hs := hs.regain (L1 := RdL _ _ _ _ _) hz
                      obtain ⟨As, cs, rfl, -, -, -⟩ := SX.row_slv hs (j := 2) rfl
                      replace hs : SX.St w [] w16_2 (RdL gr 73 svr ((pk Bs).take cu) 0) := hs.sel [0, 1] (by decide)
                      refine Z.lb 5 rfl ?_
                      refine Z.lnil ?_
                      refine Z.only [1, 10, 11, 12] rfl ?_
                      refine Z.nthen ?_
                      refine Z.seq ?_
                      refine Z.region ?_
                      refine Z.lb 3 rfl ?_
                      refine Z.yes (s := 59) (b := true) rfl ((by decide)) rfl ?_
                      refine Z.lb 1 rfl ?_
                      refine Z.l rfl rfl (by rfl) (Z.keepS hs) (Z.Yd.lenS rfl Try.underlying53) ?_
                      refine Z.lb 1 rfl ?_
                      refine Z.yes (s := 59) (b := true) rfl rfl rfl ?_
                      refine Z.l rfl rfl (by rfl) (Z.keepS hs) (Z.Yd.pickT rfl rfl) ?_
                      refine Z.lb 1 rfl ?_
                      refine Z.yes (s := 64) (b := true) rfl ((by decide)) rfl ?_
                      refine Z.lb 1 rfl ?_
                      refine Z.yes (s := 64) (b := true) rfl rfl rfl ?_
                      refine Z.le rfl (by exact ⟨rfl, trivial⟩) ?_
                      refine Z.ZO.call rfl rfl (by rfl) rfl rfl Try.call23 rfl (rat_any gr _ svr _ 0 _ hs.all) ?_
                      rintro v17_9 w17_9 ⟨rfl, hz⟩
                      replace hs := hs.regainAll hz
                      refine Z.lb 1 rfl ?_
                      refine Z.yes (s := 64) (b := true) rfl rfl rfl ?_
                      refine Z.l rfl rfl (by rfl) (Z.keepS hs) (Z.Yd.pickT rfl rfl) ?_
                      refine Z.lb 1 rfl ?_
                      refine Z.yes (s := 69) (b := true) rfl ((by decide)) rfl ?_
                      refine Z.lb 1 rfl ?_
                      refine Z.yes (s := 69) (b := true) rfl rfl rfl ?_
                      refine Z.le rfl (by exact ⟨rfl, trivial⟩) ?_
                      refine Z.ZO.call rfl rfl (by rfl) rfl rfl Try.call24 rfl (rleft_any gr _ svr _ 0 _ hs.all (by omega) (by omega)) ?_
                      rintro v17_14 w17_14 ⟨hv, hz⟩
                      replace hs := hs.regainAll hz
                      rw [hlr] at hv
                      subst hv
                      refine Z.lb 1 rfl ?_
                      refine Z.l rfl rfl (by rfl) (Z.keepS hs) (Z.Yd.mul rfl rfl (fun hG => Z.wi64 (by first | omega | (have hG' := Z.gh rfl hG; simp at hG'; omega)))) ?_
                      refine Z.lb 1 rfl ?_
                      refine Z.yes (s := 69) (b := true) rfl rfl rfl ?_
                      refine Z.l rfl rfl (by rfl) (Z.keepS hs) (Z.Yd.pickT rfl rfl) ?_
                      refine Z.lb 1 rfl ?_
                      refine Z.yes (s := 76) (b := true) rfl ((by simp)) rfl ?_
                      refine Z.le rfl (by exact ⟨rfl, trivial⟩) ?_
                      refine Z.ZO.call rfl rfl (by rfl) rfl rfl Try.call10 rfl (works_any _) ?_
                      rintro v17_20 w17_20 ⟨rfl, hy⟩
                      replace hs := hs.call hy
                      clear hy
                      try simp only [List.cons_append, List.nil_append, List.append_nil] at hs
                      refine Z.l rfl rfl (by rfl) (Z.keepS hs) (Z.Yd.pickT rfl rfl) ?_
                      refine Z.lb 1 rfl ?_
                      refine Z.lnil ?_
                      refine Z.only [4] rfl ?_
                      refine Z.nthen ?_
                      refine Z.ret ?_
                      -- ret#2
                      refine Z.out1 (by exact ⟨rfl, trivial⟩) ?_
                      first | exact ⟨_, rfl, rfl, hs⟩ | exact ⟨_, rfl, rfl, hs.sub (List.nil_sublist _)⟩
                      )
                )
        · refine Z.yes (s := 26) (b := false) rfl hsp26 rfl ?_
          (try simp at hsp26)
          refine Z.lb 2 rfl ?_
          refine Z.l rfl rfl (by rfl) (Z.keepS hs) (Z.Yd.lenS rfl Try.underlying25) ?_
          refine Z.lb 1 rfl ?_
          refine Z.yes (s := 26) (b := false) rfl rfl rfl ?_
          refine Z.l rfl rfl (by rfl) (Z.keepS hs) (Z.Yd.pickF rfl rfl) ?_
          refine Z.lnil ?_
          refine Z.only [1, 5, 7, 31] rfl ?_
          refine Z.nthen ?_
          refine Z.cond rfl (fun hc8 => ?_) (fun hc8 => ?_)
          · first
              | (exfalso; simp at hc8 <;> omega)
              | (
                (try simp at hc8)
                refine Z.seq ?_
                refine Z.region ?_
                refine Z.le rfl trivial ?_
                refine Z.ZO.call rfl rfl (by rfl) rfl rfl Try.call10 rfl (works_any _) ?_
                rintro v9_0 w9_0 ⟨rfl, hy⟩
                replace hs := hs.call hy
                clear hy
                try simp only [List.cons_append, List.nil_append, List.append_nil] at hs
                refine Z.lb 1 rfl ?_
                refine Z.lnil ?_
                refine Z.only [4] rfl ?_
                refine Z.nthen ?_
                refine Z.ret ?_
                repeat (first | refine Z.rthen ?_ | refine Z.rblock ?_ | refine Z.rscope ?_)
                -- ret#3
                refine Z.out1 (by exact ⟨rfl, trivial⟩) ?_
                first | exact ⟨_, rfl, rfl, hs⟩ | exact ⟨_, rfl, rfl, hs.sub (List.nil_sublist _)⟩
                )
          · first
              | (exfalso; simp at hc8 <;> omega)
              | (
                (try simp at hc8)
                refine Z.skip ?_
                refine Z.nthen ?_
                refine Z.seq ?_
                refine Z.region ?_
                obtain ⟨cu, rfl⟩ := Int.eq_ofNat_of_zero_le (show 0 ≤ cut by omega)
                replace hs := hs.nil 3 1
                refine Z.l rfl rfl (by rfl) (Z.keepS hs) (Z.Yd.pure rfl) ?_
                refine Z.lnil ?_
                refine Z.only [1, 5, 7, 8] rfl ?_
                refine Z.nthen ?_
                refine Z.seq ?_
                refine Z.seq ?_
                refine Z.region ?_
                refine Z.lb 1 rfl ?_
                refine Z.lnil ?_
                refine Z.only [1, 5, 7, 8, 9] rfl ?_
                refine Z.nthen ?_
                refine Z.block ?_
                refine Z.loopk (ι := Nat × Value) [1, 5, 7] rfl (fun k => [(8, [], k.2), (9, [], .int .i64 (k.1 : Int))]) (fun k wr => k.1 ≤ n ∧ SX.St w [] wr [SX.Ent.row k.2 3 1 k.1 (ints .i64 ((wds fs).take k.1)), rowP (.slice Aw (pk ((fs.map vf).flatMap fldF)).length cw) ((fs.map vf).flatMap fldF), SX.Ent.row (.slice Ao n co) 50 2 n ((fs.map vf).flatMap encF)]) (fun k => n - k.1) (0, .slice none 0 0) (by refine ⟨?_, ?_, trivial⟩ <;> (first | rfl | (refine Z.lookv rfl ?_; simp; done) | (refine Z.lookv rfl ?_; simp; omega))) ⟨by omega, hs⟩ ?_
                clear hs
                rintro ⟨k, sw⟩ w1 ⟨hkn, hs⟩
                refine Z.only [1, 5, 7, 8, 9] rfl ?_
                dsimp only at hs
                dsimp only at hkn
                refine Z.seq ?_
                refine Z.seq ?_
                refine Z.region ?_
                refine Z.lb 2 rfl ?_
                refine Z.l rfl rfl (by rfl) (Z.keepS hs) (Z.Yd.lenS rfl Try.underlying34) ?_
                refine Z.lb 1 rfl ?_
                refine Z.lnil ?_
                refine Z.only [1, 5, 7, 8, 9, 36] rfl ?_
                refine Z.nthen ?_
                refine Z.cond rfl (fun hc12 => ?_) (fun hc12 => ?_)
                · first
                    | (exfalso; simp at hc12 <;> omega)
                    | (
                      (try simp at hc12)
                      obtain ⟨go, co', e, -, -⟩ := row_form (j := 2) hs rfl (by omega)
                      simp only [Value.slice.injEq, true_and] at e
                      obtain ⟨rfl, rfl⟩ := e
                      obtain ⟨⟨v, wd⟩, hf⟩ : ∃ f, (fs.map vf)[k]? = some f := ⟨_, List.getElem?_eq_getElem (by simp; omega)⟩
                      have hwk : (wds fs)[k]? = some wd := by unfold wds; rw [List.getElem?_map, hf]; rfl
                      refine Z.skip ?_
                      refine Z.nthen ?_
                      refine Z.seq ?_
                      refine Z.block ?_
                      refine Z.region ?_
                      refine Z.lb 3 rfl ?_
                      refine Z.l rfl rfl (by rfl) (Z.keepS hs) (Z.Yd.elem rfl rfl Try.underlying34 Try.sizeOf50 (fun hG => ⟨(by first | omega | (have hG' := Z.gh rfl hG; simp at hG'; omega)), (by first | omega | (have hG' := Z.gh rfl hG; simp at hG'; omega))⟩)) ?_
                      refine Z.l rfl rfl (by rfl) (Z.keepS hs) (Z.Yd.fieldA (m := 1) rfl (by kernel_rfl)) ?_
                      refine Z.l rfl rfl (by rfl) (Z.keepS hs) (Z.Yd.load rfl Try.isAgg3 (fun _ => Z.cellR (by first | ((repeat (first | exact List.mem_cons_self | refine List.mem_cons_of_mem _ ?_ | refine List.mem_append_right _ ?_)); done) | fail) (Z.flat_at (j := 1) encF_length hf rfl))) ?_
                      refine Z.le rfl trivial ?_
                      refine Z.ZO.lit rfl rfl (by rfl) rfl (by intro W; go_simp; exact rfl) hs ?_
                      clear hs; intro g45 w45 hs
                      refine Z.le rfl trivial ?_
                      refine Z.ZO.append (i0 := Try.t3) (size := 1) (bytes := 8) rfl rfl (by rfl) hs Try.underlying48 (by kernel_rfl) rfl rfl rfl rfl (by decide) rfl rfl (by first | exact SX.at0 | exact SX.at1 | exact SX.at2 | exact SX.at3 | exact SX.at4 | exact SX.at5 | exact Z.at6 | exact Z.at7 | exact Z.at8 | exact Z.at9 | exact Z.at10 | exact Z.at11 | exact Z.at12) (by first | exact SX.at0 | exact SX.at1 | exact SX.at2 | exact SX.at3 | exact SX.at4 | exact SX.at5 | exact Z.at6 | exact Z.at7 | exact Z.at8 | exact Z.at9 | exact Z.at10 | exact Z.at11 | exact Z.at12) (by first | rfl | simp) (by simp [Value.oneCell']) (by decide) (by unfold maxLen; omega) (by omega) ?_
                      clear hs; intro g46 cap46 w46 hs
                      simp only [List.set_cons_zero, List.set_cons_succ, List.eraseIdx_cons_zero, List.eraseIdx_cons_succ] at hs
                      refine Z.lb 1 rfl ?_
                      refine Z.lnil ?_
                      refine Z.only [1, 5, 7, 8, 9] rfl ?_
                      refine Z.nblock ?_
                      refine Z.nthen ?_
                      refine Z.region ?_
                      refine Z.lb 1 rfl ?_
                      refine Z.l rfl rfl (by rfl) (Z.keepS hs) (Z.Yd.add rfl rfl (fun hG => Z.wi64 (by first | omega | (have hG' := Z.gh rfl hG; simp at hG'; omega)))) ?_
                      refine Z.lb 1 rfl ?_
                      refine Z.lnil ?_
                      refine Z.only [1, 5, 7, 8, 9] rfl ?_
                      refine Z.nthen ?_
                      have e : ints .i64 ((wds fs).take k) ++ [.int .i64 wd] = ints .i64 ((wds fs).take (k + 1)) := by
                        rw [← take_snoc hwk]
                        simp [ints]
                      rw [e] at hs
                      exact Z.again (k + 1, _) (by refine ⟨?_, ?_, ?_, ?_, ?_, trivial⟩ <;> (first | rfl | (refine Z.lookv rfl ?_; simp; done) | (refine Z.lookv rfl ?_; simp; omega))) ⟨by simp only; omega, hs⟩ (by simp only; omega)
                      )
                · first
                    | (exfalso; simp at hc12 <;> omega)
                    | (
                      (try simp at hc12)
                      refine Z.exit ?_
                      refine Z.xthen ?_
                      refine Z.xthen ?_
                      refine Z.xblock ?_
                      refine Z.nthen ?_
                      refine Z.seq ?_
                      refine Z.region ?_
                      obtain rfl : k = n := by omega
                      have hwl : (wds fs).length = k := by simp [wds, hl]
                      rw [List.take_of_length_le (by omega)] at hs
                      obtain ⟨Aq, cq, rfl, -, -, -⟩ := SX.row_slv hs (j := 0) rfl
                      obtain ⟨Bs, hBs⟩ : ∃ Bs, Bs = (fs.map vf).flatMap fldF := ⟨_, rfl⟩
                      have hcut : cu < (pk ((fs.map vf).flatMap fldF)).length := by omega
                      simp only [← hBs] at hs hpl hcw1 hfl hcut ⊢
                      refine Z.l rfl rfl (by rfl) (Z.keepS hs) (Z.Yd.pure rfl) ?_
                      refine Z.lb 1 rfl ?_
                      refine Z.l rfl rfl (by rfl) (Z.keepS hs) (Z.Yd.cut 0 cu rfl rfl (Z.lvl_some rfl (by intro hG; first | rfl | exact (by first | omega | (have hG' := Z.gh rfl hG; simp at hG'; omega)))) Try.underlying25 Try.sizeOf5 (fun hG => ⟨(by first | omega | (have hG' := Z.gh rfl hG; simp at hG'; omega)), (by first | omega | (have hG' := Z.gh rfl hG; simp at hG'; omega))⟩)) ?_
                      refine Z.le rfl trivial ?_
                      refine Z.ZO.call rfl rfl (by rfl) rfl rfl Try.call21 rfl (newreader_any (slA Aw cw 0 1) cu cw ((pk Bs).take cu) _ ((Z.row_lentv (L1 := []) hs (j := 1) rfl).cut (l := 0) (by simp only [Nat.zero_mul, List.drop_zero, ints, List.map_take]; exact List.take_prefix _ _) (by omega)) (by simp; omega) (by omega) (by intro e; rw [slA_zero] at e; have := SX.row_none hs (j := 1) rfl e; omega)) ?_
                      rintro v15_3 w15_3 ⟨gr, svr, rfl, hy⟩
                      replace hs := hs.call hy
                      clear hy
                      try simp only [List.cons_append, List.nil_append, List.append_nil] at hs
                      have hlr : ((pk Bs).take cu).length = cu := by simp; omega
                      have hbr : ∀ x ∈ (pk Bs).take cu, 0 ≤ x ∧ x < 256 := fun x hx => pk_bd Bs x (List.mem_of_mem_take hx)
                      have hE : gsE ((pk Bs).take cu) 0 (wds fs) = 5 := gsE_short wds_bd (by rw [hlr]; have e := sumW_flat (fs.map vf); rw [← hBs] at e; unfold wds; omega) (by omega)
                      refine Z.lb 1 rfl ?_
                      refine Z.lnil ?_
                      refine Z.only [1, 8, 10] rfl ?_
                      refine Z.nthen ?_
                      refine Z.seq ?_
                      refine Z.region ?_
                      refine Z.lb 2 rfl ?_
                      refine Z.le rfl trivial ?_
                      refine Z.ZO.call rfl rfl (by rfl) rfl rfl Try.call22 rfl (rgetall_any gr _ svr _ 0 Aq k cq (wds fs) _ (hs.lend (L1 := RdL _ _ _ _ _)) (Z.row_lentv (L1 := RdL _ _ _ _ _) hs (j := 0) rfl) hwl (by omega) (by omega) (by omega) hbr) ?_
                      rintro v16_2 w16_2 ⟨so, hv, hz⟩
                      rw [hE] at hv
                      subst hv
                      rw [hE, if_neg (by decide), if_neg (by decide), if_neg (by decide)] at hz
                      replace hs := hs.regain (L1 := RdL _ _ _ _ _) hz
                      obtain ⟨As, cs, rfl, -, -, -⟩ := SX.row_slv hs (j := 2) rfl
                      replace hs : SX.St w [] w16_2 (RdL gr 73 svr ((pk Bs).take cu) 0) := hs.sel [0, 1] (by decide)
                      refine Z.lb 5 rfl ?_
                      refine Z.lnil ?_
                      refine Z.only [1, 10, 11, 12] rfl ?_
                      refine Z.nthen ?_
                      refine Z.seq ?_
                      refine Z.region ?_
                      refine Z.lb 3 rfl ?_
                      refine Z.yes (s := 59) (b := true) rfl ((by decide)) rfl ?_
                      refine Z.lb 1 rfl ?_
                      refine Z.l rfl rfl (by rfl) (Z.keepS hs) (Z.Yd.lenS rfl Try.underlying53) ?_
                      refine Z.lb 1 rfl ?_
                      refine Z.yes (s := 59) (b := true) rfl rfl rfl ?_
                      refine Z.l rfl rfl (by rfl) (Z.keepS hs) (Z.Yd.pickT rfl rfl) ?_
                      refine Z.lb 1 rfl ?_
                      refine Z.yes (s := 64) (b := true) rfl ((by decide)) rfl ?_
                      refine Z.lb 1 rfl ?_
                      refine Z.yes (s := 64) (b := true) rfl rfl rfl ?_
                      refine Z.le rfl (by exact ⟨rfl, trivial⟩) ?_
                      refine Z.ZO.call rfl rfl (by rfl) rfl rfl Try.call23 rfl (rat_any gr _ svr _ 0 _ hs.all) ?_
                      rintro v17_9 w17_9 ⟨rfl, hz⟩
                      replace hs := hs.regainAll hz
                      refine Z.lb 1 rfl ?_
                      refine Z.yes (s := 64) (b := true) rfl rfl rfl ?_
                      refine Z.l rfl rfl (by rfl) (Z.keepS hs) (Z.Yd.pickT rfl rfl) ?_
                      refine Z.lb 1 rfl ?_
                      refine Z.yes (s := 69) (b := true) rfl ((by decide)) rfl ?_
                      refine Z.lb 1 rfl ?_
                      refine Z.yes (s := 69) (b := true) rfl rfl rfl ?_
                      refine Z.le rfl (by exact ⟨rfl, trivial⟩) ?_
                      refine Z.ZO.call rfl rfl (by rfl) rfl rfl Try.call24 rfl (rleft_any gr _ svr _ 0 _ hs.all (by omega) (by omega)) ?_
                      rintro v17_14 w17_14 ⟨hv, hz⟩
                      replace hs := hs.regainAll hz
                      rw [hlr] at hv
                      subst hv
                      refine Z.lb 1 rfl ?_
                      refine Z.l rfl rfl (by rfl) (Z.keepS hs) (Z.Yd.mul rfl rfl (fun hG => Z.wi64 (by first | omega | (have hG' := Z.gh rfl hG; simp at hG'; omega)))) ?_
                      refine Z.lb 1 rfl ?_
                      refine Z.yes (s := 69) (b := true) rfl rfl rfl ?_
                      refine Z.l rfl rfl (by rfl) (Z.keepS hs) (Z.Yd.pickT rfl rfl) ?_
                      refine Z.lb 1 rfl ?_
                      refine Z.yes (s := 76) (b := true) rfl ((by simp)) rfl ?_
                      refine Z.le rfl (by exact ⟨rfl, trivial⟩) ?_
                      refine Z.ZO.call rfl rfl (by rfl) rfl rfl Try.call10 rfl (works_any _) ?_
                      rintro v17_20 w17_20 ⟨rfl, hy⟩
                      replace hs := hs.call hy
                      clear hy
                      try simp only [List.cons_append, List.nil_append, List.append_nil] at hs
                      refine Z.l rfl rfl (by rfl) (Z.keepS hs) (Z.Yd.pickT rfl rfl) ?_
                      refine Z.lb 1 rfl ?_
                      refine Z.lnil ?_
                      refine Z.only [4] rfl ?_
                      refine Z.nthen ?_
                      refine Z.ret ?_
                      -- ret#4
                      refine Z.out1 (by exact ⟨rfl, trivial⟩) ?_
                      first | exact ⟨_, rfl, rfl, hs⟩ | exact ⟨_, rfl, rfl, hs.sub (List.nil_sublist _)⟩
                      )
                )
        )
theorem fieldCuts_rd (a0 : Option Addr) (len0 cap0 : Nat) (a1 : Int) (w : World) (z0 : Rd Try.prog w 34 (Value.slice a0 len0 cap0).cells.toList) (z1 : Rd Try.prog w 3 (Value.int .i64 a1).cells.toList) :
    Calls Try.prog 5 #[.slice a0 len0 cap0, .int .i64 a1] w fun e w' => e = .returned (.bool true) ∧ Below w.heap.size w w' := by
  obtain ⟨l, h1, h2, h3, h4⟩ := rd_fields z0
  exact rowOf (fieldCuts_walk a0 len0 cap0 l a1 w h4 h1 h2 h3)
end Go.Proofs.Ytggikablbdhniaa
