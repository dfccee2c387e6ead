/- FieldHolds. -/
import Derived.Test.YtggikablbdhniaaFu
namespace Go.Proofs.Ytggikablbdhniaa
open Go.RowKit
set_option linter.unusedSimpArgs false
set_option linter.unusedVariables false

theorem drop_flat {fs : List (Int × Int)} {k : Nat} {f : Int × Int} (h : fs[k]? = some f) : (fs.drop k).flatMap fldF = fldF f ++ (fs.drop (k + 1)).flatMap fldF := by
  have hk : k < fs.length := (List.getElem?_eq_some_iff.1 h).1
  have hx : fs[k] = f := (List.getElem?_eq_some_iff.1 h).2
  rw [List.drop_eq_getElem_cons hk, hx, List.flatMap_cons]

set_option maxRecDepth 100000 in
theorem fieldHolds_walk (A : Option Addr) (n c : Nat) (fs : List (Int × Int)) (B : Option Addr) (m d : Nat) (gs : List (Int × Int)) (C : Option Addr) (p e : Nat) (bl : List Int) (w : World)
    (hx : Sl w A (fs.flatMap encF)) (hl : fs.length = n) (hn : n ≤ maxLen) (hg : ∀ f ∈ fs, GoodF f) (hy : Sl w B (gs.flatMap encF)) (hl2 : gs.length = m) (hn2 : m ≤ maxLen) (hg2 : ∀ f ∈ gs, GoodF f)
    (hbs : Sl w C (ints .u8 bl)) (hl3 : bl.length = p) (hn3 : p ≤ maxLen) (hb : ∀ x ∈ bl, 0 ≤ x ∧ x < 256) :
    Calls Try.prog 6 #[.slice A n c, .slice B m d, .slice C p e] w (SX.Ret fun r w' => r = .bool true ∧ SX.St w [] w' []) := by
  have hs := SX.St.start w
  have hmx : maxLen = 9223372036854775807 := rfl
  have hck := vfs_chk hg
  have hgv := vfs_good hg
  have hck2 := vfs_chk hg2
  have hgv2 := vfs_good hg2
  obtain ⟨F1, hF1⟩ : ∃ F1, F1 = (fs.map vf).flatMap fldF := ⟨_, rfl⟩
  obtain ⟨F2, hF2⟩ : ∃ F2, F2 = (gs.map vf).flatMap fldF := ⟨_, rfl⟩
  have hfl1 := flatF_length hck
  have hfl2 := flatF_length hck2
  rw [← hF1, List.length_map] at hfl1
  rw [← hF2, List.length_map] at hfl2
  have hul := unb_length bl
  have hr1 : resA [] (fs.map vf) = F1 := by unfold resA; rw [if_pos hck, hF1]; rfl
  have hr2 : resA (F1 ++ unb bl) (gs.map vf) = F1 ++ unb bl ++ F2 := by unfold resA; rw [if_pos hck2, hF2]
  refine Z.enter Try.func6 rfl Try.ntmps6 rfl rfl ?_
  refine Z.seq ?_
  refine Z.region ?_
  refine Z.lb 1 rfl ?_
  refine Z.lnil ?_
  refine Z.only [0, 1, 2] rfl ?_
  refine Z.nthen ?_
  refine Z.seq ?_
  refine Z.seq ?_
  refine Z.region ?_
  refine Z.lb 1 rfl ?_
  refine Z.l rfl rfl (by rfl) (Z.keepS hs) (Z.Yd.lenS rfl Try.underlying34) ?_
  refine Z.lb 2 rfl ?_
  refine Z.split (s := 22) rfl (fun hsp22 => ?_) (fun hsp22 => ?_)
  · first
      | (exfalso; simp at hsp22 <;> omega)
      | (
        refine Z.yes (s := 22) (b := true) rfl hsp22 rfl ?_
        (try simp at hsp22)
        refine Z.ls rfl rfl rfl (by rfl) ?_
        refine Z.ls rfl rfl rfl (by rfl) ?_
        refine Z.ls rfl rfl rfl (by rfl) ?_
        refine Z.l rfl rfl (by rfl) (Z.keepS hs) (Z.Yd.pickT rfl rfl) ?_
        refine Z.lb 1 rfl ?_
        refine Z.split (s := 27) rfl (fun hsp27 => ?_) (fun hsp27 => ?_)
        · first
            | (exfalso; simp at hsp27 <;> omega)
            | (
              refine Z.yes (s := 27) (b := true) rfl hsp27 rfl ?_
              (try simp at hsp27)
              refine Z.ls rfl rfl rfl (by rfl) ?_
              refine Z.ls rfl rfl rfl (by rfl) ?_
              refine Z.ls rfl rfl rfl (by rfl) ?_
              refine Z.l rfl rfl (by rfl) (Z.keepS hs) (Z.Yd.pickT rfl rfl) ?_
              refine Z.lnil ?_
              refine Z.only [0, 1, 2, 31] rfl ?_
              refine Z.nthen ?_
              refine Z.cond rfl (fun hc1 => ?_) (fun hc1 => ?_)
              · first
                  | (exfalso; simp at hc1 <;> omega)
                  | (
                    (try simp at hc1)
                    refine Z.seq ?_
                    refine Z.region ?_
                    refine Z.le rfl trivial ?_
                    refine Z.ZO.call rfl rfl (by rfl) rfl rfl Try.call10 rfl (works_any _) ?_
                    rintro v2_0 w2_0 ⟨rfl, hy1⟩
                    replace hs := hs.call hy1
                    refine Z.lb 1 rfl ?_
                    refine Z.lnil ?_
                    refine Z.only [6] rfl ?_
                    refine Z.nthen ?_
                    refine Z.ret ?_
                    repeat (first | refine Z.rthen ?_ | refine Z.rblock ?_ | refine Z.rscope ?_)
                    -- ret#0
                    refine Z.out1 (by exact ⟨rfl, trivial⟩) ?_
                    first | exact ⟨_, rfl, rfl, hs⟩ | exact ⟨_, rfl, rfl, hs.sub (List.nil_sublist _)⟩
                    )
              · first
                  | (exfalso; simp at hc1 <;> omega)
                  | (
                    (try simp at hc1)
                    refine Z.skip ?_
                    refine Z.nthen ?_
                    refine Z.seq ?_
                    refine Z.region ?_
                    have hn20 : n ≤ 20 := by omega
                    have hm20 : m ≤ 20 := by omega
                    have hp40 : p ≤ 40 := by omega
                    refine Z.l rfl rfl (by rfl) (Z.keepS hs) (Z.Yd.pure rfl) ?_
                    refine Z.le rfl trivial ?_
                    refine Z.ZO.call rfl rfl (by rfl) rfl rfl Try.call19 rfl (valid_any A n c fs _ ((hx.st hs).sx) hl (by omega) hg) ?_
                    rintro v3_1 w3_1 hy1
                    replace hs := hs.call hy1
                    obtain ⟨Ax, cx, rfl, -, -, -⟩ := SX.row_slv hs (j := 0) rfl
                    refine Z.lb 1 rfl ?_
                    refine Z.le rfl trivial ?_
                    refine Z.ZO.call rfl rfl (by rfl) rfl rfl Try.call19 rfl (valid_any B m d gs _ ((hy.st hs).sx) hl2 (by omega) hg2) ?_
                    rintro v3_3 w3_3 hy1
                    replace hs := hs.call hy1
                    obtain ⟨Ay, cy, rfl, -, -, -⟩ := SX.row_slv hs (j := 0) rfl
                    refine Z.lb 2 rfl ?_
                    refine Z.lnil ?_
                    refine Z.only [2, 7, 8] rfl ?_
                    refine Z.nthen ?_
                    refine Z.seq ?_
                    refine Z.region ?_
                    refine Z.le rfl trivial ?_
                    refine Z.ZO.alloc rfl rfl (by rfl) Try.zeroValue29 rfl hs ?_
                    clear hs; intro g9 w9 hs
                    refine Z.lnil ?_
                    refine Z.only [2, 7, 8, 9] rfl ?_
                    replace hs := WrL_start hs
                    refine Z.nthen ?_
                    refine Z.seq ?_
                    refine Z.seq ?_
                    refine Z.region ?_
                    refine Z.lb 1 rfl ?_
                    refine Z.le rfl trivial ?_
                    refine Z.ZO.call rfl rfl (by rfl) rfl rfl Try.call20 rfl (putAll_any g9 _ _ [] Ax n cx (fs.map vf) _ (hs.lend (L1 := WrL _ _ _ _)) (Z.row_lentv (L1 := WrL _ _ _ _) hs (j := 1) rfl) (by simpa using hl) (by omega) (by simp) hgv) ?_
                    rintro v5_1 w5_1 ⟨sv1, hv, hz⟩
                    replace hs := hs.regain (L1 := WrL _ _ _ _) hz
                    rw [hck] at hv
                    subst hv
                    rw [hr1] at hs
                    refine Z.le rfl trivial ?_
                    refine Z.ZO.call rfl rfl (by rfl) rfl rfl Try.call18 rfl (num_any _ _) ?_
                    rintro v5_2 w5_2 ⟨rfl, hy1⟩
                    replace hs := hs.call hy1
                    refine Z.lb 3 rfl ?_
                    refine Z.yes (s := 41) (b := false) rfl ((by decide)) rfl ?_
                    refine Z.le rfl (by exact ⟨rfl, trivial⟩) ?_
                    refine Z.ZO.call rfl rfl (by rfl) rfl rfl Try.call16 rfl (wputbytes_any g9 _ sv1 F1 C p e bl _ (hs.lend (L1 := WrL _ _ _ _)) (hbs.sx.lent (L1 := WrL _ _ _ _) hs) hl3 (by omega) (by omega) hb) ?_
                    rintro v5_6 w5_6 ⟨sv2, rfl, hz⟩
                    replace hs := hs.regain (L1 := WrL _ _ _ _) hz
                    refine Z.le rfl (by exact ⟨rfl, trivial⟩) ?_
                    refine Z.ZO.call rfl rfl (by rfl) rfl rfl Try.call18 rfl (num_any _ _) ?_
                    rintro v5_7 w5_7 ⟨rfl, hy1⟩
                    replace hs := hs.call hy1
                    refine Z.lb 1 rfl ?_
                    refine Z.yes (s := 41) (b := false) rfl rfl rfl ?_
                    refine Z.l rfl rfl (by rfl) (Z.keepS hs) (Z.Yd.pickF rfl rfl) ?_
                    refine Z.lb 2 rfl ?_
                    refine Z.yes (s := 47) (b := false) rfl ((by decide)) rfl ?_
                    refine Z.le rfl (by exact ⟨rfl, trivial⟩) ?_
                    refine Z.ZO.call rfl rfl (by rfl) rfl rfl Try.call20 rfl (putAll_any g9 _ sv2 (F1 ++ unb bl) Ay m cy (gs.map vf) _ (hs.lend (L1 := WrL _ _ _ _)) (Z.row_lentv (L1 := WrL _ _ _ _) hs (j := 0) rfl) (by simpa using hl2) (by omega) (by simp [hul]; omega) hgv2) ?_
                    rintro v5_12 w5_12 ⟨sv3, hv, hz⟩
                    replace hs := hs.regain (L1 := WrL _ _ _ _) hz
                    rw [hck2] at hv
                    subst hv
                    rw [hr2] at hs
                    refine Z.le rfl (by exact ⟨rfl, trivial⟩) ?_
                    refine Z.ZO.call rfl rfl (by rfl) rfl rfl Try.call18 rfl (num_any _ _) ?_
                    rintro v5_13 w5_13 ⟨rfl, hy1⟩
                    replace hs := hs.call hy1
                    refine Z.lb 1 rfl ?_
                    refine Z.yes (s := 47) (b := false) rfl rfl rfl ?_
                    refine Z.l rfl rfl (by rfl) (Z.keepS hs) (Z.Yd.pickF rfl rfl) ?_
                    refine Z.lnil ?_
                    refine Z.only [2, 7, 8, 9, 52] rfl ?_
                    refine Z.nthen ?_
                    refine Z.cond rfl (fun h => absurd h (by simp)) (fun hc5 => ?_)
                    refine Z.skip ?_
                    refine Z.nthen ?_
                    refine Z.seq ?_
                    refine Z.region ?_
                    obtain ⟨Bs, hBs⟩ : ∃ Bs, Bs = F1 ++ unb bl ++ F2 := ⟨_, rfl⟩
                    have hBl : Bs.length = F1.length + bl.length * 8 + F2.length := by rw [hBs]; simp [hul]; omega
                    have hpl := pk_length Bs
                    rw [← hBs] at hs
                    refine Z.le rfl trivial ?_
                    refine Z.ZO.call rfl rfl (by rfl) rfl rfl Try.call14 rfl (wbytes_any g9 _ sv3 _ _ (hs.lend (L1 := WrL _ _ _ _)) (by omega)) ?_
                    rintro v7_0 w7_0 hz
                    replace hs := hs.regain (L1 := WrL _ _ _ _) hz
                    obtain ⟨Aw, cw, rfl, hcw1, hcw2, -⟩ := SX.row_slv hs (j := 0) rfl
                    refine Z.le rfl trivial ?_
                    refine Z.ZO.call rfl rfl (by rfl) rfl rfl Try.call21 rfl (newreader_any Aw _ cw (pk Bs) _ (Z.row_lentv (L1 := []) hs (j := 0) rfl) rfl (by omega) (SX.row_none hs (j := 0) rfl)) ?_
                    rintro v7_1 w7_1 ⟨gr, svr, rfl, hy1⟩
                    replace hs := hs.call hy1
                    replace hs : SX.St w [] w7_1 (RdL gr 73 svr (pk Bs) 0 ++ (WrL g9 29 sv3 Bs ++ [SX.Ent.row (.slice Ay m cy) 50 2 m ((gs.map vf).flatMap encF), SX.Ent.row (.slice Ax n cx) 50 2 n ((fs.map vf).flatMap encF)])) := hs.sel [0, 1, 3, 4, 5, 6] (by decide)
                    have hub := unb_pk Bs
                    obtain ⟨Zs, hZs⟩ : ∃ Zs, Zs = List.replicate ((8 - Bs.length % 8) % 8) false := ⟨_, rfl⟩
                    have hZl : Zs.length = (8 - Bs.length % 8) % 8 := by rw [hZs]; simp
                    have hpad : pad Bs = F1 ++ (unb bl ++ (F2 ++ Zs)) := by unfold pad; rw [← hZs, hBs]; simp
                    obtain ⟨P, hP⟩ : ∃ P, P = pk Bs := ⟨_, rfl⟩
                    have hPb : ∀ x ∈ P, 0 ≤ x ∧ x < 256 := by rw [hP]; exact pk_bd Bs
                    rw [← hP] at hs hub hpl
                    refine Z.lb 1 rfl ?_
                    refine Z.lnil ?_
                    refine Z.only [2, 7, 8, 9, 10] rfl ?_
                    refine Z.nthen ?_
                    refine Z.seq ?_
                    refine Z.seq ?_
                    refine Z.region ?_
                    refine Z.lb 1 rfl ?_
                    refine Z.lnil ?_
                    refine Z.only [2, 7, 8, 9, 10, 11] rfl ?_
                    refine Z.nthen ?_
                    refine Z.block ?_
                    refine Z.loopk (ι := Nat × Nat) [2, 7, 8, 9, 10] rfl (fun k => [(11, [], .int .i64 (k.1 : Int))]) (fun k wr => k.1 ≤ n ∧ k.2 ≤ 8 * P.length ∧ (unb P).drop k.2 = ((fs.map vf).drop k.1).flatMap fldF ++ (unb bl ++ (F2 ++ Zs)) ∧ SX.St w [] wr (RdL gr 73 svr P k.2 ++ (WrL g9 29 sv3 Bs ++ [SX.Ent.row (.slice Ay m cy) 50 2 m ((gs.map vf).flatMap encF), SX.Ent.row (.slice Ax n cx) 50 2 n ((fs.map vf).flatMap encF)]))) (fun k => n - k.1) (0, 0) (by refine ⟨?_, trivial⟩ <;> (first | rfl | (refine Z.lookv rfl ?_; simp; done) | (refine Z.lookv rfl ?_; simp; omega))) ⟨by omega, by omega, by simp only [List.drop_zero]; rw [hub, hpad, hF1], hs⟩ ?_
                    clear hs
                    rintro ⟨k, a⟩ w1 ⟨hkn, hap, hd, hs⟩
                    refine Z.only [2, 7, 8, 9, 10, 11] rfl ?_
                    dsimp only at hs
                    dsimp only at hkn hap hd
                    refine Z.seq ?_
                    refine Z.seq ?_
                    refine Z.region ?_
                    refine Z.lb 2 rfl ?_
                    refine Z.l rfl rfl (by rfl) (Z.keepS hs) (Z.Yd.lenS rfl Try.underlying34) ?_
                    refine Z.lb 1 rfl ?_
                    refine Z.lnil ?_
                    refine Z.only [2, 7, 8, 9, 10, 11, 58] rfl ?_
                    refine Z.nthen ?_
                    refine Z.cond rfl (fun hc9 => ?_) (fun hc9 => ?_)
                    · first
                        | (exfalso; simp at hc9 <;> omega)
                        | (
                          (try simp at hc9)
                          obtain ⟨go, co', e0, -, -⟩ := row_form (j := 5) hs rfl (by omega)
                          simp only [Value.slice.injEq, true_and] at e0
                          obtain ⟨rfl, rfl⟩ := e0
                          obtain ⟨f, hf⟩ : ∃ f, (fs.map vf)[k]? = some f := ⟨_, List.getElem?_eq_getElem (by simp; omega)⟩
                          have hfm := List.mem_of_getElem? hf
                          rw [drop_flat hf, List.append_assoc] at hd
                          obtain ⟨h1, h2, h3, h4, h5⟩ := get_next hd (chkA_mem hck f hfm) (hgv f hfm) hap
                          obtain ⟨v, wd⟩ := f
                          simp only at h1 h2 h3 h4 h5
                          refine Z.skip ?_
                          refine Z.nthen ?_
                          refine Z.seq ?_
                          refine Z.block ?_
                          refine Z.seq ?_
                          refine Z.region ?_
                          refine Z.lb 3 rfl ?_
                          refine Z.l rfl rfl (by rfl) (Z.keepS hs) (Z.Yd.elem rfl rfl Try.underlying34 Try.sizeOf50 (fun hG => ⟨(by first | omega | (have hG' := Z.gh rfl hG; simp at hG'; omega)), (by first | omega | (have hG' := Z.gh rfl hG; simp at hG'; omega))⟩)) ?_
                          refine Z.l rfl rfl (by rfl) (Z.keepS hs) (Z.Yd.fieldA (m := 1) rfl (by kernel_rfl)) ?_
                          refine Z.l rfl rfl (by rfl) (Z.keepS hs) (Z.Yd.load rfl Try.isAgg3 (fun _ => Z.cellR (by first | ((repeat (first | exact List.mem_cons_self | refine List.mem_cons_of_mem _ ?_ | refine List.mem_append_right _ ?_)); done) | fail) (Z.flat_at (j := 1) encF_length hf rfl))) ?_
                          refine Z.le rfl trivial ?_
                          refine Z.ZO.call rfl rfl (by rfl) rfl rfl Try.call25 rfl (rget_any gr _ svr P a wd _ (hs.lend (L1 := RdL _ _ _ _ _)) (by omega) hap hPb) ?_
                          rintro v11_6 w11_6 ⟨hv, hz⟩
                          replace hs := hs.regain (L1 := RdL _ _ _ _ _) hz
                          rw [h1, h2] at hv
                          subst hv
                          rw [h3] at hs
                          refine Z.lb 5 rfl ?_
                          refine Z.lnil ?_
                          refine Z.only [2, 7, 8, 9, 10, 11, 12, 13] rfl ?_
                          refine Z.nthen ?_
                          refine Z.seq ?_
                          refine Z.region ?_
                          refine Z.lb 1 rfl ?_
                          refine Z.le rfl trivial ?_
                          refine Z.ZO.call rfl rfl (by rfl) rfl rfl Try.call18 rfl (num_any _ _) ?_
                          rintro v12_1 w12_1 ⟨rfl, hy1⟩
                          replace hs := hs.call hy1
                          simp only [RdL, WrL, List.cons_append, List.nil_append] at hs
                          refine Z.lb 2 rfl ?_
                          refine Z.yes (s := 74) (b := false) rfl ((by decide)) rfl ?_
                          refine Z.lb 3 rfl ?_
                          refine Z.l rfl rfl (by rfl) (Z.keepS hs) (Z.Yd.elem rfl rfl Try.underlying34 Try.sizeOf50 (fun hG => ⟨(by first | omega | (have hG' := Z.gh rfl hG; simp at hG'; omega)), (by first | omega | (have hG' := Z.gh rfl hG; simp at hG'; omega))⟩)) ?_
                          refine Z.l rfl rfl (by rfl) (Z.keepS hs) (Z.Yd.fieldA (m := 0) rfl (by kernel_rfl)) ?_
                          refine Z.l rfl rfl (by rfl) (Z.keepS hs) (Z.Yd.load rfl Try.isAgg33 (fun _ => Z.cellR (by first | ((repeat (first | exact List.mem_cons_self | refine List.mem_cons_of_mem _ ?_ | refine List.mem_append_right _ ?_)); done) | fail) (Z.flat_at (j := 0) encF_length hf rfl))) ?_
                          refine Z.lb 1 rfl ?_
                          refine Z.yes (s := 74) (b := false) rfl rfl rfl ?_
                          refine Z.l rfl rfl (by rfl) (Z.keepS hs) (Z.Yd.pickF rfl rfl) ?_
                          refine Z.lnil ?_
                          refine Z.only [2, 7, 8, 9, 10, 11, 82] rfl ?_
                          refine Z.nthen ?_
                          refine Z.cond rfl (fun h => absurd h (by simp)) (fun hc12 => ?_)
                          refine Z.skip ?_
                          refine Z.nblock ?_
                          refine Z.nthen ?_
                          refine Z.region ?_
                          refine Z.lb 1 rfl ?_
                          refine Z.l rfl rfl (by rfl) (Z.keepS hs) (Z.Yd.add rfl rfl (fun hG => Z.wi64 (by first | omega | (have hG' := Z.gh rfl hG; simp at hG'; omega)))) ?_
                          refine Z.lb 1 rfl ?_
                          refine Z.lnil ?_
                          refine Z.only [2, 7, 8, 9, 10, 11] rfl ?_
                          refine Z.nthen ?_
                          exact Z.again (k + 1, a + wd.toNat) (by refine ⟨?_, ?_, ?_, ?_, ?_, ?_, trivial⟩ <;> (first | rfl | (refine Z.lookv rfl ?_; simp; done) | (refine Z.lookv rfl ?_; simp; omega))) ⟨by simp only; omega, h4, h5, hs⟩ (by simp only; omega)
                          )
                    · first
                        | (exfalso; simp at hc9 <;> omega)
                        | (
                          (try simp at hc9)
                          refine Z.exit ?_
                          refine Z.xthen ?_
                          refine Z.xthen ?_
                          refine Z.xblock ?_
                          refine Z.nthen ?_
                          refine Z.seq ?_
                          refine Z.region ?_
                          obtain rfl : k = n := by omega
                          rw [show (fs.map vf).drop k = [] from List.drop_of_length_le (by simp; omega), List.flatMap_nil, List.nil_append] at hd
                          obtain ⟨q1, q2, q3⟩ := gsV_bytes hb hd hap
                          rw [hl3] at q1 q2 q3
                          have hgE : gbE P a (p : Int) = 0 := by unfold gbE; rw [if_neg (by omega), if_neg (by omega)]
                          have hgV : gbV P a (p : Int) = bl := by unfold gbV; rw [if_pos hgE, Int.toNat_natCast]; exact q1
                          have hgA : gbA P a (p : Int) = a + 8 * p := by unfold gbA; rw [if_pos hgE, Int.toNat_natCast]
                          refine Z.l rfl rfl (by rfl) (Z.keepS hs) (Z.Yd.pure rfl) ?_
                          refine Z.lb 1 rfl ?_
                          refine Z.l rfl rfl (by rfl) (Z.keepS hs) (Z.Yd.lenS rfl Try.underlying25) ?_
                          refine Z.le rfl trivial ?_
                          refine Z.ZO.call rfl rfl (by rfl) rfl rfl Try.call26 rfl (rgetbytes_any gr _ svr P a (p : Int) _ (hs.lend (L1 := RdL _ _ _ _ _)) (by omega) hap hPb) ?_
                          rintro v14_3 w14_3 ⟨so, hv, hz⟩
                          replace hs := hs.regain (L1 := RdL _ _ _ _ _) hz
                          rw [hgE] at hv
                          subst hv
                          rw [hgA, hgV, hl3] at hs
                          obtain ⟨Aso, cso, rfl, -, -, -⟩ := SX.row_slv hs (j := 2) rfl
                          refine Z.lb 5 rfl ?_
                          refine Z.lnil ?_
                          refine Z.only [2, 8, 9, 10, 14, 15] rfl ?_
                          refine Z.nthen ?_
                          refine Z.seq ?_
                          refine Z.seq ?_
                          refine Z.region ?_
                          refine Z.lb 1 rfl ?_
                          refine Z.le rfl trivial ?_
                          refine Z.ZO.call rfl rfl (by rfl) rfl rfl Try.call18 rfl (num_any _ _) ?_
                          rintro v15_1 w15_1 ⟨rfl, hy1⟩
                          replace hs := hs.call hy1
                          refine Z.lb 2 rfl ?_
                          refine Z.yes (s := 93) (b := false) rfl ((by decide)) rfl ?_
                          refine Z.lb 2 rfl ?_
                          refine Z.yes (s := 93) (b := false) rfl rfl rfl ?_
                          refine Z.le rfl (by exact ⟨rfl, trivial⟩) ?_
                          refine Z.ZO.call rfl rfl (by rfl) rfl rfl Try.call13 rfl (same_any Aso C p p cso e bl bl _ (SX.row_slB hs (j := 2) rfl) (hbs.sx.st hs) hl3 hl3 hb hb) ?_
                          rintro v15_6 w15_6 ⟨rfl, hy1⟩
                          replace hs := hs.call hy1
                          replace hs : SX.St w [] w15_6 (RdL gr 73 svr P (a + 8 * p) ++ (WrL g9 29 sv3 Bs ++ [SX.Ent.row (.slice Ay m cy) 50 2 m ((gs.map vf).flatMap encF)])) := hs.sel [0, 1, 3, 4, 5] (by decide)
                          refine Z.lb 1 rfl ?_
                          refine Z.yes (s := 93) (b := false) rfl rfl rfl ?_
                          refine Z.l rfl rfl (by rfl) (Z.keepS hs) (Z.Yd.pickF rfl rfl) ?_
                          refine Z.lnil ?_
                          refine Z.only [8, 9, 10, 98] rfl ?_
                          refine Z.nthen ?_
                          refine Z.cond rfl (fun h => absurd h (by simp)) (fun hc15 => ?_)
                          refine Z.skip ?_
                          refine Z.nthen ?_
                          refine Z.seq ?_
                          refine Z.seq ?_
                          refine Z.region ?_
                          refine Z.lb 1 rfl ?_
                          refine Z.lnil ?_
                          refine Z.only [8, 9, 10, 16] rfl ?_
                          refine Z.nthen ?_
                          refine Z.block ?_
                          refine Z.loopk (ι := Nat × Nat) [8, 9, 10] rfl (fun k => [(16, [], .int .i64 (k.1 : Int))]) (fun k wr => k.1 ≤ m ∧ k.2 ≤ 8 * P.length ∧ (unb P).drop k.2 = ((gs.map vf).drop k.1).flatMap fldF ++ Zs ∧ SX.St w [] wr (RdL gr 73 svr P k.2 ++ (WrL g9 29 sv3 Bs ++ [SX.Ent.row (.slice Ay m cy) 50 2 m ((gs.map vf).flatMap encF)]))) (fun k => m - k.1) (0, a + 8 * p) (by refine ⟨?_, trivial⟩ <;> (first | rfl | (refine Z.lookv rfl ?_; simp; done) | (refine Z.lookv rfl ?_; simp; omega))) ⟨by omega, by omega, by simp only [List.drop_zero]; rw [q3, hF2], hs⟩ ?_
                          clear hs
                          rintro ⟨k2, a2⟩ w3 ⟨hkn2, hap2, hd2, hs⟩
                          refine Z.only [8, 9, 10, 16] rfl ?_
                          dsimp only at hs
                          dsimp only at hkn2 hap2 hd2
                          refine Z.seq ?_
                          refine Z.seq ?_
                          refine Z.region ?_
                          refine Z.lb 2 rfl ?_
                          refine Z.l rfl rfl (by rfl) (Z.keepS hs) (Z.Yd.lenS rfl Try.underlying34) ?_
                          refine Z.lb 1 rfl ?_
                          refine Z.lnil ?_
                          refine Z.only [8, 9, 10, 16, 102] rfl ?_
                          refine Z.nthen ?_
                          refine Z.cond rfl (fun hc18 => ?_) (fun hc18 => ?_)
                          · first
                              | (exfalso; simp at hc18 <;> omega)
                              | (
                                (try simp at hc18)
                                obtain ⟨go, co', e0, -, -⟩ := row_form (j := 4) hs rfl (by omega)
                                simp only [Value.slice.injEq, true_and] at e0
                                obtain ⟨rfl, rfl⟩ := e0
                                obtain ⟨f, hf⟩ : ∃ f, (gs.map vf)[k2]? = some f := ⟨_, List.getElem?_eq_getElem (by simp; omega)⟩
                                have hfm := List.mem_of_getElem? hf
                                rw [drop_flat hf, List.append_assoc] at hd2
                                obtain ⟨h1, h2, h3, h4, h5⟩ := get_next hd2 (chkA_mem hck2 f hfm) (hgv2 f hfm) hap2
                                obtain ⟨v, wd⟩ := f
                                simp only at h1 h2 h3 h4 h5
                                refine Z.skip ?_
                                refine Z.nthen ?_
                                refine Z.seq ?_
                                refine Z.block ?_
                                refine Z.seq ?_
                                refine Z.region ?_
                                refine Z.lb 3 rfl ?_
                                refine Z.l rfl rfl (by rfl) (Z.keepS hs) (Z.Yd.elem rfl rfl Try.underlying34 Try.sizeOf50 (fun hG => ⟨(by first | omega | (have hG' := Z.gh rfl hG; simp at hG'; omega)), (by first | omega | (have hG' := Z.gh rfl hG; simp at hG'; omega))⟩)) ?_
                                refine Z.l rfl rfl (by rfl) (Z.keepS hs) (Z.Yd.fieldA (m := 1) rfl (by kernel_rfl)) ?_
                                refine Z.l rfl rfl (by rfl) (Z.keepS hs) (Z.Yd.load rfl Try.isAgg3 (fun _ => Z.cellR (by first | ((repeat (first | exact List.mem_cons_self | refine List.mem_cons_of_mem _ ?_ | refine List.mem_append_right _ ?_)); done) | fail) (Z.flat_at (j := 1) encF_length hf rfl))) ?_
                                refine Z.le rfl trivial ?_
                                refine Z.ZO.call rfl rfl (by rfl) rfl rfl Try.call25 rfl (rget_any gr _ svr P a2 wd _ (hs.lend (L1 := RdL _ _ _ _ _)) (by omega) hap2 hPb) ?_
                                rintro v20_6 w20_6 ⟨hv, hz⟩
                                replace hs := hs.regain (L1 := RdL _ _ _ _ _) hz
                                rw [h1, h2] at hv
                                subst hv
                                rw [h3] at hs
                                refine Z.lb 5 rfl ?_
                                refine Z.lnil ?_
                                refine Z.only [8, 9, 10, 16, 17, 18] rfl ?_
                                refine Z.nthen ?_
                                refine Z.seq ?_
                                refine Z.region ?_
                                refine Z.lb 1 rfl ?_
                                refine Z.le rfl trivial ?_
                                refine Z.ZO.call rfl rfl (by rfl) rfl rfl Try.call18 rfl (num_any _ _) ?_
                                rintro v21_1 w21_1 ⟨rfl, hy1⟩
                                replace hs := hs.call hy1
                                simp only [RdL, WrL, List.cons_append, List.nil_append] at hs
                                refine Z.lb 2 rfl ?_
                                refine Z.yes (s := 118) (b := false) rfl ((by decide)) rfl ?_
                                refine Z.lb 3 rfl ?_
                                refine Z.l rfl rfl (by rfl) (Z.keepS hs) (Z.Yd.elem rfl rfl Try.underlying34 Try.sizeOf50 (fun hG => ⟨(by first | omega | (have hG' := Z.gh rfl hG; simp at hG'; omega)), (by first | omega | (have hG' := Z.gh rfl hG; simp at hG'; omega))⟩)) ?_
                                refine Z.l rfl rfl (by rfl) (Z.keepS hs) (Z.Yd.fieldA (m := 0) rfl (by kernel_rfl)) ?_
                                refine Z.l rfl rfl (by rfl) (Z.keepS hs) (Z.Yd.load rfl Try.isAgg33 (fun _ => Z.cellR (by first | ((repeat (first | exact List.mem_cons_self | refine List.mem_cons_of_mem _ ?_ | refine List.mem_append_right _ ?_)); done) | fail) (Z.flat_at (j := 0) encF_length hf rfl))) ?_
                                refine Z.lb 1 rfl ?_
                                refine Z.yes (s := 118) (b := false) rfl rfl rfl ?_
                                refine Z.l rfl rfl (by rfl) (Z.keepS hs) (Z.Yd.pickF rfl rfl) ?_
                                refine Z.lnil ?_
                                refine Z.only [8, 9, 10, 16, 126] rfl ?_
                                refine Z.nthen ?_
                                refine Z.cond rfl (fun h => absurd h (by simp)) (fun hc21 => ?_)
                                refine Z.skip ?_
                                refine Z.nblock ?_
                                refine Z.nthen ?_
                                refine Z.region ?_
                                refine Z.lb 1 rfl ?_
                                refine Z.l rfl rfl (by rfl) (Z.keepS hs) (Z.Yd.add rfl rfl (fun hG => Z.wi64 (by first | omega | (have hG' := Z.gh rfl hG; simp at hG'; omega)))) ?_
                                refine Z.lb 1 rfl ?_
                                refine Z.lnil ?_
                                refine Z.only [8, 9, 10, 16] rfl ?_
                                refine Z.nthen ?_
                                exact Z.again (k2 + 1, a2 + wd.toNat) (by refine ⟨?_, ?_, ?_, ?_, trivial⟩ <;> (first | rfl | (refine Z.lookv rfl ?_; simp; done) | (refine Z.lookv rfl ?_; simp; omega))) ⟨by simp only; omega, h4, h5, hs⟩ (by simp only; omega)
                                )
                          · first
                              | (exfalso; simp at hc18 <;> omega)
                              | (
                                (try simp at hc18)
                                refine Z.exit ?_
                                refine Z.xthen ?_
                                refine Z.xthen ?_
                                refine Z.xblock ?_
                                refine Z.nthen ?_
                                refine Z.seq ?_
                                refine Z.region ?_
                                obtain rfl : k2 = m := by omega
                                rw [show (gs.map vf).drop k2 = [] from List.drop_of_length_le (by simp; omega), List.flatMap_nil, List.nil_append] at hd2
                                have hla := congrArg List.length hd2
                                rw [List.length_drop, unb_length, hZl] at hla
                                obtain rfl : a2 = Bs.length := by omega
                                have htb : toByte Bs.length = Zs.length := by rw [hZl]; rfl
                                have hba : bitsAt P Bs.length (toByte Bs.length) = Zs := by unfold bitsAt; rw [hd2, htb, List.take_length]
                                have hal : alE P Bs.length = 0 := by unfold alE; rw [hba, hZs, val_zero]; rfl
                                have hal2 : alA P Bs.length = 8 * P.length := by unfold alA; rw [hba, hZs, val_zero, if_pos rfl, htb]; omega
                                have hen : endE P Bs.length = 0 := by unfold endE; rw [if_neg (by omega), hal]
                                refine Z.l rfl rfl (by rfl) (Z.keepS hs) (Z.Yd.pure rfl) ?_
                                refine Z.le rfl trivial ?_
                                refine Z.ZO.call rfl rfl (by rfl) rfl rfl Try.call23 rfl (rat_any gr _ svr P Bs.length _ (hs.lend (L1 := RdL _ _ _ _ _))) ?_
                                rintro v23_1 w23_1 ⟨rfl, hz⟩
                                replace hs := hs.regain (L1 := RdL _ _ _ _ _) hz
                                replace hs : SX.St w [] w23_1 (WrL g9 29 sv3 Bs ++ RdL gr 73 svr P Bs.length) := hs.sel [2, 3, 0, 1] (by decide)
                                refine Z.le rfl trivial ?_
                                refine Z.ZO.call rfl rfl (by rfl) rfl rfl Try.call12 rfl (wlen_any g9 _ sv3 Bs _ hs.lend (by omega)) ?_
                                rintro v23_2 w23_2 ⟨rfl, hz⟩
                                replace hs := (hs.regain hz).rot
                                refine Z.lb 3 rfl ?_
                                refine Z.yes (s := 131) (b := true) rfl ((by simp)) rfl ?_
                                refine Z.le rfl (by exact ⟨rfl, trivial⟩) ?_
                                refine Z.ZO.call rfl rfl (by rfl) rfl rfl Try.call27 rfl (rend_any gr _ svr P _ _ hs.lend (by omega) (by omega) hPb) ?_
                                rintro v23_6 w23_6 ⟨hv, hz⟩
                                replace hs := hs.regain hz
                                rw [hen] at hv
                                subst hv
                                refine Z.le rfl (by exact ⟨rfl, trivial⟩) ?_
                                refine Z.ZO.call rfl rfl (by rfl) rfl rfl Try.call18 rfl (num_any _ _) ?_
                                rintro v23_7 w23_7 ⟨rfl, hy1⟩
                                replace hs := hs.call hy1
                                refine Z.lb 1 rfl ?_
                                refine Z.yes (s := 131) (b := true) rfl rfl rfl ?_
                                refine Z.l rfl rfl (by rfl) (Z.keepS hs) (Z.Yd.pickT rfl rfl) ?_
                                refine Z.lb 2 rfl ?_
                                refine Z.yes (s := 137) (b := true) rfl ((by decide)) rfl ?_
                                refine Z.le rfl (by exact ⟨rfl, trivial⟩) ?_
                                refine Z.ZO.call rfl rfl (by rfl) rfl rfl Try.call28 rfl (ralign_any gr _ svr P _ _ (hs.lend (L1 := RdL _ _ _ _ _)) (by omega) (by omega) hPb) ?_
                                rintro v23_12 w23_12 ⟨hv, hz⟩
                                replace hs := hs.regain (L1 := RdL _ _ _ _ _) hz
                                rw [hal] at hv
                                subst hv
                                rw [hal2] at hs
                                refine Z.le rfl (by exact ⟨rfl, trivial⟩) ?_
                                refine Z.ZO.call rfl rfl (by rfl) rfl rfl Try.call18 rfl (num_any _ _) ?_
                                rintro v23_13 w23_13 ⟨rfl, hy1⟩
                                replace hs := hs.call hy1
                                refine Z.lb 1 rfl ?_
                                refine Z.yes (s := 137) (b := true) rfl rfl rfl ?_
                                refine Z.l rfl rfl (by rfl) (Z.keepS hs) (Z.Yd.pickT rfl rfl) ?_
                                refine Z.lb 2 rfl ?_
                                refine Z.yes (s := 143) (b := true) rfl ((by decide)) rfl ?_
                                refine Z.le rfl (by exact ⟨rfl, trivial⟩) ?_
                                refine Z.ZO.call rfl rfl (by rfl) rfl rfl Try.call24 rfl (rleft_any gr _ svr P _ _ (hs.lend (L1 := RdL _ _ _ _ _)) (by omega) (by omega)) ?_
                                rintro v23_18 w23_18 ⟨hv, hz⟩
                                replace hs := hs.regain (L1 := RdL _ _ _ _ _) hz
                                rw [show (8 * P.length : Int) - ((8 * P.length : Nat) : Int) = 0 from by omega] at hv
                                subst hv
                                refine Z.lb 1 rfl ?_
                                refine Z.yes (s := 143) (b := true) rfl rfl rfl ?_
                                refine Z.l rfl rfl (by rfl) (Z.keepS hs) (Z.Yd.pickT rfl rfl) ?_
                                refine Z.lb 1 rfl ?_
                                refine Z.yes (s := 148) (b := true) rfl ((by decide)) rfl ?_
                                refine Z.le rfl (by exact ⟨rfl, trivial⟩) ?_
                                refine Z.ZO.call rfl rfl (by rfl) rfl rfl Try.call10 rfl (works_any _) ?_
                                rintro v23_22 w23_22 ⟨rfl, hy1⟩
                                replace hs := hs.call hy1
                                refine Z.l rfl rfl (by rfl) (Z.keepS hs) (Z.Yd.pickT rfl rfl) ?_
                                refine Z.lb 1 rfl ?_
                                refine Z.lnil ?_
                                refine Z.only [6] rfl ?_
                                refine Z.nthen ?_
                                refine Z.ret ?_
                                -- ret#1
                                refine Z.out1 (by exact ⟨rfl, trivial⟩) ?_
                                first | exact ⟨_, rfl, rfl, hs⟩ | exact ⟨_, rfl, rfl, hs.sub (List.nil_sublist _)⟩
                                )
                          )
                    )
              )
        · first
            | (exfalso; simp at hsp27 <;> omega)
            | (
              refine Z.yes (s := 27) (b := false) rfl hsp27 rfl ?_
              (try simp at hsp27)
              refine Z.lb 1 rfl ?_
              refine Z.l rfl rfl (by rfl) (Z.keepS hs) (Z.Yd.lenS rfl Try.underlying25) ?_
              refine Z.lb 1 rfl ?_
              refine Z.yes (s := 27) (b := false) rfl rfl rfl ?_
              refine Z.l rfl rfl (by rfl) (Z.keepS hs) (Z.Yd.pickF rfl rfl) ?_
              refine Z.lnil ?_
              refine Z.only [0, 1, 2, 31] rfl ?_
              refine Z.nthen ?_
              refine Z.cond rfl (fun hc1 => ?_) (fun hc1 => ?_)
              · first
                  | (exfalso; simp at hc1 <;> omega)
                  | (
                    (try simp at hc1)
                    refine Z.seq ?_
                    refine Z.region ?_
                    refine Z.le rfl trivial ?_
                    refine Z.ZO.call rfl rfl (by rfl) rfl rfl Try.call10 rfl (works_any _) ?_
                    rintro v2_0 w2_0 ⟨rfl, hy1⟩
                    replace hs := hs.call hy1
                    refine Z.lb 1 rfl ?_
                    refine Z.lnil ?_
                    refine Z.only [6] rfl ?_
                    refine Z.nthen ?_
                    refine Z.ret ?_
                    repeat (first | refine Z.rthen ?_ | refine Z.rblock ?_ | refine Z.rscope ?_)
                    -- ret#2
                    refine Z.out1 (by exact ⟨rfl, trivial⟩) ?_
                    first | exact ⟨_, rfl, rfl, hs⟩ | exact ⟨_, rfl, rfl, hs.sub (List.nil_sublist _)⟩
                    )
              · first
                  | (exfalso; simp at hc1 <;> omega)
                  | (
                    (try simp at hc1)
                    refine Z.skip ?_
                    refine Z.nthen ?_
                    refine Z.seq ?_
                    refine Z.region ?_
                    have hn20 : n ≤ 20 := by omega
                    have hm20 : m ≤ 20 := by omega
                    have hp40 : p ≤ 40 := by omega
                    refine Z.l rfl rfl (by rfl) (Z.keepS hs) (Z.Yd.pure rfl) ?_
                    refine Z.le rfl trivial ?_
                    refine Z.ZO.call rfl rfl (by rfl) rfl rfl Try.call19 rfl (valid_any A n c fs _ ((hx.st hs).sx) hl (by omega) hg) ?_
                    rintro v3_1 w3_1 hy1
                    replace hs := hs.call hy1
                    obtain ⟨Ax, cx, rfl, -, -, -⟩ := SX.row_slv hs (j := 0) rfl
                    refine Z.lb 1 rfl ?_
                    refine Z.le rfl trivial ?_
                    refine Z.ZO.call rfl rfl (by rfl) rfl rfl Try.call19 rfl (valid_any B m d gs _ ((hy.st hs).sx) hl2 (by omega) hg2) ?_
                    rintro v3_3 w3_3 hy1
                    replace hs := hs.call hy1
                    obtain ⟨Ay, cy, rfl, -, -, -⟩ := SX.row_slv hs (j := 0) rfl
                    refine Z.lb 2 rfl ?_
                    refine Z.lnil ?_
                    refine Z.only [2, 7, 8] rfl ?_
                    refine Z.nthen ?_
                    refine Z.seq ?_
                    refine Z.region ?_
                    refine Z.le rfl trivial ?_
                    refine Z.ZO.alloc rfl rfl (by rfl) Try.zeroValue29 rfl hs ?_
                    clear hs; intro g9 w9 hs
                    refine Z.lnil ?_
                    refine Z.only [2, 7, 8, 9] rfl ?_
                    replace hs := WrL_start hs
                    refine Z.nthen ?_
                    refine Z.seq ?_
                    refine Z.seq ?_
                    refine Z.region ?_
                    refine Z.lb 1 rfl ?_
                    refine Z.le rfl trivial ?_
                    refine Z.ZO.call rfl rfl (by rfl) rfl rfl Try.call20 rfl (putAll_any g9 _ _ [] Ax n cx (fs.map vf) _ (hs.lend (L1 := WrL _ _ _ _)) (Z.row_lentv (L1 := WrL _ _ _ _) hs (j := 1) rfl) (by simpa using hl) (by omega) (by simp) hgv) ?_
                    rintro v5_1 w5_1 ⟨sv1, hv, hz⟩
                    replace hs := hs.regain (L1 := WrL _ _ _ _) hz
                    rw [hck] at hv
                    subst hv
                    rw [hr1] at hs
                    refine Z.le rfl trivial ?_
                    refine Z.ZO.call rfl rfl (by rfl) rfl rfl Try.call18 rfl (num_any _ _) ?_
                    rintro v5_2 w5_2 ⟨rfl, hy1⟩
                    replace hs := hs.call hy1
                    refine Z.lb 3 rfl ?_
                    refine Z.yes (s := 41) (b := false) rfl ((by decide)) rfl ?_
                    refine Z.le rfl (by exact ⟨rfl, trivial⟩) ?_
                    refine Z.ZO.call rfl rfl (by rfl) rfl rfl Try.call16 rfl (wputbytes_any g9 _ sv1 F1 C p e bl _ (hs.lend (L1 := WrL _ _ _ _)) (hbs.sx.lent (L1 := WrL _ _ _ _) hs) hl3 (by omega) (by omega) hb) ?_
                    rintro v5_6 w5_6 ⟨sv2, rfl, hz⟩
                    replace hs := hs.regain (L1 := WrL _ _ _ _) hz
                    refine Z.le rfl (by exact ⟨rfl, trivial⟩) ?_
                    refine Z.ZO.call rfl rfl (by rfl) rfl rfl Try.call18 rfl (num_any _ _) ?_
                    rintro v5_7 w5_7 ⟨rfl, hy1⟩
                    replace hs := hs.call hy1
                    refine Z.lb 1 rfl ?_
                    refine Z.yes (s := 41) (b := false) rfl rfl rfl ?_
                    refine Z.l rfl rfl (by rfl) (Z.keepS hs) (Z.Yd.pickF rfl rfl) ?_
                    refine Z.lb 2 rfl ?_
                    refine Z.yes (s := 47) (b := false) rfl ((by decide)) rfl ?_
                    refine Z.le rfl (by exact ⟨rfl, trivial⟩) ?_
                    refine Z.ZO.call rfl rfl (by rfl) rfl rfl Try.call20 rfl (putAll_any g9 _ sv2 (F1 ++ unb bl) Ay m cy (gs.map vf) _ (hs.lend (L1 := WrL _ _ _ _)) (Z.row_lentv (L1 := WrL _ _ _ _) hs (j := 0) rfl) (by simpa using hl2) (by omega) (by simp [hul]; omega) hgv2) ?_
                    rintro v5_12 w5_12 ⟨sv3, hv, hz⟩
                    replace hs := hs.regain (L1 := WrL _ _ _ _) hz
                    rw [hck2] at hv
                    subst hv
                    rw [hr2] at hs
                    refine Z.le rfl (by exact ⟨rfl, trivial⟩) ?_
                    refine Z.ZO.call rfl rfl (by rfl) rfl rfl Try.call18 rfl (num_any _ _) ?_
                    rintro v5_13 w5_13 ⟨rfl, hy1⟩
                    replace hs := hs.call hy1
                    refine Z.lb 1 rfl ?_
                    refine Z.yes (s := 47) (b := false) rfl rfl rfl ?_
                    refine Z.l rfl rfl (by rfl) (Z.keepS hs) (Z.Yd.pickF rfl rfl) ?_
                    refine Z.lnil ?_
                    refine Z.only [2, 7, 8, 9, 52] rfl ?_
                    refine Z.nthen ?_
                    refine Z.cond rfl (fun h => absurd h (by simp)) (fun hc5 => ?_)
                    refine Z.skip ?_
                    refine Z.nthen ?_
                    refine Z.seq ?_
                    refine Z.region ?_
                    obtain ⟨Bs, hBs⟩ : ∃ Bs, Bs = F1 ++ unb bl ++ F2 := ⟨_, rfl⟩
                    have hBl : Bs.length = F1.length + bl.length * 8 + F2.length := by rw [hBs]; simp [hul]; omega
                    have hpl := pk_length Bs
                    rw [← hBs] at hs
                    refine Z.le rfl trivial ?_
                    refine Z.ZO.call rfl rfl (by rfl) rfl rfl Try.call14 rfl (wbytes_any g9 _ sv3 _ _ (hs.lend (L1 := WrL _ _ _ _)) (by omega)) ?_
                    rintro v7_0 w7_0 hz
                    replace hs := hs.regain (L1 := WrL _ _ _ _) hz
                    obtain ⟨Aw, cw, rfl, hcw1, hcw2, -⟩ := SX.row_slv hs (j := 0) rfl
                    refine Z.le rfl trivial ?_
                    refine Z.ZO.call rfl rfl (by rfl) rfl rfl Try.call21 rfl (newreader_any Aw _ cw (pk Bs) _ (Z.row_lentv (L1 := []) hs (j := 0) rfl) rfl (by omega) (SX.row_none hs (j := 0) rfl)) ?_
                    rintro v7_1 w7_1 ⟨gr, svr, rfl, hy1⟩
                    replace hs := hs.call hy1
                    replace hs : SX.St w [] w7_1 (RdL gr 73 svr (pk Bs) 0 ++ (WrL g9 29 sv3 Bs ++ [SX.Ent.row (.slice Ay m cy) 50 2 m ((gs.map vf).flatMap encF), SX.Ent.row (.slice Ax n cx) 50 2 n ((fs.map vf).flatMap encF)])) := hs.sel [0, 1, 3, 4, 5, 6] (by decide)
                    have hub := unb_pk Bs
                    obtain ⟨Zs, hZs⟩ : ∃ Zs, Zs = List.replicate ((8 - Bs.length % 8) % 8) false := ⟨_, rfl⟩
                    have hZl : Zs.length = (8 - Bs.length % 8) % 8 := by rw [hZs]; simp
                    have hpad : pad Bs = F1 ++ (unb bl ++ (F2 ++ Zs)) := by unfold pad; rw [← hZs, hBs]; simp
                    obtain ⟨P, hP⟩ : ∃ P, P = pk Bs := ⟨_, rfl⟩
                    have hPb : ∀ x ∈ P, 0 ≤ x ∧ x < 256 := by rw [hP]; exact pk_bd Bs
                    rw [← hP] at hs hub hpl
                    refine Z.lb 1 rfl ?_
                    refine Z.lnil ?_
                    refine Z.only [2, 7, 8, 9, 10] rfl ?_
                    refine Z.nthen ?_
                    refine Z.seq ?_
                    refine Z.seq ?_
                    refine Z.region ?_
                    refine Z.lb 1 rfl ?_
                    refine Z.lnil ?_
                    refine Z.only [2, 7, 8, 9, 10, 11] rfl ?_
                    refine Z.nthen ?_
                    refine Z.block ?_
                    refine Z.loopk (ι := Nat × Nat) [2, 7, 8, 9, 10] rfl (fun k => [(11, [], .int .i64 (k.1 : Int))]) (fun k wr => k.1 ≤ n ∧ k.2 ≤ 8 * P.length ∧ (unb P).drop k.2 = ((fs.map vf).drop k.1).flatMap fldF ++ (unb bl ++ (F2 ++ Zs)) ∧ SX.St w [] wr (RdL gr 73 svr P k.2 ++ (WrL g9 29 sv3 Bs ++ [SX.Ent.row (.slice Ay m cy) 50 2 m ((gs.map vf).flatMap encF), SX.Ent.row (.slice Ax n cx) 50 2 n ((fs.map vf).flatMap encF)]))) (fun k => n - k.1) (0, 0) (by refine ⟨?_, trivial⟩ <;> (first | rfl | (refine Z.lookv rfl ?_; simp; done) | (refine Z.lookv rfl ?_; simp; omega))) ⟨by omega, by omega, by simp only [List.drop_zero]; rw [hub, hpad, hF1], hs⟩ ?_
                    clear hs
                    rintro ⟨k, a⟩ w1 ⟨hkn, hap, hd, hs⟩
                    refine Z.only [2, 7, 8, 9, 10, 11] rfl ?_
                    dsimp only at hs
                    dsimp only at hkn hap hd
                    refine Z.seq ?_
                    refine Z.seq ?_
                    refine Z.region ?_
                    refine Z.lb 2 rfl ?_
                    refine Z.l rfl rfl (by rfl) (Z.keepS hs) (Z.Yd.lenS rfl Try.underlying34) ?_
                    refine Z.lb 1 rfl ?_
                    refine Z.lnil ?_
                    refine Z.only [2, 7, 8, 9, 10, 11, 58] rfl ?_
                    refine Z.nthen ?_
                    refine Z.cond rfl (fun hc9 => ?_) (fun hc9 => ?_)
                    · first
                        | (exfalso; simp at hc9 <;> omega)
                        | (
                          (try simp at hc9)
                          obtain ⟨go, co', e0, -, -⟩ := row_form (j := 5) hs rfl (by omega)
                          simp only [Value.slice.injEq, true_and] at e0
                          obtain ⟨rfl, rfl⟩ := e0
                          obtain ⟨f, hf⟩ : ∃ f, (fs.map vf)[k]? = some f := ⟨_, List.getElem?_eq_getElem (by simp; omega)⟩
                          have hfm := List.mem_of_getElem? hf
                          rw [drop_flat hf, List.append_assoc] at hd
                          obtain ⟨h1, h2, h3, h4, h5⟩ := get_next hd (chkA_mem hck f hfm) (hgv f hfm) hap
                          obtain ⟨v, wd⟩ := f
                          simp only at h1 h2 h3 h4 h5
                          refine Z.skip ?_
                          refine Z.nthen ?_
                          refine Z.seq ?_
                          refine Z.block ?_
                          refine Z.seq ?_
                          refine Z.region ?_
                          refine Z.lb 3 rfl ?_
                          refine Z.l rfl rfl (by rfl) (Z.keepS hs) (Z.Yd.elem rfl rfl Try.underlying34 Try.sizeOf50 (fun hG => ⟨(by first | omega | (have hG' := Z.gh rfl hG; simp at hG'; omega)), (by first | omega | (have hG' := Z.gh rfl hG; simp at hG'; omega))⟩)) ?_
                          refine Z.l rfl rfl (by rfl) (Z.keepS hs) (Z.Yd.fieldA (m := 1) rfl (by kernel_rfl)) ?_
                          refine Z.l rfl rfl (by rfl) (Z.keepS hs) (Z.Yd.load rfl Try.isAgg3 (fun _ => Z.cellR (by first | ((repeat (first | exact List.mem_cons_self | refine List.mem_cons_of_mem _ ?_ | refine List.mem_append_right _ ?_)); done) | fail) (Z.flat_at (j := 1) encF_length hf rfl))) ?_
                          refine Z.le rfl trivial ?_
                          refine Z.ZO.call rfl rfl (by rfl) rfl rfl Try.call25 rfl (rget_any gr _ svr P a wd _ (hs.lend (L1 := RdL _ _ _ _ _)) (by omega) hap hPb) ?_
                          rintro v11_6 w11_6 ⟨hv, hz⟩
                          replace hs := hs.regain (L1 := RdL _ _ _ _ _) hz
                          rw [h1, h2] at hv
                          subst hv
                          rw [h3] at hs
                          refine Z.lb 5 rfl ?_
                          refine Z.lnil ?_
                          refine Z.only [2, 7, 8, 9, 10, 11, 12, 13] rfl ?_
                          refine Z.nthen ?_
                          refine Z.seq ?_
                          refine Z.region ?_
                          refine Z.lb 1 rfl ?_
                          refine Z.le rfl trivial ?_
                          refine Z.ZO.call rfl rfl (by rfl) rfl rfl Try.call18 rfl (num_any _ _) ?_
                          rintro v12_1 w12_1 ⟨rfl, hy1⟩
                          replace hs := hs.call hy1
                          simp only [RdL, WrL, List.cons_append, List.nil_append] at hs
                          refine Z.lb 2 rfl ?_
                          refine Z.yes (s := 74) (b := false) rfl ((by decide)) rfl ?_
                          refine Z.lb 3 rfl ?_
                          refine Z.l rfl rfl (by rfl) (Z.keepS hs) (Z.Yd.elem rfl rfl Try.underlying34 Try.sizeOf50 (fun hG => ⟨(by first | omega | (have hG' := Z.gh rfl hG; simp at hG'; omega)), (by first | omega | (have hG' := Z.gh rfl hG; simp at hG'; omega))⟩)) ?_
                          refine Z.l rfl rfl (by rfl) (Z.keepS hs) (Z.Yd.fieldA (m := 0) rfl (by kernel_rfl)) ?_
                          refine Z.l rfl rfl (by rfl) (Z.keepS hs) (Z.Yd.load rfl Try.isAgg33 (fun _ => Z.cellR (by first | ((repeat (first | exact List.mem_cons_self | refine List.mem_cons_of_mem _ ?_ | refine List.mem_append_right _ ?_)); done) | fail) (Z.flat_at (j := 0) encF_length hf rfl))) ?_
                          refine Z.lb 1 rfl ?_
                          refine Z.yes (s := 74) (b := false) rfl rfl rfl ?_
                          refine Z.l rfl rfl (by rfl) (Z.keepS hs) (Z.Yd.pickF rfl rfl) ?_
                          refine Z.lnil ?_
                          refine Z.only [2, 7, 8, 9, 10, 11, 82] rfl ?_
                          refine Z.nthen ?_
                          refine Z.cond rfl (fun h => absurd h (by simp)) (fun hc12 => ?_)
                          refine Z.skip ?_
                          refine Z.nblock ?_
                          refine Z.nthen ?_
                          refine Z.region ?_
                          refine Z.lb 1 rfl ?_
                          refine Z.l rfl rfl (by rfl) (Z.keepS hs) (Z.Yd.add rfl rfl (fun hG => Z.wi64 (by first | omega | (have hG' := Z.gh rfl hG; simp at hG'; omega)))) ?_
                          refine Z.lb 1 rfl ?_
                          refine Z.lnil ?_
                          refine Z.only [2, 7, 8, 9, 10, 11] rfl ?_
                          refine Z.nthen ?_
                          exact Z.again (k + 1, a + wd.toNat) (by refine ⟨?_, ?_, ?_, ?_, ?_, ?_, trivial⟩ <;> (first | rfl | (refine Z.lookv rfl ?_; simp; done) | (refine Z.lookv rfl ?_; simp; omega))) ⟨by simp only; omega, h4, h5, hs⟩ (by simp only; omega)
                          )
                    · first
                        | (exfalso; simp at hc9 <;> omega)
                        | (
                          (try simp at hc9)
                          refine Z.exit ?_
                          refine Z.xthen ?_
                          refine Z.xthen ?_
                          refine Z.xblock ?_
                          refine Z.nthen ?_
                          refine Z.seq ?_
                          refine Z.region ?_
                          obtain rfl : k = n := by omega
                          rw [show (fs.map vf).drop k = [] from List.drop_of_length_le (by simp; omega), List.flatMap_nil, List.nil_append] at hd
                          obtain ⟨q1, q2, q3⟩ := gsV_bytes hb hd hap
                          rw [hl3] at q1 q2 q3
                          have hgE : gbE P a (p : Int) = 0 := by unfold gbE; rw [if_neg (by omega), if_neg (by omega)]
                          have hgV : gbV P a (p : Int) = bl := by unfold gbV; rw [if_pos hgE, Int.toNat_natCast]; exact q1
                          have hgA : gbA P a (p : Int) = a + 8 * p := by unfold gbA; rw [if_pos hgE, Int.toNat_natCast]
                          refine Z.l rfl rfl (by rfl) (Z.keepS hs) (Z.Yd.pure rfl) ?_
                          refine Z.lb 1 rfl ?_
                          refine Z.l rfl rfl (by rfl) (Z.keepS hs) (Z.Yd.lenS rfl Try.underlying25) ?_
                          refine Z.le rfl trivial ?_
                          refine Z.ZO.call rfl rfl (by rfl) rfl rfl Try.call26 rfl (rgetbytes_any gr _ svr P a (p : Int) _ (hs.lend (L1 := RdL _ _ _ _ _)) (by omega) hap hPb) ?_
                          rintro v14_3 w14_3 ⟨so, hv, hz⟩
                          replace hs := hs.regain (L1 := RdL _ _ _ _ _) hz
                          rw [hgE] at hv
                          subst hv
                          rw [hgA, hgV, hl3] at hs
                          obtain ⟨Aso, cso, rfl, -, -, -⟩ := SX.row_slv hs (j := 2) rfl
                          refine Z.lb 5 rfl ?_
                          refine Z.lnil ?_
                          refine Z.only [2, 8, 9, 10, 14, 15] rfl ?_
                          refine Z.nthen ?_
                          refine Z.seq ?_
                          refine Z.seq ?_
                          refine Z.region ?_
                          refine Z.lb 1 rfl ?_
                          refine Z.le rfl trivial ?_
                          refine Z.ZO.call rfl rfl (by rfl) rfl rfl Try.call18 rfl (num_any _ _) ?_
                          rintro v15_1 w15_1 ⟨rfl, hy1⟩
                          replace hs := hs.call hy1
                          refine Z.lb 2 rfl ?_
                          refine Z.yes (s := 93) (b := false) rfl ((by decide)) rfl ?_
                          refine Z.lb 2 rfl ?_
                          refine Z.yes (s := 93) (b := false) rfl rfl rfl ?_
                          refine Z.le rfl (by exact ⟨rfl, trivial⟩) ?_
                          refine Z.ZO.call rfl rfl (by rfl) rfl rfl Try.call13 rfl (same_any Aso C p p cso e bl bl _ (SX.row_slB hs (j := 2) rfl) (hbs.sx.st hs) hl3 hl3 hb hb) ?_
                          rintro v15_6 w15_6 ⟨rfl, hy1⟩
                          replace hs := hs.call hy1
                          replace hs : SX.St w [] w15_6 (RdL gr 73 svr P (a + 8 * p) ++ (WrL g9 29 sv3 Bs ++ [SX.Ent.row (.slice Ay m cy) 50 2 m ((gs.map vf).flatMap encF)])) := hs.sel [0, 1, 3, 4, 5] (by decide)
                          refine Z.lb 1 rfl ?_
                          refine Z.yes (s := 93) (b := false) rfl rfl rfl ?_
                          refine Z.l rfl rfl (by rfl) (Z.keepS hs) (Z.Yd.pickF rfl rfl) ?_
                          refine Z.lnil ?_
                          refine Z.only [8, 9, 10, 98] rfl ?_
                          refine Z.nthen ?_
                          refine Z.cond rfl (fun h => absurd h (by simp)) (fun hc15 => ?_)
                          refine Z.skip ?_
                          refine Z.nthen ?_
                          refine Z.seq ?_
                          refine Z.seq ?_
                          refine Z.region ?_
                          refine Z.lb 1 rfl ?_
                          refine Z.lnil ?_
                          refine Z.only [8, 9, 10, 16] rfl ?_
                          refine Z.nthen ?_
                          refine Z.block ?_
                          refine Z.loopk (ι := Nat × Nat) [8, 9, 10] rfl (fun k => [(16, [], .int .i64 (k.1 : Int))]) (fun k wr => k.1 ≤ m ∧ k.2 ≤ 8 * P.length ∧ (unb P).drop k.2 = ((gs.map vf).drop k.1).flatMap fldF ++ Zs ∧ SX.St w [] wr (RdL gr 73 svr P k.2 ++ (WrL g9 29 sv3 Bs ++ [SX.Ent.row (.slice Ay m cy) 50 2 m ((gs.map vf).flatMap encF)]))) (fun k => m - k.1) (0, a + 8 * p) (by refine ⟨?_, trivial⟩ <;> (first | rfl | (refine Z.lookv rfl ?_; simp; done) | (refine Z.lookv rfl ?_; simp; omega))) ⟨by omega, by omega, by simp only [List.drop_zero]; rw [q3, hF2], hs⟩ ?_
                          clear hs
                          rintro ⟨k2, a2⟩ w3 ⟨hkn2, hap2, hd2, hs⟩
                          refine Z.only [8, 9, 10, 16] rfl ?_
                          dsimp only at hs
                          dsimp only at hkn2 hap2 hd2
                          refine Z.seq ?_
                          refine Z.seq ?_
                          refine Z.region ?_
                          refine Z.lb 2 rfl ?_
                          refine Z.l rfl rfl (by rfl) (Z.keepS hs) (Z.Yd.lenS rfl Try.underlying34) ?_
                          refine Z.lb 1 rfl ?_
                          refine Z.lnil ?_
                          refine Z.only [8, 9, 10, 16, 102] rfl ?_
                          refine Z.nthen ?_
                          refine Z.cond rfl (fun hc18 => ?_) (fun hc18 => ?_)
                          · first
                              | (exfalso; simp at hc18 <;> omega)
                              | (
                                (try simp at hc18)
                                obtain ⟨go, co', e0, -, -⟩ := row_form (j := 4) hs rfl (by omega)
                                simp only [Value.slice.injEq, true_and] at e0
                                obtain ⟨rfl, rfl⟩ := e0
                                obtain ⟨f, hf⟩ : ∃ f, (gs.map vf)[k2]? = some f := ⟨_, List.getElem?_eq_getElem (by simp; omega)⟩
                                have hfm := List.mem_of_getElem? hf
                                rw [drop_flat hf, List.append_assoc] at hd2
                                obtain ⟨h1, h2, h3, h4, h5⟩ := get_next hd2 (chkA_mem hck2 f hfm) (hgv2 f hfm) hap2
                                obtain ⟨v, wd⟩ := f
                                simp only at h1 h2 h3 h4 h5
                                refine Z.skip ?_
                                refine Z.nthen ?_
                                refine Z.seq ?_
                                refine Z.block ?_
                                refine Z.seq ?_
                                refine Z.region ?_
                                refine Z.lb 3 rfl ?_
                                refine Z.l rfl rfl (by rfl) (Z.keepS hs) (Z.Yd.elem rfl rfl Try.underlying34 Try.sizeOf50 (fun hG => ⟨(by first | omega | (have hG' := Z.gh rfl hG; simp at hG'; omega)), (by first | omega | (have hG' := Z.gh rfl hG; simp at hG'; omega))⟩)) ?_
                                refine Z.l rfl rfl (by rfl) (Z.keepS hs) (Z.Yd.fieldA (m := 1) rfl (by kernel_rfl)) ?_
                                refine Z.l rfl rfl (by rfl) (Z.keepS hs) (Z.Yd.load rfl Try.isAgg3 (fun _ => Z.cellR (by first | ((repeat (first | exact List.mem_cons_self | refine List.mem_cons_of_mem _ ?_ | refine List.mem_append_right _ ?_)); done) | fail) (Z.flat_at (j := 1) encF_length hf rfl))) ?_
                                refine Z.le rfl trivial ?_
                                refine Z.ZO.call rfl rfl (by rfl) rfl rfl Try.call25 rfl (rget_any gr _ svr P a2 wd _ (hs.lend (L1 := RdL _ _ _ _ _)) (by omega) hap2 hPb) ?_
                                rintro v20_6 w20_6 ⟨hv, hz⟩
                                replace hs := hs.regain (L1 := RdL _ _ _ _ _) hz
                                rw [h1, h2] at hv
                                subst hv
                                rw [h3] at hs
                                refine Z.lb 5 rfl ?_
                                refine Z.lnil ?_
                                refine Z.only [8, 9, 10, 16, 17, 18] rfl ?_
                                refine Z.nthen ?_
                                refine Z.seq ?_
                                refine Z.region ?_
                                refine Z.lb 1 rfl ?_
                                refine Z.le rfl trivial ?_
                                refine Z.ZO.call rfl rfl (by rfl) rfl rfl Try.call18 rfl (num_any _ _) ?_
                                rintro v21_1 w21_1 ⟨rfl, hy1⟩
                                replace hs := hs.call hy1
                                simp only [RdL, WrL, List.cons_append, List.nil_append] at hs
                                refine Z.lb 2 rfl ?_
                                refine Z.yes (s := 118) (b := false) rfl ((by decide)) rfl ?_
                                refine Z.lb 3 rfl ?_
                                refine Z.l rfl rfl (by rfl) (Z.keepS hs) (Z.Yd.elem rfl rfl Try.underlying34 Try.sizeOf50 (fun hG => ⟨(by first | omega | (have hG' := Z.gh rfl hG; simp at hG'; omega)), (by first | omega | (have hG' := Z.gh rfl hG; simp at hG'; omega))⟩)) ?_
                                refine Z.l rfl rfl (by rfl) (Z.keepS hs) (Z.Yd.fieldA (m := 0) rfl (by kernel_rfl)) ?_
                                refine Z.l rfl rfl (by rfl) (Z.keepS hs) (Z.Yd.load rfl Try.isAgg33 (fun _ => Z.cellR (by first | ((repeat (first | exact List.mem_cons_self | refine List.mem_cons_of_mem _ ?_ | refine List.mem_append_right _ ?_)); done) | fail) (Z.flat_at (j := 0) encF_length hf rfl))) ?_
                                refine Z.lb 1 rfl ?_
                                refine Z.yes (s := 118) (b := false) rfl rfl rfl ?_
                                refine Z.l rfl rfl (by rfl) (Z.keepS hs) (Z.Yd.pickF rfl rfl) ?_
                                refine Z.lnil ?_
                                refine Z.only [8, 9, 10, 16, 126] rfl ?_
                                refine Z.nthen ?_
                                refine Z.cond rfl (fun h => absurd h (by simp)) (fun hc21 => ?_)
                                refine Z.skip ?_
                                refine Z.nblock ?_
                                refine Z.nthen ?_
                                refine Z.region ?_
                                refine Z.lb 1 rfl ?_
                                refine Z.l rfl rfl (by rfl) (Z.keepS hs) (Z.Yd.add rfl rfl (fun hG => Z.wi64 (by first | omega | (have hG' := Z.gh rfl hG; simp at hG'; omega)))) ?_
                                refine Z.lb 1 rfl ?_
                                refine Z.lnil ?_
                                refine Z.only [8, 9, 10, 16] rfl ?_
                                refine Z.nthen ?_
                                exact Z.again (k2 + 1, a2 + wd.toNat) (by refine ⟨?_, ?_, ?_, ?_, trivial⟩ <;> (first | rfl | (refine Z.lookv rfl ?_; simp; done) | (refine Z.lookv rfl ?_; simp; omega))) ⟨by simp only; omega, h4, h5, hs⟩ (by simp only; omega)
                                )
                          · first
                              | (exfalso; simp at hc18 <;> omega)
                              | (
                                (try simp at hc18)
                                refine Z.exit ?_
                                refine Z.xthen ?_
                                refine Z.xthen ?_
                                refine Z.xblock ?_
                                refine Z.nthen ?_
                                refine Z.seq ?_
                                refine Z.region ?_
                                obtain rfl : k2 = m := by omega
                                rw [show (gs.map vf).drop k2 = [] from List.drop_of_length_le (by simp; omega), List.flatMap_nil, List.nil_append] at hd2
                                have hla := congrArg List.length hd2
                                rw [List.length_drop, unb_length, hZl] at hla
                                obtain rfl : a2 = Bs.length := by omega
                                have htb : toByte Bs.length = Zs.length := by rw [hZl]; rfl
                                have hba : bitsAt P Bs.length (toByte Bs.length) = Zs := by unfold bitsAt; rw [hd2, htb, List.take_length]
                                have hal : alE P Bs.length = 0 := by unfold alE; rw [hba, hZs, val_zero]; rfl
                                have hal2 : alA P Bs.length = 8 * P.length := by unfold alA; rw [hba, hZs, val_zero, if_pos rfl, htb]; omega
                                have hen : endE P Bs.length = 0 := by unfold endE; rw [if_neg (by omega), hal]
                                refine Z.l rfl rfl (by rfl) (Z.keepS hs) (Z.Yd.pure rfl) ?_
                                refine Z.le rfl trivial ?_
                                refine Z.ZO.call rfl rfl (by rfl) rfl rfl Try.call23 rfl (rat_any gr _ svr P Bs.length _ (hs.lend (L1 := RdL _ _ _ _ _))) ?_
                                rintro v23_1 w23_1 ⟨rfl, hz⟩
                                replace hs := hs.regain (L1 := RdL _ _ _ _ _) hz
                                replace hs : SX.St w [] w23_1 (WrL g9 29 sv3 Bs ++ RdL gr 73 svr P Bs.length) := hs.sel [2, 3, 0, 1] (by decide)
                                refine Z.le rfl trivial ?_
                                refine Z.ZO.call rfl rfl (by rfl) rfl rfl Try.call12 rfl (wlen_any g9 _ sv3 Bs _ hs.lend (by omega)) ?_
                                rintro v23_2 w23_2 ⟨rfl, hz⟩
                                replace hs := (hs.regain hz).rot
                                refine Z.lb 3 rfl ?_
                                refine Z.yes (s := 131) (b := true) rfl ((by simp)) rfl ?_
                                refine Z.le rfl (by exact ⟨rfl, trivial⟩) ?_
                                refine Z.ZO.call rfl rfl (by rfl) rfl rfl Try.call27 rfl (rend_any gr _ svr P _ _ hs.lend (by omega) (by omega) hPb) ?_
                                rintro v23_6 w23_6 ⟨hv, hz⟩
                                replace hs := hs.regain hz
                                rw [hen] at hv
                                subst hv
                                refine Z.le rfl (by exact ⟨rfl, trivial⟩) ?_
                                refine Z.ZO.call rfl rfl (by rfl) rfl rfl Try.call18 rfl (num_any _ _) ?_
                                rintro v23_7 w23_7 ⟨rfl, hy1⟩
                                replace hs := hs.call hy1
                                refine Z.lb 1 rfl ?_
                                refine Z.yes (s := 131) (b := true) rfl rfl rfl ?_
                                refine Z.l rfl rfl (by rfl) (Z.keepS hs) (Z.Yd.pickT rfl rfl) ?_
                                refine Z.lb 2 rfl ?_
                                refine Z.yes (s := 137) (b := true) rfl ((by decide)) rfl ?_
                                refine Z.le rfl (by exact ⟨rfl, trivial⟩) ?_
                                refine Z.ZO.call rfl rfl (by rfl) rfl rfl Try.call28 rfl (ralign_any gr _ svr P _ _ (hs.lend (L1 := RdL _ _ _ _ _)) (by omega) (by omega) hPb) ?_
                                rintro v23_12 w23_12 ⟨hv, hz⟩
                                replace hs := hs.regain (L1 := RdL _ _ _ _ _) hz
                                rw [hal] at hv
                                subst hv
                                rw [hal2] at hs
                                refine Z.le rfl (by exact ⟨rfl, trivial⟩) ?_
                                refine Z.ZO.call rfl rfl (by rfl) rfl rfl Try.call18 rfl (num_any _ _) ?_
                                rintro v23_13 w23_13 ⟨rfl, hy1⟩
                                replace hs := hs.call hy1
                                refine Z.lb 1 rfl ?_
                                refine Z.yes (s := 137) (b := true) rfl rfl rfl ?_
                                refine Z.l rfl rfl (by rfl) (Z.keepS hs) (Z.Yd.pickT rfl rfl) ?_
                                refine Z.lb 2 rfl ?_
                                refine Z.yes (s := 143) (b := true) rfl ((by decide)) rfl ?_
                                refine Z.le rfl (by exact ⟨rfl, trivial⟩) ?_
                                refine Z.ZO.call rfl rfl (by rfl) rfl rfl Try.call24 rfl (rleft_any gr _ svr P _ _ (hs.lend (L1 := RdL _ _ _ _ _)) (by omega) (by omega)) ?_
                                rintro v23_18 w23_18 ⟨hv, hz⟩
                                replace hs := hs.regain (L1 := RdL _ _ _ _ _) hz
                                rw [show (8 * P.length : Int) - ((8 * P.length : Nat) : Int) = 0 from by omega] at hv
                                subst hv
                                refine Z.lb 1 rfl ?_
                                refine Z.yes (s := 143) (b := true) rfl rfl rfl ?_
                                refine Z.l rfl rfl (by rfl) (Z.keepS hs) (Z.Yd.pickT rfl rfl) ?_
                                refine Z.lb 1 rfl ?_
                                refine Z.yes (s := 148) (b := true) rfl ((by decide)) rfl ?_
                                refine Z.le rfl (by exact ⟨rfl, trivial⟩) ?_
                                refine Z.ZO.call rfl rfl (by rfl) rfl rfl Try.call10 rfl (works_any _) ?_
                                rintro v23_22 w23_22 ⟨rfl, hy1⟩
                                replace hs := hs.call hy1
                                refine Z.l rfl rfl (by rfl) (Z.keepS hs) (Z.Yd.pickT rfl rfl) ?_
                                refine Z.lb 1 rfl ?_
                                refine Z.lnil ?_
                                refine Z.only [6] rfl ?_
                                refine Z.nthen ?_
                                refine Z.ret ?_
                                -- ret#3
                                refine Z.out1 (by exact ⟨rfl, trivial⟩) ?_
                                first | exact ⟨_, rfl, rfl, hs⟩ | exact ⟨_, rfl, rfl, hs.sub (List.nil_sublist _)⟩
                                )
                          )
                    )
              )
        )
  · first
      | (exfalso; simp at hsp22 <;> omega)
      | (
        refine Z.yes (s := 22) (b := false) rfl hsp22 rfl ?_
        (try simp at hsp22)
        refine Z.lb 1 rfl ?_
        refine Z.l rfl rfl (by rfl) (Z.keepS hs) (Z.Yd.lenS rfl Try.underlying34) ?_
        refine Z.lb 1 rfl ?_
        refine Z.yes (s := 22) (b := false) rfl rfl rfl ?_
        refine Z.l rfl rfl (by rfl) (Z.keepS hs) (Z.Yd.pickF rfl rfl) ?_
        refine Z.lb 1 rfl ?_
        refine Z.split (s := 27) rfl (fun hsp27 => ?_) (fun hsp27 => ?_)
        · first
            | (exfalso; simp at hsp27 <;> omega)
            | (
              refine Z.yes (s := 27) (b := true) rfl hsp27 rfl ?_
              (try simp at hsp27)
              refine Z.ls rfl rfl rfl (by rfl) ?_
              refine Z.ls rfl rfl rfl (by rfl) ?_
              refine Z.ls rfl rfl rfl (by rfl) ?_
              refine Z.l rfl rfl (by rfl) (Z.keepS hs) (Z.Yd.pickT rfl rfl) ?_
              refine Z.lnil ?_
              refine Z.only [0, 1, 2, 31] rfl ?_
              refine Z.nthen ?_
              refine Z.cond rfl (fun hc1 => ?_) (fun hc1 => ?_)
              · first
                  | (exfalso; simp at hc1 <;> omega)
                  | (
                    (try simp at hc1)
                    refine Z.seq ?_
                    refine Z.region ?_
                    refine Z.le rfl trivial ?_
                    refine Z.ZO.call rfl rfl (by rfl) rfl rfl Try.call10 rfl (works_any _) ?_
                    rintro v2_0 w2_0 ⟨rfl, hy1⟩
                    replace hs := hs.call hy1
                    refine Z.lb 1 rfl ?_
                    refine Z.lnil ?_
                    refine Z.only [6] rfl ?_
                    refine Z.nthen ?_
                    refine Z.ret ?_
                    repeat (first | refine Z.rthen ?_ | refine Z.rblock ?_ | refine Z.rscope ?_)
                    -- ret#4
                    refine Z.out1 (by exact ⟨rfl, trivial⟩) ?_
                    first | exact ⟨_, rfl, rfl, hs⟩ | exact ⟨_, rfl, rfl, hs.sub (List.nil_sublist _)⟩
                    )
              · first
                  | (exfalso; simp at hc1 <;> omega)
                  | (
                    (try simp at hc1)
                    refine Z.skip ?_
                    refine Z.nthen ?_
                    refine Z.seq ?_
                    refine Z.region ?_
                    have hn20 : n ≤ 20 := by omega
                    have hm20 : m ≤ 20 := by omega
                    have hp40 : p ≤ 40 := by omega
                    refine Z.l rfl rfl (by rfl) (Z.keepS hs) (Z.Yd.pure rfl) ?_
                    refine Z.le rfl trivial ?_
                    refine Z.ZO.call rfl rfl (by rfl) rfl rfl Try.call19 rfl (valid_any A n c fs _ ((hx.st hs).sx) hl (by omega) hg) ?_
                    rintro v3_1 w3_1 hy1
                    replace hs := hs.call hy1
                    obtain ⟨Ax, cx, rfl, -, -, -⟩ := SX.row_slv hs (j := 0) rfl
                    refine Z.lb 1 rfl ?_
                    refine Z.le rfl trivial ?_
                    refine Z.ZO.call rfl rfl (by rfl) rfl rfl Try.call19 rfl (valid_any B m d gs _ ((hy.st hs).sx) hl2 (by omega) hg2) ?_
                    rintro v3_3 w3_3 hy1
                    replace hs := hs.call hy1
                    obtain ⟨Ay, cy, rfl, -, -, -⟩ := SX.row_slv hs (j := 0) rfl
                    refine Z.lb 2 rfl ?_
                    refine Z.lnil ?_
                    refine Z.only [2, 7, 8] rfl ?_
                    refine Z.nthen ?_
                    refine Z.seq ?_
                    refine Z.region ?_
                    refine Z.le rfl trivial ?_
                    refine Z.ZO.alloc rfl rfl (by rfl) Try.zeroValue29 rfl hs ?_
                    clear hs; intro g9 w9 hs
                    refine Z.lnil ?_
                    refine Z.only [2, 7, 8, 9] rfl ?_
                    replace hs := WrL_start hs
                    refine Z.nthen ?_
                    refine Z.seq ?_
                    refine Z.seq ?_
                    refine Z.region ?_
                    refine Z.lb 1 rfl ?_
                    refine Z.le rfl trivial ?_
                    refine Z.ZO.call rfl rfl (by rfl) rfl rfl Try.call20 rfl (putAll_any g9 _ _ [] Ax n cx (fs.map vf) _ (hs.lend (L1 := WrL _ _ _ _)) (Z.row_lentv (L1 := WrL _ _ _ _) hs (j := 1) rfl) (by simpa using hl) (by omega) (by simp) hgv) ?_
                    rintro v5_1 w5_1 ⟨sv1, hv, hz⟩
                    replace hs := hs.regain (L1 := WrL _ _ _ _) hz
                    rw [hck] at hv
                    subst hv
                    rw [hr1] at hs
                    refine Z.le rfl trivial ?_
                    refine Z.ZO.call rfl rfl (by rfl) rfl rfl Try.call18 rfl (num_any _ _) ?_
                    rintro v5_2 w5_2 ⟨rfl, hy1⟩
                    replace hs := hs.call hy1
                    refine Z.lb 3 rfl ?_
                    refine Z.yes (s := 41) (b := false) rfl ((by decide)) rfl ?_
                    refine Z.le rfl (by exact ⟨rfl, trivial⟩) ?_
                    refine Z.ZO.call rfl rfl (by rfl) rfl rfl Try.call16 rfl (wputbytes_any g9 _ sv1 F1 C p e bl _ (hs.lend (L1 := WrL _ _ _ _)) (hbs.sx.lent (L1 := WrL _ _ _ _) hs) hl3 (by omega) (by omega) hb) ?_
                    rintro v5_6 w5_6 ⟨sv2, rfl, hz⟩
                    replace hs := hs.regain (L1 := WrL _ _ _ _) hz
                    refine Z.le rfl (by exact ⟨rfl, trivial⟩) ?_
                    refine Z.ZO.call rfl rfl (by rfl) rfl rfl Try.call18 rfl (num_any _ _) ?_
                    rintro v5_7 w5_7 ⟨rfl, hy1⟩
                    replace hs := hs.call hy1
                    refine Z.lb 1 rfl ?_
                    refine Z.yes (s := 41) (b := false) rfl rfl rfl ?_
                    refine Z.l rfl rfl (by rfl) (Z.keepS hs) (Z.Yd.pickF rfl rfl) ?_
                    refine Z.lb 2 rfl ?_
                    refine Z.yes (s := 47) (b := false) rfl ((by decide)) rfl ?_
                    refine Z.le rfl (by exact ⟨rfl, trivial⟩) ?_
                    refine Z.ZO.call rfl rfl (by rfl) rfl rfl Try.call20 rfl (putAll_any g9 _ sv2 (F1 ++ unb bl) Ay m cy (gs.map vf) _ (hs.lend (L1 := WrL _ _ _ _)) (Z.row_lentv (L1 := WrL _ _ _ _) hs (j := 0) rfl) (by simpa using hl2) (by omega) (by simp [hul]; omega) hgv2) ?_
                    rintro v5_12 w5_12 ⟨sv3, hv, hz⟩
                    replace hs := hs.regain (L1 := WrL _ _ _ _) hz
                    rw [hck2] at hv
                    subst hv
                    rw [hr2] at hs
                    refine Z.le rfl (by exact ⟨rfl, trivial⟩) ?_
                    refine Z.ZO.call rfl rfl (by rfl) rfl rfl Try.call18 rfl (num_any _ _) ?_
                    rintro v5_13 w5_13 ⟨rfl, hy1⟩
                    replace hs := hs.call hy1
                    refine Z.lb 1 rfl ?_
                    refine Z.yes (s := 47) (b := false) rfl rfl rfl ?_
                    refine Z.l rfl rfl (by rfl) (Z.keepS hs) (Z.Yd.pickF rfl rfl) ?_
                    refine Z.lnil ?_
                    refine Z.only [2, 7, 8, 9, 52] rfl ?_
                    refine Z.nthen ?_
                    refine Z.cond rfl (fun h => absurd h (by simp)) (fun hc5 => ?_)
                    refine Z.skip ?_
                    refine Z.nthen ?_
                    refine Z.seq ?_
                    refine Z.region ?_
                    obtain ⟨Bs, hBs⟩ : ∃ Bs, Bs = F1 ++ unb bl ++ F2 := ⟨_, rfl⟩
                    have hBl : Bs.length = F1.length + bl.length * 8 + F2.length := by rw [hBs]; simp [hul]; omega
                    have hpl := pk_length Bs
                    rw [← hBs] at hs
                    refine Z.le rfl trivial ?_
                    refine Z.ZO.call rfl rfl (by rfl) rfl rfl Try.call14 rfl (wbytes_any g9 _ sv3 _ _ (hs.lend (L1 := WrL _ _ _ _)) (by omega)) ?_
                    rintro v7_0 w7_0 hz
                    replace hs := hs.regain (L1 := WrL _ _ _ _) hz
                    obtain ⟨Aw, cw, rfl, hcw1, hcw2, -⟩ := SX.row_slv hs (j := 0) rfl
                    refine Z.le rfl trivial ?_
                    refine Z.ZO.call rfl rfl (by rfl) rfl rfl Try.call21 rfl (newreader_any Aw _ cw (pk Bs) _ (Z.row_lentv (L1 := []) hs (j := 0) rfl) rfl (by omega) (SX.row_none hs (j := 0) rfl)) ?_
                    rintro v7_1 w7_1 ⟨gr, svr, rfl, hy1⟩
                    replace hs := hs.call hy1
                    replace hs : SX.St w [] w7_1 (RdL gr 73 svr (pk Bs) 0 ++ (WrL g9 29 sv3 Bs ++ [SX.Ent.row (.slice Ay m cy) 50 2 m ((gs.map vf).flatMap encF), SX.Ent.row (.slice Ax n cx) 50 2 n ((fs.map vf).flatMap encF)])) := hs.sel [0, 1, 3, 4, 5, 6] (by decide)
                    have hub := unb_pk Bs
                    obtain ⟨Zs, hZs⟩ : ∃ Zs, Zs = List.replicate ((8 - Bs.length % 8) % 8) false := ⟨_, rfl⟩
                    have hZl : Zs.length = (8 - Bs.length % 8) % 8 := by rw [hZs]; simp
                    have hpad : pad Bs = F1 ++ (unb bl ++ (F2 ++ Zs)) := by unfold pad; rw [← hZs, hBs]; simp
                    obtain ⟨P, hP⟩ : ∃ P, P = pk Bs := ⟨_, rfl⟩
                    have hPb : ∀ x ∈ P, 0 ≤ x ∧ x < 256 := by rw [hP]; exact pk_bd Bs
                    rw [← hP] at hs hub hpl
                    refine Z.lb 1 rfl ?_
                    refine Z.lnil ?_
                    refine Z.only [2, 7, 8, 9, 10] rfl ?_
                    refine Z.nthen ?_
                    refine Z.seq ?_
                    refine Z.seq ?_
                    refine Z.region ?_
                    refine Z.lb 1 rfl ?_
                    refine Z.lnil ?_
                    refine Z.only [2, 7, 8, 9, 10, 11] rfl ?_
                    refine Z.nthen ?_
                    refine Z.block ?_
                    refine Z.loopk (ι := Nat × Nat) [2, 7, 8, 9, 10] rfl (fun k => [(11, [], .int .i64 (k.1 : Int))]) (fun k wr => k.1 ≤ n ∧ k.2 ≤ 8 * P.length ∧ (unb P).drop k.2 = ((fs.map vf).drop k.1).flatMap fldF ++ (unb bl ++ (F2 ++ Zs)) ∧ SX.St w [] wr (RdL gr 73 svr P k.2 ++ (WrL g9 29 sv3 Bs ++ [SX.Ent.row (.slice Ay m cy) 50 2 m ((gs.map vf).flatMap encF), SX.Ent.row (.slice Ax n cx) 50 2 n ((fs.map vf).flatMap encF)]))) (fun k => n - k.1) (0, 0) (by refine ⟨?_, trivial⟩ <;> (first | rfl | (refine Z.lookv rfl ?_; simp; done) | (refine Z.lookv rfl ?_; simp; omega))) ⟨by omega, by omega, by simp only [List.drop_zero]; rw [hub, hpad, hF1], hs⟩ ?_
                    clear hs
                    rintro ⟨k, a⟩ w1 ⟨hkn, hap, hd, hs⟩
                    refine Z.only [2, 7, 8, 9, 10, 11] rfl ?_
                    dsimp only at hs
                    dsimp only at hkn hap hd
                    refine Z.seq ?_
                    refine Z.seq ?_
                    refine Z.region ?_
                    refine Z.lb 2 rfl ?_
                    refine Z.l rfl rfl (by rfl) (Z.keepS hs) (Z.Yd.lenS rfl Try.underlying34) ?_
                    refine Z.lb 1 rfl ?_
                    refine Z.lnil ?_
                    refine Z.only [2, 7, 8, 9, 10, 11, 58] rfl ?_
                    refine Z.nthen ?_
                    refine Z.cond rfl (fun hc9 => ?_) (fun hc9 => ?_)
                    · first
                        | (exfalso; simp at hc9 <;> omega)
                        | (
                          (try simp at hc9)
                          obtain ⟨go, co', e0, -, -⟩ := row_form (j := 5) hs rfl (by omega)
                          simp only [Value.slice.injEq, true_and] at e0
                          obtain ⟨rfl, rfl⟩ := e0
                          obtain ⟨f, hf⟩ : ∃ f, (fs.map vf)[k]? = some f := ⟨_, List.getElem?_eq_getElem (by simp; omega)⟩
                          have hfm := List.mem_of_getElem? hf
                          rw [drop_flat hf, List.append_assoc] at hd
                          obtain ⟨h1, h2, h3, h4, h5⟩ := get_next hd (chkA_mem hck f hfm) (hgv f hfm) hap
                          obtain ⟨v, wd⟩ := f
                          simp only at h1 h2 h3 h4 h5
                          refine Z.skip ?_
                          refine Z.nthen ?_
                          refine Z.seq ?_
                          refine Z.block ?_
                          refine Z.seq ?_
                          refine Z.region ?_
                          refine Z.lb 3 rfl ?_
                          refine Z.l rfl rfl (by rfl) (Z.keepS hs) (Z.Yd.elem rfl rfl Try.underlying34 Try.sizeOf50 (fun hG => ⟨(by first | omega | (have hG' := Z.gh rfl hG; simp at hG'; omega)), (by first | omega | (have hG' := Z.gh rfl hG; simp at hG'; omega))⟩)) ?_
                          refine Z.l rfl rfl (by rfl) (Z.keepS hs) (Z.Yd.fieldA (m := 1) rfl (by kernel_rfl)) ?_
                          refine Z.l rfl rfl (by rfl) (Z.keepS hs) (Z.Yd.load rfl Try.isAgg3 (fun _ => Z.cellR (by first | ((repeat (first | exact List.mem_cons_self | refine List.mem_cons_of_mem _ ?_ | refine List.mem_append_right _ ?_)); done) | fail) (Z.flat_at (j := 1) encF_length hf rfl))) ?_
                          refine Z.le rfl trivial ?_
                          refine Z.ZO.call rfl rfl (by rfl) rfl rfl Try.call25 rfl (rget_any gr _ svr P a wd _ (hs.lend (L1 := RdL _ _ _ _ _)) (by omega) hap hPb) ?_
                          rintro v11_6 w11_6 ⟨hv, hz⟩
                          replace hs := hs.regain (L1 := RdL _ _ _ _ _) hz
                          rw [h1, h2] at hv
                          subst hv
                          rw [h3] at hs
                          refine Z.lb 5 rfl ?_
                          refine Z.lnil ?_
                          refine Z.only [2, 7, 8, 9, 10, 11, 12, 13] rfl ?_
                          refine Z.nthen ?_
                          refine Z.seq ?_
                          refine Z.region ?_
                          refine Z.lb 1 rfl ?_
                          refine Z.le rfl trivial ?_
                          refine Z.ZO.call rfl rfl (by rfl) rfl rfl Try.call18 rfl (num_any _ _) ?_
                          rintro v12_1 w12_1 ⟨rfl, hy1⟩
                          replace hs := hs.call hy1
                          simp only [RdL, WrL, List.cons_append, List.nil_append] at hs
                          refine Z.lb 2 rfl ?_
                          refine Z.yes (s := 74) (b := false) rfl ((by decide)) rfl ?_
                          refine Z.lb 3 rfl ?_
                          refine Z.l rfl rfl (by rfl) (Z.keepS hs) (Z.Yd.elem rfl rfl Try.underlying34 Try.sizeOf50 (fun hG => ⟨(by first | omega | (have hG' := Z.gh rfl hG; simp at hG'; omega)), (by first | omega | (have hG' := Z.gh rfl hG; simp at hG'; omega))⟩)) ?_
                          refine Z.l rfl rfl (by rfl) (Z.keepS hs) (Z.Yd.fieldA (m := 0) rfl (by kernel_rfl)) ?_
                          refine Z.l rfl rfl (by rfl) (Z.keepS hs) (Z.Yd.load rfl Try.isAgg33 (fun _ => Z.cellR (by first | ((repeat (first | exact List.mem_cons_self | refine List.mem_cons_of_mem _ ?_ | refine List.mem_append_right _ ?_)); done) | fail) (Z.flat_at (j := 0) encF_length hf rfl))) ?_
                          refine Z.lb 1 rfl ?_
                          refine Z.yes (s := 74) (b := false) rfl rfl rfl ?_
                          refine Z.l rfl rfl (by rfl) (Z.keepS hs) (Z.Yd.pickF rfl rfl) ?_
                          refine Z.lnil ?_
                          refine Z.only [2, 7, 8, 9, 10, 11, 82] rfl ?_
                          refine Z.nthen ?_
                          refine Z.cond rfl (fun h => absurd h (by simp)) (fun hc12 => ?_)
                          refine Z.skip ?_
                          refine Z.nblock ?_
                          refine Z.nthen ?_
                          refine Z.region ?_
                          refine Z.lb 1 rfl ?_
                          refine Z.l rfl rfl (by rfl) (Z.keepS hs) (Z.Yd.add rfl rfl (fun hG => Z.wi64 (by first | omega | (have hG' := Z.gh rfl hG; simp at hG'; omega)))) ?_
                          refine Z.lb 1 rfl ?_
                          refine Z.lnil ?_
                          refine Z.only [2, 7, 8, 9, 10, 11] rfl ?_
                          refine Z.nthen ?_
                          exact Z.again (k + 1, a + wd.toNat) (by refine ⟨?_, ?_, ?_, ?_, ?_, ?_, trivial⟩ <;> (first | rfl | (refine Z.lookv rfl ?_; simp; done) | (refine Z.lookv rfl ?_; simp; omega))) ⟨by simp only; omega, h4, h5, hs⟩ (by simp only; omega)
                          )
                    · first
                        | (exfalso; simp at hc9 <;> omega)
                        | (
                          (try simp at hc9)
                          refine Z.exit ?_
                          refine Z.xthen ?_
                          refine Z.xthen ?_
                          refine Z.xblock ?_
                          refine Z.nthen ?_
                          refine Z.seq ?_
                          refine Z.region ?_
                          obtain rfl : k = n := by omega
                          rw [show (fs.map vf).drop k = [] from List.drop_of_length_le (by simp; omega), List.flatMap_nil, List.nil_append] at hd
                          obtain ⟨q1, q2, q3⟩ := gsV_bytes hb hd hap
                          rw [hl3] at q1 q2 q3
                          have hgE : gbE P a (p : Int) = 0 := by unfold gbE; rw [if_neg (by omega), if_neg (by omega)]
                          have hgV : gbV P a (p : Int) = bl := by unfold gbV; rw [if_pos hgE, Int.toNat_natCast]; exact q1
                          have hgA : gbA P a (p : Int) = a + 8 * p := by unfold gbA; rw [if_pos hgE, Int.toNat_natCast]
                          refine Z.l rfl rfl (by rfl) (Z.keepS hs) (Z.Yd.pure rfl) ?_
                          refine Z.lb 1 rfl ?_
                          refine Z.l rfl rfl (by rfl) (Z.keepS hs) (Z.Yd.lenS rfl Try.underlying25) ?_
                          refine Z.le rfl trivial ?_
                          refine Z.ZO.call rfl rfl (by rfl) rfl rfl Try.call26 rfl (rgetbytes_any gr _ svr P a (p : Int) _ (hs.lend (L1 := RdL _ _ _ _ _)) (by omega) hap hPb) ?_
                          rintro v14_3 w14_3 ⟨so, hv, hz⟩
                          replace hs := hs.regain (L1 := RdL _ _ _ _ _) hz
                          rw [hgE] at hv
                          subst hv
                          rw [hgA, hgV, hl3] at hs
                          obtain ⟨Aso, cso, rfl, -, -, -⟩ := SX.row_slv hs (j := 2) rfl
                          refine Z.lb 5 rfl ?_
                          refine Z.lnil ?_
                          refine Z.only [2, 8, 9, 10, 14, 15] rfl ?_
                          refine Z.nthen ?_
                          refine Z.seq ?_
                          refine Z.seq ?_
                          refine Z.region ?_
                          refine Z.lb 1 rfl ?_
                          refine Z.le rfl trivial ?_
                          refine Z.ZO.call rfl rfl (by rfl) rfl rfl Try.call18 rfl (num_any _ _) ?_
                          rintro v15_1 w15_1 ⟨rfl, hy1⟩
                          replace hs := hs.call hy1
                          refine Z.lb 2 rfl ?_
                          refine Z.yes (s := 93) (b := false) rfl ((by decide)) rfl ?_
                          refine Z.lb 2 rfl ?_
                          refine Z.yes (s := 93) (b := false) rfl rfl rfl ?_
                          refine Z.le rfl (by exact ⟨rfl, trivial⟩) ?_
                          refine Z.ZO.call rfl rfl (by rfl) rfl rfl Try.call13 rfl (same_any Aso C p p cso e bl bl _ (SX.row_slB hs (j := 2) rfl) (hbs.sx.st hs) hl3 hl3 hb hb) ?_
                          rintro v15_6 w15_6 ⟨rfl, hy1⟩
                          replace hs := hs.call hy1
                          replace hs : SX.St w [] w15_6 (RdL gr 73 svr P (a + 8 * p) ++ (WrL g9 29 sv3 Bs ++ [SX.Ent.row (.slice Ay m cy) 50 2 m ((gs.map vf).flatMap encF)])) := hs.sel [0, 1, 3, 4, 5] (by decide)
                          refine Z.lb 1 rfl ?_
                          refine Z.yes (s := 93) (b := false) rfl rfl rfl ?_
                          refine Z.l rfl rfl (by rfl) (Z.keepS hs) (Z.Yd.pickF rfl rfl) ?_
                          refine Z.lnil ?_
                          refine Z.only [8, 9, 10, 98] rfl ?_
                          refine Z.nthen ?_
                          refine Z.cond rfl (fun h => absurd h (by simp)) (fun hc15 => ?_)
                          refine Z.skip ?_
                          refine Z.nthen ?_
                          refine Z.seq ?_
                          refine Z.seq ?_
                          refine Z.region ?_
                          refine Z.lb 1 rfl ?_
                          refine Z.lnil ?_
                          refine Z.only [8, 9, 10, 16] rfl ?_
                          refine Z.nthen ?_
                          refine Z.block ?_
                          refine Z.loopk (ι := Nat × Nat) [8, 9, 10] rfl (fun k => [(16, [], .int .i64 (k.1 : Int))]) (fun k wr => k.1 ≤ m ∧ k.2 ≤ 8 * P.length ∧ (unb P).drop k.2 = ((gs.map vf).drop k.1).flatMap fldF ++ Zs ∧ SX.St w [] wr (RdL gr 73 svr P k.2 ++ (WrL g9 29 sv3 Bs ++ [SX.Ent.row (.slice Ay m cy) 50 2 m ((gs.map vf).flatMap encF)]))) (fun k => m - k.1) (0, a + 8 * p) (by refine ⟨?_, trivial⟩ <;> (first | rfl | (refine Z.lookv rfl ?_; simp; done) | (refine Z.lookv rfl ?_; simp; omega))) ⟨by omega, by omega, by simp only [List.drop_zero]; rw [q3, hF2], hs⟩ ?_
                          clear hs
                          rintro ⟨k2, a2⟩ w3 ⟨hkn2, hap2, hd2, hs⟩
                          refine Z.only [8, 9, 10, 16] rfl ?_
                          dsimp only at hs
                          dsimp only at hkn2 hap2 hd2
                          refine Z.seq ?_
                          refine Z.seq ?_
                          refine Z.region ?_
                          refine Z.lb 2 rfl ?_
                          refine Z.l rfl rfl (by rfl) (Z.keepS hs) (Z.Yd.lenS rfl Try.underlying34) ?_
                          refine Z.lb 1 rfl ?_
                          refine Z.lnil ?_
                          refine Z.only [8, 9, 10, 16, 102] rfl ?_
                          refine Z.nthen ?_
                          refine Z.cond rfl (fun hc18 => ?_) (fun hc18 => ?_)
                          · first
                              | (exfalso; simp at hc18 <;> omega)
                              | (
                                (try simp at hc18)
                                obtain ⟨go, co', e0, -, -⟩ := row_form (j := 4) hs rfl (by omega)
                                simp only [Value.slice.injEq, true_and] at e0
                                obtain ⟨rfl, rfl⟩ := e0
                                obtain ⟨f, hf⟩ : ∃ f, (gs.map vf)[k2]? = some f := ⟨_, List.getElem?_eq_getElem (by simp; omega)⟩
                                have hfm := List.mem_of_getElem? hf
                                rw [drop_flat hf, List.append_assoc] at hd2
                                obtain ⟨h1, h2, h3, h4, h5⟩ := get_next hd2 (chkA_mem hck2 f hfm) (hgv2 f hfm) hap2
                                obtain ⟨v, wd⟩ := f
                                simp only at h1 h2 h3 h4 h5
                                refine Z.skip ?_
                                refine Z.nthen ?_
                                refine Z.seq ?_
                                refine Z.block ?_
                                refine Z.seq ?_
                                refine Z.region ?_
                                refine Z.lb 3 rfl ?_
                                refine Z.l rfl rfl (by rfl) (Z.keepS hs) (Z.Yd.elem rfl rfl Try.underlying34 Try.sizeOf50 (fun hG => ⟨(by first | omega | (have hG' := Z.gh rfl hG; simp at hG'; omega)), (by first | omega | (have hG' := Z.gh rfl hG; simp at hG'; omega))⟩)) ?_
                                refine Z.l rfl rfl (by rfl) (Z.keepS hs) (Z.Yd.fieldA (m := 1) rfl (by kernel_rfl)) ?_
                                refine Z.l rfl rfl (by rfl) (Z.keepS hs) (Z.Yd.load rfl Try.isAgg3 (fun _ => Z.cellR (by first | ((repeat (first | exact List.mem_cons_self | refine List.mem_cons_of_mem _ ?_ | refine List.mem_append_right _ ?_)); done) | fail) (Z.flat_at (j := 1) encF_length hf rfl))) ?_
                                refine Z.le rfl trivial ?_
                                refine Z.ZO.call rfl rfl (by rfl) rfl rfl Try.call25 rfl (rget_any gr _ svr P a2 wd _ (hs.lend (L1 := RdL _ _ _ _ _)) (by omega) hap2 hPb) ?_
                                rintro v20_6 w20_6 ⟨hv, hz⟩
                                replace hs := hs.regain (L1 := RdL _ _ _ _ _) hz
                                rw [h1, h2] at hv
                                subst hv
                                rw [h3] at hs
                                refine Z.lb 5 rfl ?_
                                refine Z.lnil ?_
                                refine Z.only [8, 9, 10, 16, 17, 18] rfl ?_
                                refine Z.nthen ?_
                                refine Z.seq ?_
                                refine Z.region ?_
                                refine Z.lb 1 rfl ?_
                                refine Z.le rfl trivial ?_
                                refine Z.ZO.call rfl rfl (by rfl) rfl rfl Try.call18 rfl (num_any _ _) ?_
                                rintro v21_1 w21_1 ⟨rfl, hy1⟩
                                replace hs := hs.call hy1
                                simp only [RdL, WrL, List.cons_append, List.nil_append] at hs
                                refine Z.lb 2 rfl ?_
                                refine Z.yes (s := 118) (b := false) rfl ((by decide)) rfl ?_
                                refine Z.lb 3 rfl ?_
                                refine Z.l rfl rfl (by rfl) (Z.keepS hs) (Z.Yd.elem rfl rfl Try.underlying34 Try.sizeOf50 (fun hG => ⟨(by first | omega | (have hG' := Z.gh rfl hG; simp at hG'; omega)), (by first | omega | (have hG' := Z.gh rfl hG; simp at hG'; omega))⟩)) ?_
                                refine Z.l rfl rfl (by rfl) (Z.keepS hs) (Z.Yd.fieldA (m := 0) rfl (by kernel_rfl)) ?_
                                refine Z.l rfl rfl (by rfl) (Z.keepS hs) (Z.Yd.load rfl Try.isAgg33 (fun _ => Z.cellR (by first | ((repeat (first | exact List.mem_cons_self | refine List.mem_cons_of_mem _ ?_ | refine List.mem_append_right _ ?_)); done) | fail) (Z.flat_at (j := 0) encF_length hf rfl))) ?_
                                refine Z.lb 1 rfl ?_
                                refine Z.yes (s := 118) (b := false) rfl rfl rfl ?_
                                refine Z.l rfl rfl (by rfl) (Z.keepS hs) (Z.Yd.pickF rfl rfl) ?_
                                refine Z.lnil ?_
                                refine Z.only [8, 9, 10, 16, 126] rfl ?_
                                refine Z.nthen ?_
                                refine Z.cond rfl (fun h => absurd h (by simp)) (fun hc21 => ?_)
                                refine Z.skip ?_
                                refine Z.nblock ?_
                                refine Z.nthen ?_
                                refine Z.region ?_
                                refine Z.lb 1 rfl ?_
                                refine Z.l rfl rfl (by rfl) (Z.keepS hs) (Z.Yd.add rfl rfl (fun hG => Z.wi64 (by first | omega | (have hG' := Z.gh rfl hG; simp at hG'; omega)))) ?_
                                refine Z.lb 1 rfl ?_
                                refine Z.lnil ?_
                                refine Z.only [8, 9, 10, 16] rfl ?_
                                refine Z.nthen ?_
                                exact Z.again (k2 + 1, a2 + wd.toNat) (by refine ⟨?_, ?_, ?_, ?_, trivial⟩ <;> (first | rfl | (refine Z.lookv rfl ?_; simp; done) | (refine Z.lookv rfl ?_; simp; omega))) ⟨by simp only; omega, h4, h5, hs⟩ (by simp only; omega)
                                )
                          · first
                              | (exfalso; simp at hc18 <;> omega)
                              | (
                                (try simp at hc18)
                                refine Z.exit ?_
                                refine Z.xthen ?_
                                refine Z.xthen ?_
                                refine Z.xblock ?_
                                refine Z.nthen ?_
                                refine Z.seq ?_
                                refine Z.region ?_
                                obtain rfl : k2 = m := by omega
                                rw [show (gs.map vf).drop k2 = [] from List.drop_of_length_le (by simp; omega), List.flatMap_nil, List.nil_append] at hd2
                                have hla := congrArg List.length hd2
                                rw [List.length_drop, unb_length, hZl] at hla
                                obtain rfl : a2 = Bs.length := by omega
                                have htb : toByte Bs.length = Zs.length := by rw [hZl]; rfl
                                have hba : bitsAt P Bs.length (toByte Bs.length) = Zs := by unfold bitsAt; rw [hd2, htb, List.take_length]
                                have hal : alE P Bs.length = 0 := by unfold alE; rw [hba, hZs, val_zero]; rfl
                                have hal2 : alA P Bs.length = 8 * P.length := by unfold alA; rw [hba, hZs, val_zero, if_pos rfl, htb]; omega
                                have hen : endE P Bs.length = 0 := by unfold endE; rw [if_neg (by omega), hal]
                                refine Z.l rfl rfl (by rfl) (Z.keepS hs) (Z.Yd.pure rfl) ?_
                                refine Z.le rfl trivial ?_
                                refine Z.ZO.call rfl rfl (by rfl) rfl rfl Try.call23 rfl (rat_any gr _ svr P Bs.length _ (hs.lend (L1 := RdL _ _ _ _ _))) ?_
                                rintro v23_1 w23_1 ⟨rfl, hz⟩
                                replace hs := hs.regain (L1 := RdL _ _ _ _ _) hz
                                replace hs : SX.St w [] w23_1 (WrL g9 29 sv3 Bs ++ RdL gr 73 svr P Bs.length) := hs.sel [2, 3, 0, 1] (by decide)
                                refine Z.le rfl trivial ?_
                                refine Z.ZO.call rfl rfl (by rfl) rfl rfl Try.call12 rfl (wlen_any g9 _ sv3 Bs _ hs.lend (by omega)) ?_
                                rintro v23_2 w23_2 ⟨rfl, hz⟩
                                replace hs := (hs.regain hz).rot
                                refine Z.lb 3 rfl ?_
                                refine Z.yes (s := 131) (b := true) rfl ((by simp)) rfl ?_
                                refine Z.le rfl (by exact ⟨rfl, trivial⟩) ?_
                                refine Z.ZO.call rfl rfl (by rfl) rfl rfl Try.call27 rfl (rend_any gr _ svr P _ _ hs.lend (by omega) (by omega) hPb) ?_
                                rintro v23_6 w23_6 ⟨hv, hz⟩
                                replace hs := hs.regain hz
                                rw [hen] at hv
                                subst hv
                                refine Z.le rfl (by exact ⟨rfl, trivial⟩) ?_
                                refine Z.ZO.call rfl rfl (by rfl) rfl rfl Try.call18 rfl (num_any _ _) ?_
                                rintro v23_7 w23_7 ⟨rfl, hy1⟩
                                replace hs := hs.call hy1
                                refine Z.lb 1 rfl ?_
                                refine Z.yes (s := 131) (b := true) rfl rfl rfl ?_
                                refine Z.l rfl rfl (by rfl) (Z.keepS hs) (Z.Yd.pickT rfl rfl) ?_
                                refine Z.lb 2 rfl ?_
                                refine Z.yes (s := 137) (b := true) rfl ((by decide)) rfl ?_
                                refine Z.le rfl (by exact ⟨rfl, trivial⟩) ?_
                                refine Z.ZO.call rfl rfl (by rfl) rfl rfl Try.call28 rfl (ralign_any gr _ svr P _ _ (hs.lend (L1 := RdL _ _ _ _ _)) (by omega) (by omega) hPb) ?_
                                rintro v23_12 w23_12 ⟨hv, hz⟩
                                replace hs := hs.regain (L1 := RdL _ _ _ _ _) hz
                                rw [hal] at hv
                                subst hv
                                rw [hal2] at hs
                                refine Z.le rfl (by exact ⟨rfl, trivial⟩) ?_
                                refine Z.ZO.call rfl rfl (by rfl) rfl rfl Try.call18 rfl (num_any _ _) ?_
                                rintro v23_13 w23_13 ⟨rfl, hy1⟩
                                replace hs := hs.call hy1
                                refine Z.lb 1 rfl ?_
                                refine Z.yes (s := 137) (b := true) rfl rfl rfl ?_
                                refine Z.l rfl rfl (by rfl) (Z.keepS hs) (Z.Yd.pickT rfl rfl) ?_
                                refine Z.lb 2 rfl ?_
                                refine Z.yes (s := 143) (b := true) rfl ((by decide)) rfl ?_
                                refine Z.le rfl (by exact ⟨rfl, trivial⟩) ?_
                                refine Z.ZO.call rfl rfl (by rfl) rfl rfl Try.call24 rfl (rleft_any gr _ svr P _ _ (hs.lend (L1 := RdL _ _ _ _ _)) (by omega) (by omega)) ?_
                                rintro v23_18 w23_18 ⟨hv, hz⟩
                                replace hs := hs.regain (L1 := RdL _ _ _ _ _) hz
                                rw [show (8 * P.length : Int) - ((8 * P.length : Nat) : Int) = 0 from by omega] at hv
                                subst hv
                                refine Z.lb 1 rfl ?_
                                refine Z.yes (s := 143) (b := true) rfl rfl rfl ?_
                                refine Z.l rfl rfl (by rfl) (Z.keepS hs) (Z.Yd.pickT rfl rfl) ?_
                                refine Z.lb 1 rfl ?_
                                refine Z.yes (s := 148) (b := true) rfl ((by decide)) rfl ?_
                                refine Z.le rfl (by exact ⟨rfl, trivial⟩) ?_
                                refine Z.ZO.call rfl rfl (by rfl) rfl rfl Try.call10 rfl (works_any _) ?_
                                rintro v23_22 w23_22 ⟨rfl, hy1⟩
                                replace hs := hs.call hy1
                                refine Z.l rfl rfl (by rfl) (Z.keepS hs) (Z.Yd.pickT rfl rfl) ?_
                                refine Z.lb 1 rfl ?_
                                refine Z.lnil ?_
                                refine Z.only [6] rfl ?_
                                refine Z.nthen ?_
                                refine Z.ret ?_
                                -- ret#5
                                refine Z.out1 (by exact ⟨rfl, trivial⟩) ?_
                                first | exact ⟨_, rfl, rfl, hs⟩ | exact ⟨_, rfl, rfl, hs.sub (List.nil_sublist _)⟩
                                )
                          )
                    )
              )
        · first
            | (exfalso; simp at hsp27 <;> omega)
            | (
              refine Z.yes (s := 27) (b := false) rfl hsp27 rfl ?_
              (try simp at hsp27)
              refine Z.lb 1 rfl ?_
              refine Z.l rfl rfl (by rfl) (Z.keepS hs) (Z.Yd.lenS rfl Try.underlying25) ?_
              refine Z.lb 1 rfl ?_
              refine Z.yes (s := 27) (b := false) rfl rfl rfl ?_
              refine Z.l rfl rfl (by rfl) (Z.keepS hs) (Z.Yd.pickF rfl rfl) ?_
              refine Z.lnil ?_
              refine Z.only [0, 1, 2, 31] rfl ?_
              refine Z.nthen ?_
              refine Z.cond rfl (fun hc1 => ?_) (fun hc1 => ?_)
              · first
                  | (exfalso; simp at hc1 <;> omega)
                  | (
                    (try simp at hc1)
                    refine Z.seq ?_
                    refine Z.region ?_
                    refine Z.le rfl trivial ?_
                    refine Z.ZO.call rfl rfl (by rfl) rfl rfl Try.call10 rfl (works_any _) ?_
                    rintro v2_0 w2_0 ⟨rfl, hy1⟩
                    replace hs := hs.call hy1
                    refine Z.lb 1 rfl ?_
                    refine Z.lnil ?_
                    refine Z.only [6] rfl ?_
                    refine Z.nthen ?_
                    refine Z.ret ?_
                    repeat (first | refine Z.rthen ?_ | refine Z.rblock ?_ | refine Z.rscope ?_)
                    -- ret#6
                    refine Z.out1 (by exact ⟨rfl, trivial⟩) ?_
                    first | exact ⟨_, rfl, rfl, hs⟩ | exact ⟨_, rfl, rfl, hs.sub (List.nil_sublist _)⟩
                    )
              · first
                  | (exfalso; simp at hc1 <;> omega)
                  | (
                    (try simp at hc1)
                    refine Z.skip ?_
                    refine Z.nthen ?_
                    refine Z.seq ?_
                    refine Z.region ?_
                    have hn20 : n ≤ 20 := by omega
                    have hm20 : m ≤ 20 := by omega
                    have hp40 : p ≤ 40 := by omega
                    refine Z.l rfl rfl (by rfl) (Z.keepS hs) (Z.Yd.pure rfl) ?_
                    refine Z.le rfl trivial ?_
                    refine Z.ZO.call rfl rfl (by rfl) rfl rfl Try.call19 rfl (valid_any A n c fs _ ((hx.st hs).sx) hl (by omega) hg) ?_
                    rintro v3_1 w3_1 hy1
                    replace hs := hs.call hy1
                    obtain ⟨Ax, cx, rfl, -, -, -⟩ := SX.row_slv hs (j := 0) rfl
                    refine Z.lb 1 rfl ?_
                    refine Z.le rfl trivial ?_
                    refine Z.ZO.call rfl rfl (by rfl) rfl rfl Try.call19 rfl (valid_any B m d gs _ ((hy.st hs).sx) hl2 (by omega) hg2) ?_
                    rintro v3_3 w3_3 hy1
                    replace hs := hs.call hy1
                    obtain ⟨Ay, cy, rfl, -, -, -⟩ := SX.row_slv hs (j := 0) rfl
                    refine Z.lb 2 rfl ?_
                    refine Z.lnil ?_
                    refine Z.only [2, 7, 8] rfl ?_
                    refine Z.nthen ?_
                    refine Z.seq ?_
                    refine Z.region ?_
                    refine Z.le rfl trivial ?_
                    refine Z.ZO.alloc rfl rfl (by rfl) Try.zeroValue29 rfl hs ?_
                    clear hs; intro g9 w9 hs
                    refine Z.lnil ?_
                    refine Z.only [2, 7, 8, 9] rfl ?_
                    replace hs := WrL_start hs
                    refine Z.nthen ?_
                    refine Z.seq ?_
                    refine Z.seq ?_
                    refine Z.region ?_
                    refine Z.lb 1 rfl ?_
                    refine Z.le rfl trivial ?_
                    refine Z.ZO.call rfl rfl (by rfl) rfl rfl Try.call20 rfl (putAll_any g9 _ _ [] Ax n cx (fs.map vf) _ (hs.lend (L1 := WrL _ _ _ _)) (Z.row_lentv (L1 := WrL _ _ _ _) hs (j := 1) rfl) (by simpa using hl) (by omega) (by simp) hgv) ?_
                    rintro v5_1 w5_1 ⟨sv1, hv, hz⟩
                    replace hs := hs.regain (L1 := WrL _ _ _ _) hz
                    rw [hck] at hv
                    subst hv
                    rw [hr1] at hs
                    refine Z.le rfl trivial ?_
                    refine Z.ZO.call rfl rfl (by rfl) rfl rfl Try.call18 rfl (num_any _ _) ?_
                    rintro v5_2 w5_2 ⟨rfl, hy1⟩
                    replace hs := hs.call hy1
                    refine Z.lb 3 rfl ?_
                    refine Z.yes (s := 41) (b := false) rfl ((by decide)) rfl ?_
                    refine Z.le rfl (by exact ⟨rfl, trivial⟩) ?_
                    refine Z.ZO.call rfl rfl (by rfl) rfl rfl Try.call16 rfl (wputbytes_any g9 _ sv1 F1 C p e bl _ (hs.lend (L1 := WrL _ _ _ _)) (hbs.sx.lent (L1 := WrL _ _ _ _) hs) hl3 (by omega) (by omega) hb) ?_
                    rintro v5_6 w5_6 ⟨sv2, rfl, hz⟩
                    replace hs := hs.regain (L1 := WrL _ _ _ _) hz
                    refine Z.le rfl (by exact ⟨rfl, trivial⟩) ?_
                    refine Z.ZO.call rfl rfl (by rfl) rfl rfl Try.call18 rfl (num_any _ _) ?_
                    rintro v5_7 w5_7 ⟨rfl, hy1⟩
                    replace hs := hs.call hy1
                    refine Z.lb 1 rfl ?_
                    refine Z.yes (s := 41) (b := false) rfl rfl rfl ?_
                    refine Z.l rfl rfl (by rfl) (Z.keepS hs) (Z.Yd.pickF rfl rfl) ?_
                    refine Z.lb 2 rfl ?_
                    refine Z.yes (s := 47) (b := false) rfl ((by decide)) rfl ?_
                    refine Z.le rfl (by exact ⟨rfl, trivial⟩) ?_
                    refine Z.ZO.call rfl rfl (by rfl) rfl rfl Try.call20 rfl (putAll_any g9 _ sv2 (F1 ++ unb bl) Ay m cy (gs.map vf) _ (hs.lend (L1 := WrL _ _ _ _)) (Z.row_lentv (L1 := WrL _ _ _ _) hs (j := 0) rfl) (by simpa using hl2) (by omega) (by simp [hul]; omega) hgv2) ?_
                    rintro v5_12 w5_12 ⟨sv3, hv, hz⟩
                    replace hs := hs.regain (L1 := WrL _ _ _ _) hz
                    rw [hck2] at hv
                    subst hv
                    rw [hr2] at hs
                    refine Z.le rfl (by exact ⟨rfl, trivial⟩) ?_
                    refine Z.ZO.call rfl rfl (by rfl) rfl rfl Try.call18 rfl (num_any _ _) ?_
                    rintro v5_13 w5_13 ⟨rfl, hy1⟩
                    replace hs := hs.call hy1
                    refine Z.lb 1 rfl ?_
                    refine Z.yes (s := 47) (b := false) rfl rfl rfl ?_
                    refine Z.l rfl rfl (by rfl) (Z.keepS hs) (Z.Yd.pickF rfl rfl) ?_
                    refine Z.lnil ?_
                    refine Z.only [2, 7, 8, 9, 52] rfl ?_
                    refine Z.nthen ?_
                    refine Z.cond rfl (fun h => absurd h (by simp)) (fun hc5 => ?_)
                    refine Z.skip ?_
                    refine Z.nthen ?_
                    refine Z.seq ?_
                    refine Z.region ?_
                    obtain ⟨Bs, hBs⟩ : ∃ Bs, Bs = F1 ++ unb bl ++ F2 := ⟨_, rfl⟩
                    have hBl : Bs.length = F1.length + bl.length * 8 + F2.length := by rw [hBs]; simp [hul]; omega
                    have hpl := pk_length Bs
                    rw [← hBs] at hs
                    refine Z.le rfl trivial ?_
                    refine Z.ZO.call rfl rfl (by rfl) rfl rfl Try.call14 rfl (wbytes_any g9 _ sv3 _ _ (hs.lend (L1 := WrL _ _ _ _)) (by omega)) ?_
                    rintro v7_0 w7_0 hz
                    replace hs := hs.regain (L1 := WrL _ _ _ _) hz
                    obtain ⟨Aw, cw, rfl, hcw1, hcw2, -⟩ := SX.row_slv hs (j := 0) rfl
                    refine Z.le rfl trivial ?_
                    refine Z.ZO.call rfl rfl (by rfl) rfl rfl Try.call21 rfl (newreader_any Aw _ cw (pk Bs) _ (Z.row_lentv (L1 := []) hs (j := 0) rfl) rfl (by omega) (SX.row_none hs (j := 0) rfl)) ?_
                    rintro v7_1 w7_1 ⟨gr, svr, rfl, hy1⟩
                    replace hs := hs.call hy1
                    replace hs : SX.St w [] w7_1 (RdL gr 73 svr (pk Bs) 0 ++ (WrL g9 29 sv3 Bs ++ [SX.Ent.row (.slice Ay m cy) 50 2 m ((gs.map vf).flatMap encF), SX.Ent.row (.slice Ax n cx) 50 2 n ((fs.map vf).flatMap encF)])) := hs.sel [0, 1, 3, 4, 5, 6] (by decide)
                    have hub := unb_pk Bs
                    obtain ⟨Zs, hZs⟩ : ∃ Zs, Zs = List.replicate ((8 - Bs.length % 8) % 8) false := ⟨_, rfl⟩
                    have hZl : Zs.length = (8 - Bs.length % 8) % 8 := by rw [hZs]; simp
                    have hpad : pad Bs = F1 ++ (unb bl ++ (F2 ++ Zs)) := by unfold pad; rw [← hZs, hBs]; simp
                    obtain ⟨P, hP⟩ : ∃ P, P = pk Bs := ⟨_, rfl⟩
                    have hPb : ∀ x ∈ P, 0 ≤ x ∧ x < 256 := by rw [hP]; exact pk_bd Bs
                    rw [← hP] at hs hub hpl
                    refine Z.lb 1 rfl ?_
                    refine Z.lnil ?_
                    refine Z.only [2, 7, 8, 9, 10] rfl ?_
                    refine Z.nthen ?_
                    refine Z.seq ?_
                    refine Z.seq ?_
                    refine Z.region ?_
                    refine Z.lb 1 rfl ?_
                    refine Z.lnil ?_
                    refine Z.only [2, 7, 8, 9, 10, 11] rfl ?_
                    refine Z.nthen ?_
                    refine Z.block ?_
                    refine Z.loopk (ι := Nat × Nat) [2, 7, 8, 9, 10] rfl (fun k => [(11, [], .int .i64 (k.1 : Int))]) (fun k wr => k.1 ≤ n ∧ k.2 ≤ 8 * P.length ∧ (unb P).drop k.2 = ((fs.map vf).drop k.1).flatMap fldF ++ (unb bl ++ (F2 ++ Zs)) ∧ SX.St w [] wr (RdL gr 73 svr P k.2 ++ (WrL g9 29 sv3 Bs ++ [SX.Ent.row (.slice Ay m cy) 50 2 m ((gs.map vf).flatMap encF), SX.Ent.row (.slice Ax n cx) 50 2 n ((fs.map vf).flatMap encF)]))) (fun k => n - k.1) (0, 0) (by refine ⟨?_, trivial⟩ <;> (first | rfl | (refine Z.lookv rfl ?_; simp; done) | (refine Z.lookv rfl ?_; simp; omega))) ⟨by omega, by omega, by simp only [List.drop_zero]; rw [hub, hpad, hF1], hs⟩ ?_
                    clear hs
                    rintro ⟨k, a⟩ w1 ⟨hkn, hap, hd, hs⟩
                    refine Z.only [2, 7, 8, 9, 10, 11] rfl ?_
                    dsimp only at hs
                    dsimp only at hkn hap hd
                    refine Z.seq ?_
                    refine Z.seq ?_
                    refine Z.region ?_
                    refine Z.lb 2 rfl ?_
                    refine Z.l rfl rfl (by rfl) (Z.keepS hs) (Z.Yd.lenS rfl Try.underlying34) ?_
                    refine Z.lb 1 rfl ?_
                    refine Z.lnil ?_
                    refine Z.only [2, 7, 8, 9, 10, 11, 58] rfl ?_
                    refine Z.nthen ?_
                    refine Z.cond rfl (fun hc9 => ?_) (fun hc9 => ?_)
                    · first
                        | (exfalso; simp at hc9 <;> omega)
                        | (
                          (try simp at hc9)
                          obtain ⟨go, co', e0, -, -⟩ := row_form (j := 5) hs rfl (by omega)
                          simp only [Value.slice.injEq, true_and] at e0
                          obtain ⟨rfl, rfl⟩ := e0
                          obtain ⟨f, hf⟩ : ∃ f, (fs.map vf)[k]? = some f := ⟨_, List.getElem?_eq_getElem (by simp; omega)⟩
                          have hfm := List.mem_of_getElem? hf
                          rw [drop_flat hf, List.append_assoc] at hd
                          obtain ⟨h1, h2, h3, h4, h5⟩ := get_next hd (chkA_mem hck f hfm) (hgv f hfm) hap
                          obtain ⟨v, wd⟩ := f
                          simp only at h1 h2 h3 h4 h5
                          refine Z.skip ?_
                          refine Z.nthen ?_
                          refine Z.seq ?_
                          refine Z.block ?_
                          refine Z.seq ?_
                          refine Z.region ?_
                          refine Z.lb 3 rfl ?_
                          refine Z.l rfl rfl (by rfl) (Z.keepS hs) (Z.Yd.elem rfl rfl Try.underlying34 Try.sizeOf50 (fun hG => ⟨(by first | omega | (have hG' := Z.gh rfl hG; simp at hG'; omega)), (by first | omega | (have hG' := Z.gh rfl hG; simp at hG'; omega))⟩)) ?_
                          refine Z.l rfl rfl (by rfl) (Z.keepS hs) (Z.Yd.fieldA (m := 1) rfl (by kernel_rfl)) ?_
                          refine Z.l rfl rfl (by rfl) (Z.keepS hs) (Z.Yd.load rfl Try.isAgg3 (fun _ => Z.cellR (by first | ((repeat (first | exact List.mem_cons_self | refine List.mem_cons_of_mem _ ?_ | refine List.mem_append_right _ ?_)); done) | fail) (Z.flat_at (j := 1) encF_length hf rfl))) ?_
                          refine Z.le rfl trivial ?_
                          refine Z.ZO.call rfl rfl (by rfl) rfl rfl Try.call25 rfl (rget_any gr _ svr P a wd _ (hs.lend (L1 := RdL _ _ _ _ _)) (by omega) hap hPb) ?_
                          rintro v11_6 w11_6 ⟨hv, hz⟩
                          replace hs := hs.regain (L1 := RdL _ _ _ _ _) hz
                          rw [h1, h2] at hv
                          subst hv
                          rw [h3] at hs
                          refine Z.lb 5 rfl ?_
                          refine Z.lnil ?_
                          refine Z.only [2, 7, 8, 9, 10, 11, 12, 13] rfl ?_
                          refine Z.nthen ?_
                          refine Z.seq ?_
                          refine Z.region ?_
                          refine Z.lb 1 rfl ?_
                          refine Z.le rfl trivial ?_
                          refine Z.ZO.call rfl rfl (by rfl) rfl rfl Try.call18 rfl (num_any _ _) ?_
                          rintro v12_1 w12_1 ⟨rfl, hy1⟩
                          replace hs := hs.call hy1
                          simp only [RdL, WrL, List.cons_append, List.nil_append] at hs
                          refine Z.lb 2 rfl ?_
                          refine Z.yes (s := 74) (b := false) rfl ((by decide)) rfl ?_
                          refine Z.lb 3 rfl ?_
                          refine Z.l rfl rfl (by rfl) (Z.keepS hs) (Z.Yd.elem rfl rfl Try.underlying34 Try.sizeOf50 (fun hG => ⟨(by first | omega | (have hG' := Z.gh rfl hG; simp at hG'; omega)), (by first | omega | (have hG' := Z.gh rfl hG; simp at hG'; omega))⟩)) ?_
                          refine Z.l rfl rfl (by rfl) (Z.keepS hs) (Z.Yd.fieldA (m := 0) rfl (by kernel_rfl)) ?_
                          refine Z.l rfl rfl (by rfl) (Z.keepS hs) (Z.Yd.load rfl Try.isAgg33 (fun _ => Z.cellR (by first | ((repeat (first | exact List.mem_cons_self | refine List.mem_cons_of_mem _ ?_ | refine List.mem_append_right _ ?_)); done) | fail) (Z.flat_at (j := 0) encF_length hf rfl))) ?_
                          refine Z.lb 1 rfl ?_
                          refine Z.yes (s := 74) (b := false) rfl rfl rfl ?_
                          refine Z.l rfl rfl (by rfl) (Z.keepS hs) (Z.Yd.pickF rfl rfl) ?_
                          refine Z.lnil ?_
                          refine Z.only [2, 7, 8, 9, 10, 11, 82] rfl ?_
                          refine Z.nthen ?_
                          refine Z.cond rfl (fun h => absurd h (by simp)) (fun hc12 => ?_)
                          refine Z.skip ?_
                          refine Z.nblock ?_
                          refine Z.nthen ?_
                          refine Z.region ?_
                          refine Z.lb 1 rfl ?_
                          refine Z.l rfl rfl (by rfl) (Z.keepS hs) (Z.Yd.add rfl rfl (fun hG => Z.wi64 (by first | omega | (have hG' := Z.gh rfl hG; simp at hG'; omega)))) ?_
                          refine Z.lb 1 rfl ?_
                          refine Z.lnil ?_
                          refine Z.only [2, 7, 8, 9, 10, 11] rfl ?_
                          refine Z.nthen ?_
                          exact Z.again (k + 1, a + wd.toNat) (by refine ⟨?_, ?_, ?_, ?_, ?_, ?_, trivial⟩ <;> (first | rfl | (refine Z.lookv rfl ?_; simp; done) | (refine Z.lookv rfl ?_; simp; omega))) ⟨by simp only; omega, h4, h5, hs⟩ (by simp only; omega)
                          )
                    · first
                        | (exfalso; simp at hc9 <;> omega)
                        | (
                          (try simp at hc9)
                          refine Z.exit ?_
                          refine Z.xthen ?_
                          refine Z.xthen ?_
                          refine Z.xblock ?_
                          refine Z.nthen ?_
                          refine Z.seq ?_
                          refine Z.region ?_
                          obtain rfl : k = n := by omega
                          rw [show (fs.map vf).drop k = [] from List.drop_of_length_le (by simp; omega), List.flatMap_nil, List.nil_append] at hd
                          obtain ⟨q1, q2, q3⟩ := gsV_bytes hb hd hap
                          rw [hl3] at q1 q2 q3
                          have hgE : gbE P a (p : Int) = 0 := by unfold gbE; rw [if_neg (by omega), if_neg (by omega)]
                          have hgV : gbV P a (p : Int) = bl := by unfold gbV; rw [if_pos hgE, Int.toNat_natCast]; exact q1
                          have hgA : gbA P a (p : Int) = a + 8 * p := by unfold gbA; rw [if_pos hgE, Int.toNat_natCast]
                          refine Z.l rfl rfl (by rfl) (Z.keepS hs) (Z.Yd.pure rfl) ?_
                          refine Z.lb 1 rfl ?_
                          refine Z.l rfl rfl (by rfl) (Z.keepS hs) (Z.Yd.lenS rfl Try.underlying25) ?_
                          refine Z.le rfl trivial ?_
                          refine Z.ZO.call rfl rfl (by rfl) rfl rfl Try.call26 rfl (rgetbytes_any gr _ svr P a (p : Int) _ (hs.lend (L1 := RdL _ _ _ _ _)) (by omega) hap hPb) ?_
                          rintro v14_3 w14_3 ⟨so, hv, hz⟩
                          replace hs := hs.regain (L1 := RdL _ _ _ _ _) hz
                          rw [hgE] at hv
                          subst hv
                          rw [hgA, hgV, hl3] at hs
                          obtain ⟨Aso, cso, rfl, -, -, -⟩ := SX.row_slv hs (j := 2) rfl
                          refine Z.lb 5 rfl ?_
                          refine Z.lnil ?_
                          refine Z.only [2, 8, 9, 10, 14, 15] rfl ?_
                          refine Z.nthen ?_
                          refine Z.seq ?_
                          refine Z.seq ?_
                          refine Z.region ?_
                          refine Z.lb 1 rfl ?_
                          refine Z.le rfl trivial ?_
                          refine Z.ZO.call rfl rfl (by rfl) rfl rfl Try.call18 rfl (num_any _ _) ?_
                          rintro v15_1 w15_1 ⟨rfl, hy1⟩
                          replace hs := hs.call hy1
                          refine Z.lb 2 rfl ?_
                          refine Z.yes (s := 93) (b := false) rfl ((by decide)) rfl ?_
                          refine Z.lb 2 rfl ?_
                          refine Z.yes (s := 93) (b := false) rfl rfl rfl ?_
                          refine Z.le rfl (by exact ⟨rfl, trivial⟩) ?_
                          refine Z.ZO.call rfl rfl (by rfl) rfl rfl Try.call13 rfl (same_any Aso C p p cso e bl bl _ (SX.row_slB hs (j := 2) rfl) (hbs.sx.st hs) hl3 hl3 hb hb) ?_
                          rintro v15_6 w15_6 ⟨rfl, hy1⟩
                          replace hs := hs.call hy1
                          replace hs : SX.St w [] w15_6 (RdL gr 73 svr P (a + 8 * p) ++ (WrL g9 29 sv3 Bs ++ [SX.Ent.row (.slice Ay m cy) 50 2 m ((gs.map vf).flatMap encF)])) := hs.sel [0, 1, 3, 4, 5] (by decide)
                          refine Z.lb 1 rfl ?_
                          refine Z.yes (s := 93) (b := false) rfl rfl rfl ?_
                          refine Z.l rfl rfl (by rfl) (Z.keepS hs) (Z.Yd.pickF rfl rfl) ?_
                          refine Z.lnil ?_
                          refine Z.only [8, 9, 10, 98] rfl ?_
                          refine Z.nthen ?_
                          refine Z.cond rfl (fun h => absurd h (by simp)) (fun hc15 => ?_)
                          refine Z.skip ?_
                          refine Z.nthen ?_
                          refine Z.seq ?_
                          refine Z.seq ?_
                          refine Z.region ?_
                          refine Z.lb 1 rfl ?_
                          refine Z.lnil ?_
                          refine Z.only [8, 9, 10, 16] rfl ?_
                          refine Z.nthen ?_
                          refine Z.block ?_
                          refine Z.loopk (ι := Nat × Nat) [8, 9, 10] rfl (fun k => [(16, [], .int .i64 (k.1 : Int))]) (fun k wr => k.1 ≤ m ∧ k.2 ≤ 8 * P.length ∧ (unb P).drop k.2 = ((gs.map vf).drop k.1).flatMap fldF ++ Zs ∧ SX.St w [] wr (RdL gr 73 svr P k.2 ++ (WrL g9 29 sv3 Bs ++ [SX.Ent.row (.slice Ay m cy) 50 2 m ((gs.map vf).flatMap encF)]))) (fun k => m - k.1) (0, a + 8 * p) (by refine ⟨?_, trivial⟩ <;> (first | rfl | (refine Z.lookv rfl ?_; simp; done) | (refine Z.lookv rfl ?_; simp; omega))) ⟨by omega, by omega, by simp only [List.drop_zero]; rw [q3, hF2], hs⟩ ?_
                          clear hs
                          rintro ⟨k2, a2⟩ w3 ⟨hkn2, hap2, hd2, hs⟩
                          refine Z.only [8, 9, 10, 16] rfl ?_
                          dsimp only at hs
                          dsimp only at hkn2 hap2 hd2
                          refine Z.seq ?_
                          refine Z.seq ?_
                          refine Z.region ?_
                          refine Z.lb 2 rfl ?_
                          refine Z.l rfl rfl (by rfl) (Z.keepS hs) (Z.Yd.lenS rfl Try.underlying34) ?_
                          refine Z.lb 1 rfl ?_
                          refine Z.lnil ?_
                          refine Z.only [8, 9, 10, 16, 102] rfl ?_
                          refine Z.nthen ?_
                          refine Z.cond rfl (fun hc18 => ?_) (fun hc18 => ?_)
                          · first
                              | (exfalso; simp at hc18 <;> omega)
                              | (
                                (try simp at hc18)
                                obtain ⟨go, co', e0, -, -⟩ := row_form (j := 4) hs rfl (by omega)
                                simp only [Value.slice.injEq, true_and] at e0
                                obtain ⟨rfl, rfl⟩ := e0
                                obtain ⟨f, hf⟩ : ∃ f, (gs.map vf)[k2]? = some f := ⟨_, List.getElem?_eq_getElem (by simp; omega)⟩
                                have hfm := List.mem_of_getElem? hf
                                rw [drop_flat hf, List.append_assoc] at hd2
                                obtain ⟨h1, h2, h3, h4, h5⟩ := get_next hd2 (chkA_mem hck2 f hfm) (hgv2 f hfm) hap2
                                obtain ⟨v, wd⟩ := f
                                simp only at h1 h2 h3 h4 h5
                                refine Z.skip ?_
                                refine Z.nthen ?_
                                refine Z.seq ?_
                                refine Z.block ?_
                                refine Z.seq ?_
                                refine Z.region ?_
                                refine Z.lb 3 rfl ?_
                                refine Z.l rfl rfl (by rfl) (Z.keepS hs) (Z.Yd.elem rfl rfl Try.underlying34 Try.sizeOf50 (fun hG => ⟨(by first | omega | (have hG' := Z.gh rfl hG; simp at hG'; omega)), (by first | omega | (have hG' := Z.gh rfl hG; simp at hG'; omega))⟩)) ?_
                                refine Z.l rfl rfl (by rfl) (Z.keepS hs) (Z.Yd.fieldA (m := 1) rfl (by kernel_rfl)) ?_
                                refine Z.l rfl rfl (by rfl) (Z.keepS hs) (Z.Yd.load rfl Try.isAgg3 (fun _ => Z.cellR (by first | ((repeat (first | exact List.mem_cons_self | refine List.mem_cons_of_mem _ ?_ | refine List.mem_append_right _ ?_)); done) | fail) (Z.flat_at (j := 1) encF_length hf rfl))) ?_
                                refine Z.le rfl trivial ?_
                                refine Z.ZO.call rfl rfl (by rfl) rfl rfl Try.call25 rfl (rget_any gr _ svr P a2 wd _ (hs.lend (L1 := RdL _ _ _ _ _)) (by omega) hap2 hPb) ?_
                                rintro v20_6 w20_6 ⟨hv, hz⟩
                                replace hs := hs.regain (L1 := RdL _ _ _ _ _) hz
                                rw [h1, h2] at hv
                                subst hv
                                rw [h3] at hs
                                refine Z.lb 5 rfl ?_
                                refine Z.lnil ?_
                                refine Z.only [8, 9, 10, 16, 17, 18] rfl ?_
                                refine Z.nthen ?_
                                refine Z.seq ?_
                                refine Z.region ?_
                                refine Z.lb 1 rfl ?_
                                refine Z.le rfl trivial ?_
                                refine Z.ZO.call rfl rfl (by rfl) rfl rfl Try.call18 rfl (num_any _ _) ?_
                                rintro v21_1 w21_1 ⟨rfl, hy1⟩
                                replace hs := hs.call hy1
                                simp only [RdL, WrL, List.cons_append, List.nil_append] at hs
                                refine Z.lb 2 rfl ?_
                                refine Z.yes (s := 118) (b := false) rfl ((by decide)) rfl ?_
                                refine Z.lb 3 rfl ?_
                                refine Z.l rfl rfl (by rfl) (Z.keepS hs) (Z.Yd.elem rfl rfl Try.underlying34 Try.sizeOf50 (fun hG => ⟨(by first | omega | (have hG' := Z.gh rfl hG; simp at hG'; omega)), (by first | omega | (have hG' := Z.gh rfl hG; simp at hG'; omega))⟩)) ?_
                                refine Z.l rfl rfl (by rfl) (Z.keepS hs) (Z.Yd.fieldA (m := 0) rfl (by kernel_rfl)) ?_
                                refine Z.l rfl rfl (by rfl) (Z.keepS hs) (Z.Yd.load rfl Try.isAgg33 (fun _ => Z.cellR (by first | ((repeat (first | exact List.mem_cons_self | refine List.mem_cons_of_mem _ ?_ | refine List.mem_append_right _ ?_)); done) | fail) (Z.flat_at (j := 0) encF_length hf rfl))) ?_
                                refine Z.lb 1 rfl ?_
                                refine Z.yes (s := 118) (b := false) rfl rfl rfl ?_
                                refine Z.l rfl rfl (by rfl) (Z.keepS hs) (Z.Yd.pickF rfl rfl) ?_
                                refine Z.lnil ?_
                                refine Z.only [8, 9, 10, 16, 126] rfl ?_
                                refine Z.nthen ?_
                                refine Z.cond rfl (fun h => absurd h (by simp)) (fun hc21 => ?_)
                                refine Z.skip ?_
                                refine Z.nblock ?_
                                refine Z.nthen ?_
                                refine Z.region ?_
                                refine Z.lb 1 rfl ?_
                                refine Z.l rfl rfl (by rfl) (Z.keepS hs) (Z.Yd.add rfl rfl (fun hG => Z.wi64 (by first | omega | (have hG' := Z.gh rfl hG; simp at hG'; omega)))) ?_
                                refine Z.lb 1 rfl ?_
                                refine Z.lnil ?_
                                refine Z.only [8, 9, 10, 16] rfl ?_
                                refine Z.nthen ?_
                                exact Z.again (k2 + 1, a2 + wd.toNat) (by refine ⟨?_, ?_, ?_, ?_, trivial⟩ <;> (first | rfl | (refine Z.lookv rfl ?_; simp; done) | (refine Z.lookv rfl ?_; simp; omega))) ⟨by simp only; omega, h4, h5, hs⟩ (by simp only; omega)
                                )
                          · first
                              | (exfalso; simp at hc18 <;> omega)
                              | (
                                (try simp at hc18)
                                refine Z.exit ?_
                                refine Z.xthen ?_
                                refine Z.xthen ?_
                                refine Z.xblock ?_
                                refine Z.nthen ?_
                                refine Z.seq ?_
                                refine Z.region ?_
                                obtain rfl : k2 = m := by omega
                                rw [show (gs.map vf).drop k2 = [] from List.drop_of_length_le (by simp; omega), List.flatMap_nil, List.nil_append] at hd2
                                have hla := congrArg List.length hd2
                                rw [List.length_drop, unb_length, hZl] at hla
                                obtain rfl : a2 = Bs.length := by omega
                                have htb : toByte Bs.length = Zs.length := by rw [hZl]; rfl
                                have hba : bitsAt P Bs.length (toByte Bs.length) = Zs := by unfold bitsAt; rw [hd2, htb, List.take_length]
                                have hal : alE P Bs.length = 0 := by unfold alE; rw [hba, hZs, val_zero]; rfl
                                have hal2 : alA P Bs.length = 8 * P.length := by unfold alA; rw [hba, hZs, val_zero, if_pos rfl, htb]; omega
                                have hen : endE P Bs.length = 0 := by unfold endE; rw [if_neg (by omega), hal]
                                refine Z.l rfl rfl (by rfl) (Z.keepS hs) (Z.Yd.pure rfl) ?_
                                refine Z.le rfl trivial ?_
                                refine Z.ZO.call rfl rfl (by rfl) rfl rfl Try.call23 rfl (rat_any gr _ svr P Bs.length _ (hs.lend (L1 := RdL _ _ _ _ _))) ?_
                                rintro v23_1 w23_1 ⟨rfl, hz⟩
                                replace hs := hs.regain (L1 := RdL _ _ _ _ _) hz
                                replace hs : SX.St w [] w23_1 (WrL g9 29 sv3 Bs ++ RdL gr 73 svr P Bs.length) := hs.sel [2, 3, 0, 1] (by decide)
                                refine Z.le rfl trivial ?_
                                refine Z.ZO.call rfl rfl (by rfl) rfl rfl Try.call12 rfl (wlen_any g9 _ sv3 Bs _ hs.lend (by omega)) ?_
                                rintro v23_2 w23_2 ⟨rfl, hz⟩
                                replace hs := (hs.regain hz).rot
                                refine Z.lb 3 rfl ?_
                                refine Z.yes (s := 131) (b := true) rfl ((by simp)) rfl ?_
                                refine Z.le rfl (by exact ⟨rfl, trivial⟩) ?_
                                refine Z.ZO.call rfl rfl (by rfl) rfl rfl Try.call27 rfl (rend_any gr _ svr P _ _ hs.lend (by omega) (by omega) hPb) ?_
                                rintro v23_6 w23_6 ⟨hv, hz⟩
                                replace hs := hs.regain hz
                                rw [hen] at hv
                                subst hv
                                refine Z.le rfl (by exact ⟨rfl, trivial⟩) ?_
                                refine Z.ZO.call rfl rfl (by rfl) rfl rfl Try.call18 rfl (num_any _ _) ?_
                                rintro v23_7 w23_7 ⟨rfl, hy1⟩
                                replace hs := hs.call hy1
                                refine Z.lb 1 rfl ?_
                                refine Z.yes (s := 131) (b := true) rfl rfl rfl ?_
                                refine Z.l rfl rfl (by rfl) (Z.keepS hs) (Z.Yd.pickT rfl rfl) ?_
                                refine Z.lb 2 rfl ?_
                                refine Z.yes (s := 137) (b := true) rfl ((by decide)) rfl ?_
                                refine Z.le rfl (by exact ⟨rfl, trivial⟩) ?_
                                refine Z.ZO.call rfl rfl (by rfl) rfl rfl Try.call28 rfl (ralign_any gr _ svr P _ _ (hs.lend (L1 := RdL _ _ _ _ _)) (by omega) (by omega) hPb) ?_
                                rintro v23_12 w23_12 ⟨hv, hz⟩
                                replace hs := hs.regain (L1 := RdL _ _ _ _ _) hz
                                rw [hal] at hv
                                subst hv
                                rw [hal2] at hs
                                refine Z.le rfl (by exact ⟨rfl, trivial⟩) ?_
                                refine Z.ZO.call rfl rfl (by rfl) rfl rfl Try.call18 rfl (num_any _ _) ?_
                                rintro v23_13 w23_13 ⟨rfl, hy1⟩
                                replace hs := hs.call hy1
                                refine Z.lb 1 rfl ?_
                                refine Z.yes (s := 137) (b := true) rfl rfl rfl ?_
                                refine Z.l rfl rfl (by rfl) (Z.keepS hs) (Z.Yd.pickT rfl rfl) ?_
                                refine Z.lb 2 rfl ?_
                                refine Z.yes (s := 143) (b := true) rfl ((by decide)) rfl ?_
                                refine Z.le rfl (by exact ⟨rfl, trivial⟩) ?_
                                refine Z.ZO.call rfl rfl (by rfl) rfl rfl Try.call24 rfl (rleft_any gr _ svr P _ _ (hs.lend (L1 := RdL _ _ _ _ _)) (by omega) (by omega)) ?_
                                rintro v23_18 w23_18 ⟨hv, hz⟩
                                replace hs := hs.regain (L1 := RdL _ _ _ _ _) hz
                                rw [show (8 * P.length : Int) - ((8 * P.length : Nat) : Int) = 0 from by omega] at hv
                                subst hv
                                refine Z.lb 1 rfl ?_
                                refine Z.yes (s := 143) (b := true) rfl rfl rfl ?_
                                refine Z.l rfl rfl (by rfl) (Z.keepS hs) (Z.Yd.pickT rfl rfl) ?_
                                refine Z.lb 1 rfl ?_
                                refine Z.yes (s := 148) (b := true) rfl ((by decide)) rfl ?_
                                refine Z.le rfl (by exact ⟨rfl, trivial⟩) ?_
                                refine Z.ZO.call rfl rfl (by rfl) rfl rfl Try.call10 rfl (works_any _) ?_
                                rintro v23_22 w23_22 ⟨rfl, hy1⟩
                                replace hs := hs.call hy1
                                refine Z.l rfl rfl (by rfl) (Z.keepS hs) (Z.Yd.pickT rfl rfl) ?_
                                refine Z.lb 1 rfl ?_
                                refine Z.lnil ?_
                                refine Z.only [6] rfl ?_
                                refine Z.nthen ?_
                                refine Z.ret ?_
                                -- ret#7
                                refine Z.out1 (by exact ⟨rfl, trivial⟩) ?_
                                first | exact ⟨_, rfl, rfl, hs⟩ | exact ⟨_, rfl, rfl, hs.sub (List.nil_sublist _)⟩
                                )
                          )
                    )
              )
        )
theorem fieldHolds_rd (a0 : Option Addr) (len0 cap0 : Nat) (a1 : Option Addr) (len1 cap1 : Nat) (a2 : Option Addr) (len2 cap2 : Nat) (w : World) (z0 : Rd Try.prog w 34 (Value.slice a0 len0 cap0).cells.toList)
    (z1 : Rd Try.prog w 34 (Value.slice a1 len1 cap1).cells.toList) (z2 : Rd Try.prog w 25 (Value.slice a2 len2 cap2).cells.toList) :
    Calls Try.prog 6 #[.slice a0 len0 cap0, .slice a1 len1 cap1, .slice a2 len2 cap2] w fun e w' => e = .returned (.bool true) ∧ Below w.heap.size w w' := by
  obtain ⟨l, h1, h2, h3, h4⟩ := rd_fields z0
  obtain ⟨l2, g1, g2, g3, g4⟩ := rd_fields z1
  obtain ⟨bl, i1, i2, i3, i4⟩ := rd_bytes z2
  exact rowOf (fieldHolds_walk a0 len0 cap0 l a1 len1 cap1 l2 a2 len2 cap2 bl w h4 h1 h2 h3 g4 g1 g2 g3 i4 i1 i2 i3)
end Go.Proofs.Ytggikablbdhniaa
