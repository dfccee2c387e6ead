/- Part 6 of the proofs that lead to the statement. -/
import Derived.Test.YtogjkgoiofngaaaY5
import Derived.Test.YtogjkgoiofngaaaRows
import Derived.WalkKit
import Derived.ProofKit
import Derived.OpenShut
import Derived.ShutString
import Derived.ChangeOld
import Derived.Below
/- MacpduHolds. -/
namespace Go.Proofs.Ytogjkgoiofngaaa
open Go.RowKit
set_option linter.unusedSimpArgs false
set_option linter.unusedVariables false
--newlaws

theorem _root_.Go.Proofs.Ytogjkgoiofngaaa.SX.St.untail {w0 w : World} {M : List Nat} {Q : List SX.Ent} {a b r : SX.Ent} (h : SX.St w0 M w (b :: (Q ++ [a, r]))) : SX.St w0 M w (a :: r :: b :: Q) := h.perm (List.perm_append_comm (l₁ := [a, r]) (l₂ := b :: Q))
theorem _root_.Go.Proofs.Ytogjkgoiofngaaa.SX.St.untail1 {w0 w : World} {M : List Nat} {Q : List SX.Ent} {a b r : SX.Ent} (h : SX.St w0 M w (a :: b :: (Q ++ [r]))) : SX.St w0 M w (a :: r :: b :: Q) := h.perm (List.Perm.cons a (List.perm_append_singleton r (b :: Q)).symm)
theorem ks_sl {w0 w : World} {M : List Nat} {L : List SX.Ent} {qs : List (MpV × Nat)} {ch : Int} {gz : Option Addr} {zs : List Int} (hs : SX.St w0 M w L) (h1 : ∀ e ∈ rowsQ qs, e ∈ L) (h2 : Sl w gz (ints .u8 zs)) : ∀ q ∈ qs.map Prod.fst ++ [exZ ch gz zs], Sl w q.B (ints .u8 q.l) := by
  intro q hq
  rcases List.mem_append.1 hq with h | h
  · exact rowsQ_sl hs h1 q h
  · exact exZ_sl h2 q h
theorem vld_snoc : ∀ {r : List Prt} {d : Bool} {p : Prt}, vldP d r = true → sduB p.1 → (1 ≤ p.2.length ∧ p.2.length ≤ 32767) → vldP d (r ++ [p]) = true
  | [], d, p, _, hs, hl => by
    show vldP d (p :: []) = true
    rw [vldP_cons, if_pos hs, decide_eq_true hl]
    rfl
  | q :: r, d, p, h, hs, hl => by
    rw [List.cons_append, vldP_cons]
    rw [vldP_cons] at h
    by_cases hq : sduB q.1
    · rw [if_pos hq] at h ⊢
      simp only [Bool.and_eq_true] at h ⊢
      exact ⟨h.1, vld_snoc h.2 hs hl⟩
    · rw [if_neg hq] at h ⊢
      simp only [Bool.and_eq_true] at h ⊢
      exact ⟨h.1, vld_snoc h.2 hs hl⟩
theorem need_snoc (r : List Prt) (p : Prt) : needP (r ++ [p]) = totP r + 1 + (p.2.length : Int) := by
  unfold needP
  rw [totP_snoc]
  simp [lastP]
  omega
theorem totP_nn : ∀ r : List Prt, 0 ≤ totP r
  | [] => by simp [totP]
  | p :: r => by
    have := totP_nn r
    have := extP_bd p
    rw [totP_cons]
    omega
theorem bld_by {size : Int} {ps : List MpV} (h : ∀ q ∈ ps, ∀ x ∈ q.l, 0 ≤ x ∧ x < 256) (hv : vldP false (ps.map MpV.plain) = true) : ∀ x ∈ (bldV size (ps.map MpV.plain)).1, 0 ≤ x ∧ x < 256 := by
  by_cases h1 : (1 ≤ size ∧ size ≤ 16384) ∧ okN (ps.map MpV.plain)
  · have hmem := vldP_mem h1.2.2
    have hhd : ∀ f tr, ∀ x ∈ headB (ps.map MpV.plain) f tr ++ datR (ps.map MpV.plain), 0 ≤ x ∧ x < 256 := by
      intro f tr x hx
      rcases List.mem_append.1 hx with h2 | h2
      · exact headB_bd hmem x h2
      · exact datR_mem h x h2
    by_cases h2 : size - needP (ps.map MpV.plain) < 0
    · rw [bld_long h1 h2]; intro x hx; cases hx
    · obtain ⟨d, hd⟩ : ∃ d : Nat, size - needP (ps.map MpV.plain) = (d : Int) := ⟨(size - needP (ps.map MpV.plain)).toNat, by omega⟩
      by_cases h3 : d ≤ 2
      · rw [bld_few h1 hd h3]
        simp only [join_few]
        exact hhd d false
      · have hnt := need_tot (ps.map MpV.plain)
        rw [bld_pad h1 (by omega)]
        obtain ⟨M, hM⟩ : ∃ M : Nat, size - (totP (ps.map MpV.plain) + 1) = (M : Int) := ⟨(size - (totP (ps.map MpV.plain) + 1)).toNat, by omega⟩
        rw [hM]
        simp only [join_tr]
        intro x hx
        rcases List.mem_append.1 hx with h2 | h2
        · exact hhd 0 true x h2
        · obtain rfl := List.eq_of_mem_replicate h2
          decide
  · rw [bld_arg h1]; intro x hx; cases hx
theorem repl_self (m : Nat) : List.replicate m (0 : Int) = List.replicate (List.replicate m (0 : Int)).length 0 := by rw [List.length_replicate]
/-- what the greatest length of a further SDU means -/
theorem holds_plain {size ch : Int} {r : List Prt} (hv : vldP false r = true) (hsz : 1 ≤ size ∧ size ≤ 4000) (hsd : sduB ch) :
    ∃ zs ys : List Int, zs = List.replicate zs.length 0 ∧ ys = List.replicate ys.length 0 ∧ ys.length = zs.length + 1 ∧ fitV size r = ((zs.length : Int), 0) ∧ (zs.length : Int) ≤ size ∧
      (1 ≤ zs.length → (bldV size (r ++ [(ch, zs)])).2 = 0) ∧ (1 ≤ zs.length → ((bldV size (r ++ [(ch, zs)])).1.length : Int) = size) ∧ bldV size (r ++ [(ch, ys)]) = ([], 4) := by
  have ht := totP_nn r
  have hf : fitV size r = (max 0 (min 32767 (size - totP r - 1)), 0) := if_pos ⟨by omega, hv⟩
  obtain ⟨m, hm⟩ : ∃ m : Nat, max 0 (min 32767 (size - totP r - 1)) = (m : Int) := ⟨(max 0 (min 32767 (size - totP r - 1))).toNat, by omega⟩
  have hz : 1 ≤ m → (bldV size (r ++ [(ch, List.replicate m 0)])).2 = 0 := fun h1 => by
    refine bld_zero (by omega) ⟨by simp, vld_snoc hv hsd (by rw [List.length_replicate]; omega)⟩ ?_
    rw [need_snoc, List.length_replicate]
    omega
  refine ⟨List.replicate m 0, List.replicate (m + 1) 0, repl_self m, repl_self (m + 1), by simp, by rw [hf, hm, List.length_replicate], by rw [List.length_replicate]; omega, fun h => hz (by rwa [List.length_replicate] at h), fun h => bld_len (hz (by rwa [List.length_replicate] at h)), ?_⟩
  refine bld_long ⟨by omega, by simp, vld_snoc hv hsd (by rw [List.length_replicate]; omega)⟩ ?_
  rw [need_snoc, List.length_replicate]
  omega
set_option maxHeartbeats 2000000 in
set_option maxRecDepth 100000 in
theorem holds_none (size ch : Int) (A : Option Addr) (n c : Nat) (ps : List MpV) (w : World) (hx : Sl w A (ps.flatMap MpV.cells)) (hl : ps.length = n) (hB : ∀ q ∈ ps, Sl w q.B (ints .u8 q.l)) (hby : ∀ q ∈ ps, ∀ y ∈ q.l, 0 ≤ y ∧ y < 256)
    (r : List Prt) (hr : ps.map MpV.plain = r) (hsm : smallP r = true) (hv : vldP false r = true) (hsz : 1 ≤ size ∧ size ≤ 4000) (hch : 1 ≤ ch ∧ ch ≤ 10) (hne : n = 0) :
    Calls Try.prog 7 #[.int .i64 size, .slice A n c, .int .i64 ch] w (SX.Ret fun v w' => v = .bool true ∧ SX.St w [] w' []) := by
  have hs := SX.St.start w
  obtain ⟨s1, s2, s3⟩ := small_bd (by rw [hr]; exact hsm)
  have hsd : sduB ch := hch
  obtain ⟨zs, ys, hz, hyz, hyl, hzl, hzs, hb16, hb16l, hb19⟩ := holds_plain hv hsz hsd
  have ez := zero_ints hz
  have ey := zero_ints hyz
  refine Z.enter Try.func7 rfl Try.ntmps7 rfl rfl ?_
  refine Z.seq ?_
  refine Z.region ?_
  refine Z.lb 1 rfl ?_
  refine Z.lnil ?_
  refine Z.only [0, 1, 2] rfl ?_
  refine Z.nthen ?_
  refine Z.seq ?_
  refine Z.seq ?_
  refine Z.region ?_
  refine Z.lb 1 rfl ?_
  refine Z.le rfl trivial ?_
  refine Z.ZO.call rfl rfl (by rfl) rfl rfl Try.call9 rfl (small23 A n c ps _ hx hl (by omega)) ?_
  rintro v1_1 w1_1 ⟨rfl, hy⟩
  replace hs := hs.call hy
  clear hy
  try simp only [List.cons_append, List.nil_append, List.append_nil] at hs
  rw [hr, hsm]
  refine Z.lb 2 rfl ?_
  refine Z.yes (s := 22) (b := false) rfl ((by simp)) rfl ?_
  refine Z.lb 1 rfl ?_
  refine Z.yes (s := 22) (b := false) rfl rfl rfl ?_
  refine Z.le rfl (by exact ⟨rfl, trivial⟩) ?_
  refine Z.ZO.call rfl rfl (by rfl) rfl rfl Try.call25 rfl (mr_valid A n c ps _ (hx.st hs) hl (by omega)) ?_
  rintro v1_5 w1_5 ⟨rfl, hy⟩
  replace hs := hs.call hy
  clear hy
  try simp only [List.cons_append, List.nil_append, List.append_nil] at hs
  rw [hr, hv]
  refine Z.lb 1 rfl ?_
  refine Z.yes (s := 22) (b := false) rfl rfl rfl ?_
  refine Z.l rfl rfl (by rfl) (Z.keepS hs) (Z.Yd.pickF rfl rfl) ?_
  refine Z.lb 16 rfl ?_
  refine Z.lnil ?_
  refine Z.only [0, 1, 2, 42] rfl ?_
  refine Z.nthen ?_
  refine Z.cond rfl (fun h => absurd h (by simp; omega)) (fun hc1 => ?_)
  refine Z.skip ?_
  refine Z.nthen ?_
  refine Z.seq ?_
  refine Z.seq ?_
  refine Z.region ?_
  refine Z.lb 1 rfl ?_
  refine Z.l rfl rfl (by rfl) (Z.keepS hs) (Z.Yd.lenS rfl Try.underlying22) ?_
  refine Z.lb 1 rfl ?_
  refine Z.lnil ?_
  refine Z.only [0, 1, 2, 46] rfl ?_
  refine Z.nthen ?_
  refine Z.cond rfl (fun h => absurd h (by simp; omega)) (fun hc3 => ?_)
  refine Z.skip ?_
  refine Z.nthen ?_
  refine Z.seq ?_
  refine Z.region ?_
  refine Z.lb 2 rfl ?_
  replace hs := hs.sub (List.nil_sublist _)
  refine Z.le rfl trivial ?_
  refine Z.ZO.call rfl rfl (by rfl) rfl rfl Try.call19 rfl (mc_Fit size A n c ps _ (hx.st hs) hl (by omega) s3) ?_
  rintro v12_2 w12_2 ⟨rfl, hy⟩
  replace hs := hs.call hy
  clear hy
  try simp only [List.cons_append, List.nil_append, List.append_nil] at hs
  rw [hr, hzl]
  refine Z.lb 5 rfl ?_
  refine Z.lnil ?_
  refine Z.only [0, 1, 2, 13, 14] rfl ?_
  refine Z.nthen ?_
  refine Z.seq ?_
  refine Z.seq ?_
  refine Z.region ?_
  refine Z.lb 1 rfl ?_
  refine Z.le rfl trivial ?_
  refine Z.ZO.call rfl rfl (by rfl) rfl rfl Try.call24 rfl (num23 _ _) ?_
  rintro v13_1 w13_1 ⟨rfl, hy⟩
  replace hs := hs.call hy
  clear hy
  try simp only [List.cons_append, List.nil_append, List.append_nil] at hs
  refine Z.lb 2 rfl ?_
  refine Z.yes (s := 118) (b := false) rfl ((by simp)) rfl ?_
  refine Z.lb 2 rfl ?_
  refine Z.yes (s := 118) (b := false) rfl rfl rfl ?_
  refine Z.l rfl rfl (by rfl) (Z.keepS hs) (Z.Yd.pickF rfl rfl) ?_
  refine Z.lb 1 rfl ?_
  refine Z.yes (s := 122) (b := false) rfl ((by simp)) rfl ?_
  refine Z.lb 3 rfl ?_
  refine Z.yes (s := 122) (b := false) rfl rfl rfl ?_
  refine Z.l rfl rfl (by rfl) (Z.keepS hs) (Z.Yd.pickF rfl rfl) ?_
  refine Z.lnil ?_
  refine Z.only [0, 1, 2, 13, 126] rfl ?_
  refine Z.nthen ?_
  refine Z.cond rfl (fun h => absurd h (by simp; omega)) (fun hc13 => ?_)
  refine Z.skip ?_
  refine Z.nthen ?_
  refine Z.seq ?_
  refine Z.seq ?_
  refine Z.region ?_
  refine Z.lb 2 rfl ?_
  refine Z.lnil ?_
  refine Z.only [0, 1, 2, 13, 128] rfl ?_
  refine Z.nthen ?_
  refine Z.cutt (ι := Unit) [0, 1, 2, 13] rfl (fun _ => []) (fun _ wr => SX.St w [] wr []) ?_ ?_
  · skip
    refine Z.cond rfl (fun hc15 => ?_) (fun hc15 => ?_)
    · first
        | (exfalso; simp at hc15 <;> omega)
        | (
          (try simp at hc15)
          have hz1 : 1 ≤ zs.length := by omega
          refine Z.seq ?_
          refine Z.drawL [] (fun _ => true) mixed hs ?_
          clear hs; intro wd16 hs
          refine Z.tb [0, 1, 3, 4] (by kernel_rfl) rfl ⟨_, hs, by first | (simp; done) | exact fun e he => List.mem_append_right _ he⟩ rfl ?_
          refine Z.fork2 2 5 rfl rfl rfl (by kernel_rfl) rfl rfl trivial trivial ?_ ?_
          · skip
            refine Z.ZO.call rfl rfl (by rfl) rfl rfl Try.call11 rfl (copied23 A n c ps _ (hx.st (hs.sub (List.nil_sublist _))) hl (by omega) s3 (fun q hq ↦ (hB q hq).st (hs.sub (List.nil_sublist _)))) ?_
            rintro v16_2 w16_2 ⟨qs, hpq, hy⟩
            replace hs := hs.call hy
            clear hy
            try simp only [List.cons_append, List.nil_append, List.append_nil] at hs
            obtain ⟨Ac, cc, rfl, -, -, -⟩ := SX.row_slv hs (j := 0) rfl
            have epl : (qs.map Prod.fst).map MpV.plain = r := by rw [plainQ_fst, hpq, hr]
            have hql : qs.length = n := by have h7 := congrArg List.length hpq; simp [plainQ] at h7; omega
            refine Z.tk (Dn := fun _ => true) (i := 2) (fun _ => ⟨_, hs, by first | (simp; done) | exact fun e he => List.mem_append_right _ he⟩) ?_
            refine Z.tn 5 rfl rfl (by kernel_rfl) rfl trivial ?_
            refine Z.ZO.make1 (m := zs.length) (i0 := Try.t5) (bytes := 1) rfl rfl (by rfl) hs Try.underlying26 (by kernel_rfl) rfl rfl rfl rfl rfl rfl (by omega) (by unfold maxLen; omega) ?_
            clear hs; intro g135 w135 hs
            refine Z.tk (Dn := fun _ => true) (i := 5) (fun _ => ⟨_, hs, by first | (simp; done) | exact fun e he => List.mem_append_right _ he⟩) ?_
            refine Z.t 6 rfl rfl rfl (by rfl) (by kernel_rfl) ⟨_, hs, by first | (simp; done) | exact fun e he => List.mem_append_right _ he⟩ (Z.Yd.buildL [(0, 1), (1, 1)] [.int .i64 0, .slice none 0 0] rfl rfl (by intro w; kernel_rfl)) ?_
            refine Z.tn 7 rfl rfl (by kernel_rfl) rfl trivial ?_
            refine Z.ZO.litL (T' := 47) [(0, 2)] [.int .i64 0, .slice none 0 0] rfl rfl (by rfl) rfl rfl (by intro W; kernel_rfl) hs ?_
            clear hs; intro g137 w137 hs
            refine Z.tk (Dn := fun _ => true) (i := 7) (fun _ => ⟨_, hs, by first | (simp; done) | exact fun e he => List.mem_append_right _ he⟩) ?_
            rw [ez] at hs
            first
            | replace hs : SX.St w [] _ (_ :: _ :: _ :: rowsQ qs) := hs
            | replace hs : SX.St w [] _ (_ :: _ :: _ :: rowsQ qs) := SX.St.untail1 hs
            | replace hs : SX.St w [] _ (_ :: _ :: _ :: rowsQ qs) := SX.St.untail hs
            refine Z.tn 8 rfl rfl (by kernel_rfl) rfl trivial ?_
            refine Z.ZO.append (i0 := Try.t47) (size := 2) (bytes := 32) rfl rfl (by rfl) hs Try.underlying22 (by kernel_rfl) rfl rfl rfl rfl (by decide) rfl rfl (by first | exact SX.at0 | exact SX.at1 | exact SX.at2 | exact SX.at3 | exact SX.at4 | exact SX.at5 | exact Z.at6 | exact Z.at7 | exact Z.at8 | exact Z.at9 | exact Z.at10 | exact Z.at11 | exact Z.at12) (by first | exact SX.at0 | exact SX.at1 | exact SX.at2 | exact SX.at3 | exact SX.at4 | exact SX.at5 | exact Z.at6 | exact Z.at7 | exact Z.at8 | exact Z.at9 | exact Z.at10 | exact Z.at11 | exact Z.at12) (by first | rfl | simp) (by simp [Value.oneCell']) (by decide) (by unfold maxLen; omega) (by omega) ?_
            clear hs; intro g138 cap138 w138 hs
            simp only [List.set_cons_zero, List.set_cons_succ, List.eraseIdx_cons_zero, List.eraseIdx_cons_succ] at hs
            refine Z.tk (Dn := fun _ => true) (i := 8) (fun _ => ⟨_, hs, by first | (simp; done) | exact fun e he => List.mem_append_right _ he⟩) ?_
            obtain ⟨gz, hgz⟩ : ∃ gz : Option Addr, gz = some ⟨g135, 0, none⟩ := ⟨_, rfl⟩
            obtain ⟨ks, hks⟩ : ∃ ks, ks = qs.map Prod.fst ++ [exZ ch gz zs] := ⟨_, rfl⟩
            have hkl : ks.length = qs.length + 1 := by rw [hks]; simp
            have hkp : ks.map MpV.plain = r ++ [(ch, zs)] := by rw [hks, List.map_append, epl]; rfl
            have hkc : cellsQ qs ++ [.int .i64 ch, .slice gz zs.length zs.length] = ks.flatMap MpV.cells := by rw [hks, List.flatMap_append, cellsQ_fst]; rfl
            have hkf : ∀ q ∈ ks, q.l.length ≤ 100000 := by
              rw [hks]
              intro q hq
              rcases List.mem_append.1 hq with h | h
              · exact plain_all (P := fun p => p.2.length ≤ 100000) hpq s3 q h
              · exact exZ_f (by omega) q h
            have hkb : ∀ q ∈ ks, ∀ y ∈ q.l, 0 ≤ y ∧ y < 256 := by
              rw [hks]
              intro q hq
              rcases List.mem_append.1 hq with h | h
              · exact plain_all (P := fun p => ∀ y ∈ p.2, 0 ≤ y ∧ y < 256) hpq hby q h
              · exact exZ_by (zero_by hz) q h
            rw [← hgz, hkc] at hs
            refine Z.tn 9 rfl rfl (by kernel_rfl) rfl trivial ?_
            refine Z.ZO.call rfl rfl (by rfl) rfl rfl Try.call12 rfl (mc_Build size _ _ _ ks _ (hs.slm (by first | ((repeat (first | exact List.mem_cons_self | refine List.mem_cons_of_mem _ ?_ | refine List.mem_append_right _ ?_)); done) | fail)) hkl (by omega) hkf (by rw [hks]; exact ks_sl hs (fun e he ↦ by simp [he]) (hs.slm (A := gz) (by first | ((repeat (first | exact List.mem_cons_self | refine List.mem_cons_of_mem _ ?_ | refine List.mem_append_right _ ?_)); done) | fail))) hkb) ?_
            rintro v16_9 w16_9 ⟨sv16, rfl, hy⟩
            replace hs := hs.call hy
            clear hy
            try simp only [List.cons_append, List.nil_append, List.append_nil] at hs
            rw [hkp, hb16 hz1]
            rw [hkp] at hs
            have hbl16 := hb16l hz1
            obtain ⟨B16, k16, rfl, -, -, -⟩ := SX.row_slv hs (j := 0) rfl
            refine Z.tk (Dn := fun _ => true) (i := 9) (fun _ => ⟨_, hs, by first | (simp; done) | exact fun e he => List.mem_append_right _ he⟩) ?_
            refine Z.tb [10, 11, 12, 13, 14] (by kernel_rfl) rfl ⟨_, hs, by first | (simp; done) | exact fun e he => List.mem_append_right _ he⟩ rfl ?_
            refine Z.td (by rfl) (by kernel_rfl) ?_
            refine Z.only [0, 1, 2, 13, 15, 16] rfl ?_
            refine Z.nthen ?_
            refine Z.seq ?_
            refine Z.region ?_
            refine Z.lb 1 rfl ?_
            refine Z.le rfl trivial ?_
            refine Z.ZO.call rfl rfl (by rfl) rfl rfl Try.call24 rfl (num23 _ _) ?_
            rintro v17_1 w17_1 ⟨rfl, hy⟩
            replace hs := hs.call hy
            clear hy
            try simp only [List.cons_append, List.nil_append, List.append_nil] at hs
            refine Z.lb 2 rfl ?_
            refine Z.yes (s := 145) (b := false) rfl ((by simp)) rfl ?_
            refine Z.lb 1 rfl ?_
            refine Z.l rfl rfl (by rfl) (Z.keepS hs) (Z.Yd.lenS rfl Try.underlying26) ?_
            refine Z.lb 2 rfl ?_
            refine Z.yes (s := 145) (b := false) rfl rfl rfl ?_
            refine Z.l rfl rfl (by rfl) (Z.keepS hs) (Z.Yd.pickF rfl rfl) ?_
            refine Z.lnil ?_
            refine Z.only [0, 1, 2, 13, 150] rfl ?_
            refine Z.nthen ?_
            refine Z.cond rfl (fun h => absurd h (by simp; omega)) (fun hc17 => ?_)
            refine Z.skip ?_
            refine Z.nthen ?_
            exact Z.meet () (by refine ⟨?_, ?_, ?_, ?_, trivial⟩ <;> (first | rfl | (refine Z.lookv rfl ?_; simp; done) | (refine Z.lookv rfl ?_; simp; omega))) (hs.sub (List.nil_sublist _))
          · skip
            refine Z.ZO.make1 (m := zs.length) (i0 := Try.t5) (bytes := 1) rfl rfl (by rfl) hs Try.underlying26 (by kernel_rfl) rfl rfl rfl rfl rfl rfl (by omega) (by unfold maxLen; omega) ?_
            clear hs; intro g135 w135 hs
            refine Z.tk (Dn := fun _ => true) (i := 5) (fun _ => ⟨_, hs, by first | (simp; done) | exact fun e he => List.mem_append_right _ he⟩) ?_
            refine Z.t 6 rfl rfl rfl (by rfl) (by kernel_rfl) ⟨_, hs, by first | (simp; done) | exact fun e he => List.mem_append_right _ he⟩ (Z.Yd.buildL [(0, 1), (1, 1)] [.int .i64 0, .slice none 0 0] rfl rfl (by intro w; kernel_rfl)) ?_
            refine Z.fork2 2 7 rfl rfl rfl (by kernel_rfl) rfl rfl trivial trivial ?_ ?_
            · skip
              refine Z.ZO.call rfl rfl (by rfl) rfl rfl Try.call11 rfl (copied23 A n c ps _ (hx.st (hs.sub (List.nil_sublist _))) hl (by omega) s3 (fun q hq ↦ (hB q hq).st (hs.sub (List.nil_sublist _)))) ?_
              rintro v16_2 w16_2 ⟨qs, hpq, hy⟩
              replace hs := hs.call hy
              clear hy
              try simp only [List.cons_append, List.nil_append, List.append_nil] at hs
              obtain ⟨Ac, cc, rfl, -, -, -⟩ := SX.row_slv hs (j := 0) rfl
              have epl : (qs.map Prod.fst).map MpV.plain = r := by rw [plainQ_fst, hpq, hr]
              have hql : qs.length = n := by have h7 := congrArg List.length hpq; simp [plainQ] at h7; omega
              refine Z.tk (Dn := fun _ => true) (i := 2) (fun _ => ⟨_, hs, by first | (simp; done) | exact fun e he => List.mem_append_right _ he⟩) ?_
              refine Z.tn 7 rfl rfl (by kernel_rfl) rfl trivial ?_
              refine Z.ZO.litL (T' := 47) [(0, 2)] [.int .i64 0, .slice none 0 0] rfl rfl (by rfl) rfl rfl (by intro W; kernel_rfl) hs ?_
              clear hs; intro g137 w137 hs
              refine Z.tk (Dn := fun _ => true) (i := 7) (fun _ => ⟨_, hs, by first | (simp; done) | exact fun e he => List.mem_append_right _ he⟩) ?_
              rw [ez] at hs
              first
              | replace hs : SX.St w [] _ (_ :: _ :: _ :: rowsQ qs) := hs
              | replace hs : SX.St w [] _ (_ :: _ :: _ :: rowsQ qs) := SX.St.untail1 hs
              | replace hs : SX.St w [] _ (_ :: _ :: _ :: rowsQ qs) := SX.St.untail hs
              refine Z.tn 8 rfl rfl (by kernel_rfl) rfl trivial ?_
              refine Z.ZO.append (i0 := Try.t47) (size := 2) (bytes := 32) rfl rfl (by rfl) hs Try.underlying22 (by kernel_rfl) rfl rfl rfl rfl (by decide) rfl rfl (by first | exact SX.at0 | exact SX.at1 | exact SX.at2 | exact SX.at3 | exact SX.at4 | exact SX.at5 | exact Z.at6 | exact Z.at7 | exact Z.at8 | exact Z.at9 | exact Z.at10 | exact Z.at11 | exact Z.at12) (by first | exact SX.at0 | exact SX.at1 | exact SX.at2 | exact SX.at3 | exact SX.at4 | exact SX.at5 | exact Z.at6 | exact Z.at7 | exact Z.at8 | exact Z.at9 | exact Z.at10 | exact Z.at11 | exact Z.at12) (by first | rfl | simp) (by simp [Value.oneCell']) (by decide) (by unfold maxLen; omega) (by omega) ?_
              clear hs; intro g138 cap138 w138 hs
              simp only [List.set_cons_zero, List.set_cons_succ, List.eraseIdx_cons_zero, List.eraseIdx_cons_succ] at hs
              refine Z.tk (Dn := fun _ => true) (i := 8) (fun _ => ⟨_, hs, by first | (simp; done) | exact fun e he => List.mem_append_right _ he⟩) ?_
              obtain ⟨gz, hgz⟩ : ∃ gz : Option Addr, gz = some ⟨g135, 0, none⟩ := ⟨_, rfl⟩
              obtain ⟨ks, hks⟩ : ∃ ks, ks = qs.map Prod.fst ++ [exZ ch gz zs] := ⟨_, rfl⟩
              have hkl : ks.length = qs.length + 1 := by rw [hks]; simp
              have hkp : ks.map MpV.plain = r ++ [(ch, zs)] := by rw [hks, List.map_append, epl]; rfl
              have hkc : cellsQ qs ++ [.int .i64 ch, .slice gz zs.length zs.length] = ks.flatMap MpV.cells := by rw [hks, List.flatMap_append, cellsQ_fst]; rfl
              have hkf : ∀ q ∈ ks, q.l.length ≤ 100000 := by
                rw [hks]
                intro q hq
                rcases List.mem_append.1 hq with h | h
                · exact plain_all (P := fun p => p.2.length ≤ 100000) hpq s3 q h
                · exact exZ_f (by omega) q h
              have hkb : ∀ q ∈ ks, ∀ y ∈ q.l, 0 ≤ y ∧ y < 256 := by
                rw [hks]
                intro q hq
                rcases List.mem_append.1 hq with h | h
                · exact plain_all (P := fun p => ∀ y ∈ p.2, 0 ≤ y ∧ y < 256) hpq hby q h
                · exact exZ_by (zero_by hz) q h
              rw [← hgz, hkc] at hs
              refine Z.tn 9 rfl rfl (by kernel_rfl) rfl trivial ?_
              refine Z.ZO.call rfl rfl (by rfl) rfl rfl Try.call12 rfl (mc_Build size _ _ _ ks _ (hs.slm (by first | ((repeat (first | exact List.mem_cons_self | refine List.mem_cons_of_mem _ ?_ | refine List.mem_append_right _ ?_)); done) | fail)) hkl (by omega) hkf (by rw [hks]; exact ks_sl hs (fun e he ↦ by simp [he]) (hs.slm (A := gz) (by first | ((repeat (first | exact List.mem_cons_self | refine List.mem_cons_of_mem _ ?_ | refine List.mem_append_right _ ?_)); done) | fail))) hkb) ?_
              rintro v16_9 w16_9 ⟨sv16, rfl, hy⟩
              replace hs := hs.call hy
              clear hy
              try simp only [List.cons_append, List.nil_append, List.append_nil] at hs
              rw [hkp, hb16 hz1]
              rw [hkp] at hs
              have hbl16 := hb16l hz1
              obtain ⟨B16, k16, rfl, -, -, -⟩ := SX.row_slv hs (j := 0) rfl
              refine Z.tk (Dn := fun _ => true) (i := 9) (fun _ => ⟨_, hs, by first | (simp; done) | exact fun e he => List.mem_append_right _ he⟩) ?_
              refine Z.tb [10, 11, 12, 13, 14] (by kernel_rfl) rfl ⟨_, hs, by first | (simp; done) | exact fun e he => List.mem_append_right _ he⟩ rfl ?_
              refine Z.td (by rfl) (by kernel_rfl) ?_
              refine Z.only [0, 1, 2, 13, 15, 16] rfl ?_
              refine Z.nthen ?_
              refine Z.seq ?_
              refine Z.region ?_
              refine Z.lb 1 rfl ?_
              refine Z.le rfl trivial ?_
              refine Z.ZO.call rfl rfl (by rfl) rfl rfl Try.call24 rfl (num23 _ _) ?_
              rintro v17_1 w17_1 ⟨rfl, hy⟩
              replace hs := hs.call hy
              clear hy
              try simp only [List.cons_append, List.nil_append, List.append_nil] at hs
              refine Z.lb 2 rfl ?_
              refine Z.yes (s := 145) (b := false) rfl ((by simp)) rfl ?_
              refine Z.lb 1 rfl ?_
              refine Z.l rfl rfl (by rfl) (Z.keepS hs) (Z.Yd.lenS rfl Try.underlying26) ?_
              refine Z.lb 2 rfl ?_
              refine Z.yes (s := 145) (b := false) rfl rfl rfl ?_
              refine Z.l rfl rfl (by rfl) (Z.keepS hs) (Z.Yd.pickF rfl rfl) ?_
              refine Z.lnil ?_
              refine Z.only [0, 1, 2, 13, 150] rfl ?_
              refine Z.nthen ?_
              refine Z.cond rfl (fun h => absurd h (by simp; omega)) (fun hc17 => ?_)
              refine Z.skip ?_
              refine Z.nthen ?_
              exact Z.meet () (by refine ⟨?_, ?_, ?_, ?_, trivial⟩ <;> (first | rfl | (refine Z.lookv rfl ?_; simp; done) | (refine Z.lookv rfl ?_; simp; omega))) (hs.sub (List.nil_sublist _))
            · skip
              refine Z.ZO.litL (T' := 47) [(0, 2)] [.int .i64 0, .slice none 0 0] rfl rfl (by rfl) rfl rfl (by intro W; kernel_rfl) hs ?_
              clear hs; intro g137 w137 hs
              refine Z.tk (Dn := fun _ => true) (i := 7) (fun _ => ⟨_, hs, by first | (simp; done) | exact fun e he => List.mem_append_right _ he⟩) ?_
              refine Z.tn 2 rfl rfl (by kernel_rfl) rfl trivial ?_
              refine Z.ZO.call rfl rfl (by rfl) rfl rfl Try.call11 rfl (copied23 A n c ps _ (hx.st (hs.sub (List.nil_sublist _))) hl (by omega) s3 (fun q hq ↦ (hB q hq).st (hs.sub (List.nil_sublist _)))) ?_
              rintro v16_2 w16_2 ⟨qs, hpq, hy⟩
              replace hs := hs.call hy
              clear hy
              try simp only [List.cons_append, List.nil_append, List.append_nil] at hs
              obtain ⟨Ac, cc, rfl, -, -, -⟩ := SX.row_slv hs (j := 0) rfl
              have epl : (qs.map Prod.fst).map MpV.plain = r := by rw [plainQ_fst, hpq, hr]
              have hql : qs.length = n := by have h7 := congrArg List.length hpq; simp [plainQ] at h7; omega
              refine Z.tk (Dn := fun _ => true) (i := 2) (fun _ => ⟨_, hs, by first | (simp; done) | exact fun e he => List.mem_append_right _ he⟩) ?_
              rw [ez] at hs
              first
              | replace hs : SX.St w [] _ (_ :: _ :: _ :: rowsQ qs) := hs
              | replace hs : SX.St w [] _ (_ :: _ :: _ :: rowsQ qs) := SX.St.untail1 hs
              | replace hs : SX.St w [] _ (_ :: _ :: _ :: rowsQ qs) := SX.St.untail hs
              refine Z.tn 8 rfl rfl (by kernel_rfl) rfl trivial ?_
              refine Z.ZO.append (i0 := Try.t47) (size := 2) (bytes := 32) rfl rfl (by rfl) hs Try.underlying22 (by kernel_rfl) rfl rfl rfl rfl (by decide) rfl rfl (by first | exact SX.at0 | exact SX.at1 | exact SX.at2 | exact SX.at3 | exact SX.at4 | exact SX.at5 | exact Z.at6 | exact Z.at7 | exact Z.at8 | exact Z.at9 | exact Z.at10 | exact Z.at11 | exact Z.at12) (by first | exact SX.at0 | exact SX.at1 | exact SX.at2 | exact SX.at3 | exact SX.at4 | exact SX.at5 | exact Z.at6 | exact Z.at7 | exact Z.at8 | exact Z.at9 | exact Z.at10 | exact Z.at11 | exact Z.at12) (by first | rfl | simp) (by simp [Value.oneCell']) (by decide) (by unfold maxLen; omega) (by omega) ?_
              clear hs; intro g138 cap138 w138 hs
              simp only [List.set_cons_zero, List.set_cons_succ, List.eraseIdx_cons_zero, List.eraseIdx_cons_succ] at hs
              refine Z.tk (Dn := fun _ => true) (i := 8) (fun _ => ⟨_, hs, by first | (simp; done) | exact fun e he => List.mem_append_right _ he⟩) ?_
              obtain ⟨gz, hgz⟩ : ∃ gz : Option Addr, gz = some ⟨g135, 0, none⟩ := ⟨_, rfl⟩
              obtain ⟨ks, hks⟩ : ∃ ks, ks = qs.map Prod.fst ++ [exZ ch gz zs] := ⟨_, rfl⟩
              have hkl : ks.length = qs.length + 1 := by rw [hks]; simp
              have hkp : ks.map MpV.plain = r ++ [(ch, zs)] := by rw [hks, List.map_append, epl]; rfl
              have hkc : cellsQ qs ++ [.int .i64 ch, .slice gz zs.length zs.length] = ks.flatMap MpV.cells := by rw [hks, List.flatMap_append, cellsQ_fst]; rfl
              have hkf : ∀ q ∈ ks, q.l.length ≤ 100000 := by
                rw [hks]
                intro q hq
                rcases List.mem_append.1 hq with h | h
                · exact plain_all (P := fun p => p.2.length ≤ 100000) hpq s3 q h
                · exact exZ_f (by omega) q h
              have hkb : ∀ q ∈ ks, ∀ y ∈ q.l, 0 ≤ y ∧ y < 256 := by
                rw [hks]
                intro q hq
                rcases List.mem_append.1 hq with h | h
                · exact plain_all (P := fun p => ∀ y ∈ p.2, 0 ≤ y ∧ y < 256) hpq hby q h
                · exact exZ_by (zero_by hz) q h
              rw [← hgz, hkc] at hs
              refine Z.tn 9 rfl rfl (by kernel_rfl) rfl trivial ?_
              refine Z.ZO.call rfl rfl (by rfl) rfl rfl Try.call12 rfl (mc_Build size _ _ _ ks _ (hs.slm (by first | ((repeat (first | exact List.mem_cons_self | refine List.mem_cons_of_mem _ ?_ | refine List.mem_append_right _ ?_)); done) | fail)) hkl (by omega) hkf (by rw [hks]; exact ks_sl hs (fun e he ↦ by simp [he]) (hs.slm (A := gz) (by first | ((repeat (first | exact List.mem_cons_self | refine List.mem_cons_of_mem _ ?_ | refine List.mem_append_right _ ?_)); done) | fail))) hkb) ?_
              rintro v16_9 w16_9 ⟨sv16, rfl, hy⟩
              replace hs := hs.call hy
              clear hy
              try simp only [List.cons_append, List.nil_append, List.append_nil] at hs
              rw [hkp, hb16 hz1]
              rw [hkp] at hs
              have hbl16 := hb16l hz1
              obtain ⟨B16, k16, rfl, -, -, -⟩ := SX.row_slv hs (j := 0) rfl
              refine Z.tk (Dn := fun _ => true) (i := 9) (fun _ => ⟨_, hs, by first | (simp; done) | exact fun e he => List.mem_append_right _ he⟩) ?_
              refine Z.tb [10, 11, 12, 13, 14] (by kernel_rfl) rfl ⟨_, hs, by first | (simp; done) | exact fun e he => List.mem_append_right _ he⟩ rfl ?_
              refine Z.td (by rfl) (by kernel_rfl) ?_
              refine Z.only [0, 1, 2, 13, 15, 16] rfl ?_
              refine Z.nthen ?_
              refine Z.seq ?_
              refine Z.region ?_
              refine Z.lb 1 rfl ?_
              refine Z.le rfl trivial ?_
              refine Z.ZO.call rfl rfl (by rfl) rfl rfl Try.call24 rfl (num23 _ _) ?_
              rintro v17_1 w17_1 ⟨rfl, hy⟩
              replace hs := hs.call hy
              clear hy
              try simp only [List.cons_append, List.nil_append, List.append_nil] at hs
              refine Z.lb 2 rfl ?_
              refine Z.yes (s := 145) (b := false) rfl ((by simp)) rfl ?_
              refine Z.lb 1 rfl ?_
              refine Z.l rfl rfl (by rfl) (Z.keepS hs) (Z.Yd.lenS rfl Try.underlying26) ?_
              refine Z.lb 2 rfl ?_
              refine Z.yes (s := 145) (b := false) rfl rfl rfl ?_
              refine Z.l rfl rfl (by rfl) (Z.keepS hs) (Z.Yd.pickF rfl rfl) ?_
              refine Z.lnil ?_
              refine Z.only [0, 1, 2, 13, 150] rfl ?_
              refine Z.nthen ?_
              refine Z.cond rfl (fun h => absurd h (by simp; omega)) (fun hc17 => ?_)
              refine Z.skip ?_
              refine Z.nthen ?_
              exact Z.meet () (by refine ⟨?_, ?_, ?_, ?_, trivial⟩ <;> (first | rfl | (refine Z.lookv rfl ?_; simp; done) | (refine Z.lookv rfl ?_; simp; omega))) (hs.sub (List.nil_sublist _))
          )
    · first
        | (exfalso; simp at hc15 <;> omega)
        | (
          (try simp at hc15)
          refine Z.skip ?_
          refine Z.nthen ?_
          exact Z.meet () (by refine ⟨?_, ?_, ?_, ?_, trivial⟩ <;> (first | rfl | (refine Z.lookv rfl ?_; simp; done) | (refine Z.lookv rfl ?_; simp; omega))) (hs.sub (List.nil_sublist _))
          )
  · clear hs
    rintro _ w19 hs
    refine Z.only [0, 1, 2, 13] rfl ?_
    refine Z.seq ?_
    refine Z.drawL [] (fun _ => true) mixed hs ?_
    clear hs; intro wd19 hs
    refine Z.tb [0, 1, 3, 4] (by kernel_rfl) rfl ⟨_, hs, by first | (simp; done) | exact fun e he => List.mem_append_right _ he⟩ rfl ?_
    refine Z.t 5 rfl rfl rfl (by rfl) (by kernel_rfl) ⟨_, hs, by first | (simp; done) | exact fun e he => List.mem_append_right _ he⟩ (Z.Yd.add rfl rfl (fun hG => Z.wi64 (by first | omega | (have hG' := Z.gh rfl hG; simp at hG'; omega)))) ?_
    refine Z.fork2 2 6 rfl rfl rfl (by kernel_rfl) rfl rfl trivial trivial ?_ ?_
    · skip
      refine Z.ZO.call rfl rfl (by rfl) rfl rfl Try.call11 rfl (copied23 A n c ps _ (hx.st (hs.sub (List.nil_sublist _))) hl (by omega) s3 (fun q hq ↦ (hB q hq).st (hs.sub (List.nil_sublist _)))) ?_
      rintro v19_2 w19_2 ⟨qs, hpq, hy⟩
      replace hs := hs.call hy
      clear hy
      try simp only [List.cons_append, List.nil_append, List.append_nil] at hs
      obtain ⟨Ac, cc, rfl, -, -, -⟩ := SX.row_slv hs (j := 0) rfl
      have epl : (qs.map Prod.fst).map MpV.plain = r := by rw [plainQ_fst, hpq, hr]
      have hql : qs.length = n := by have h7 := congrArg List.length hpq; simp [plainQ] at h7; omega
      refine Z.tk (Dn := fun _ => true) (i := 2) (fun _ => ⟨_, hs, by first | (simp; done) | exact fun e he => List.mem_append_right _ he⟩) ?_
      rw [show (zs.length : Int) + 1 = (ys.length : Int) from by omega]
      refine Z.tn 6 rfl rfl (by kernel_rfl) rfl trivial ?_
      refine Z.ZO.make1 (m := ys.length) (i0 := Try.t5) (bytes := 1) rfl rfl (by rfl) hs Try.underlying26 (by kernel_rfl) rfl rfl rfl rfl rfl rfl (by omega) (by unfold maxLen; omega) ?_
      clear hs; intro g158 w158 hs
      refine Z.tk (Dn := fun _ => true) (i := 6) (fun _ => ⟨_, hs, by first | (simp; done) | exact fun e he => List.mem_append_right _ he⟩) ?_
      refine Z.t 7 rfl rfl rfl (by rfl) (by kernel_rfl) ⟨_, hs, by first | (simp; done) | exact fun e he => List.mem_append_right _ he⟩ (Z.Yd.buildL [(0, 1), (1, 1)] [.int .i64 0, .slice none 0 0] rfl rfl (by intro w; kernel_rfl)) ?_
      refine Z.tn 8 rfl rfl (by kernel_rfl) rfl trivial ?_
      refine Z.ZO.litL (T' := 47) [(0, 2)] [.int .i64 0, .slice none 0 0] rfl rfl (by rfl) rfl rfl (by intro W; kernel_rfl) hs ?_
      clear hs; intro g160 w160 hs
      refine Z.tk (Dn := fun _ => true) (i := 8) (fun _ => ⟨_, hs, by first | (simp; done) | exact fun e he => List.mem_append_right _ he⟩) ?_
      rw [ey] at hs
      first
      | replace hs : SX.St w [] _ (_ :: _ :: _ :: rowsQ qs) := hs
      | replace hs : SX.St w [] _ (_ :: _ :: _ :: rowsQ qs) := SX.St.untail1 hs
      | replace hs : SX.St w [] _ (_ :: _ :: _ :: rowsQ qs) := SX.St.untail hs
      refine Z.tn 9 rfl rfl (by kernel_rfl) rfl trivial ?_
      refine Z.ZO.append (i0 := Try.t47) (size := 2) (bytes := 32) rfl rfl (by rfl) hs Try.underlying22 (by kernel_rfl) rfl rfl rfl rfl (by decide) rfl rfl (by first | exact SX.at0 | exact SX.at1 | exact SX.at2 | exact SX.at3 | exact SX.at4 | exact SX.at5 | exact Z.at6 | exact Z.at7 | exact Z.at8 | exact Z.at9 | exact Z.at10 | exact Z.at11 | exact Z.at12) (by first | exact SX.at0 | exact SX.at1 | exact SX.at2 | exact SX.at3 | exact SX.at4 | exact SX.at5 | exact Z.at6 | exact Z.at7 | exact Z.at8 | exact Z.at9 | exact Z.at10 | exact Z.at11 | exact Z.at12) (by first | rfl | simp) (by simp [Value.oneCell']) (by decide) (by unfold maxLen; omega) (by omega) ?_
      clear hs; intro g161 cap161 w161 hs
      simp only [List.set_cons_zero, List.set_cons_succ, List.eraseIdx_cons_zero, List.eraseIdx_cons_succ] at hs
      refine Z.tk (Dn := fun _ => true) (i := 9) (fun _ => ⟨_, hs, by first | (simp; done) | exact fun e he => List.mem_append_right _ he⟩) ?_
      obtain ⟨gz, hgz⟩ : ∃ gz : Option Addr, gz = some ⟨g158, 0, none⟩ := ⟨_, rfl⟩
      obtain ⟨ks, hks⟩ : ∃ ks, ks = qs.map Prod.fst ++ [exZ ch gz ys] := ⟨_, rfl⟩
      have hkl : ks.length = qs.length + 1 := by rw [hks]; simp
      have hkp : ks.map MpV.plain = r ++ [(ch, ys)] := by rw [hks, List.map_append, epl]; rfl
      have hkc : cellsQ qs ++ [.int .i64 ch, .slice gz ys.length ys.length] = ks.flatMap MpV.cells := by rw [hks, List.flatMap_append, cellsQ_fst]; rfl
      have hkf : ∀ q ∈ ks, q.l.length ≤ 100000 := by
        rw [hks]
        intro q hq
        rcases List.mem_append.1 hq with h | h
        · exact plain_all (P := fun p => p.2.length ≤ 100000) hpq s3 q h
        · exact exZ_f (by omega) q h
      have hkb : ∀ q ∈ ks, ∀ y ∈ q.l, 0 ≤ y ∧ y < 256 := by
        rw [hks]
        intro q hq
        rcases List.mem_append.1 hq with h | h
        · exact plain_all (P := fun p => ∀ y ∈ p.2, 0 ≤ y ∧ y < 256) hpq hby q h
        · exact exZ_by (zero_by hyz) q h
      rw [← hgz, hkc] at hs
      refine Z.tn 10 rfl rfl (by kernel_rfl) rfl trivial ?_
      refine Z.ZO.call rfl rfl (by rfl) rfl rfl Try.call12 rfl (mc_Build size _ _ _ ks _ (hs.slm (by first | ((repeat (first | exact List.mem_cons_self | refine List.mem_cons_of_mem _ ?_ | refine List.mem_append_right _ ?_)); done) | fail)) hkl (by omega) hkf (by rw [hks]; exact ks_sl hs (fun e he ↦ by simp [he]) (hs.slm (A := gz) (by first | ((repeat (first | exact List.mem_cons_self | refine List.mem_cons_of_mem _ ?_ | refine List.mem_append_right _ ?_)); done) | fail))) hkb) ?_
      rintro v19_10 w19_10 ⟨sv19, rfl, hy⟩
      replace hs := hs.call hy
      clear hy
      try simp only [List.cons_append, List.nil_append, List.append_nil] at hs
      rw [hkp, hb19]
      refine Z.tk (Dn := fun _ => true) (i := 10) (fun _ => ⟨_, hs, by first | (simp; done) | exact fun e he => List.mem_append_right _ he⟩) ?_
      refine Z.tb [11, 12, 13, 14, 15] (by kernel_rfl) rfl ⟨_, hs, by first | (simp; done) | exact fun e he => List.mem_append_right _ he⟩ rfl ?_
      refine Z.td (by rfl) (by kernel_rfl) ?_
      refine Z.only [18] rfl ?_
      refine Z.nthen ?_
      refine Z.seq ?_
      refine Z.region ?_
      refine Z.lb 1 rfl ?_
      refine Z.le rfl trivial ?_
      refine Z.ZO.call rfl rfl (by rfl) rfl rfl Try.call24 rfl (num23 _ _) ?_
      rintro v20_1 w20_1 ⟨rfl, hy⟩
      replace hs := hs.call hy
      clear hy
      try simp only [List.cons_append, List.nil_append, List.append_nil] at hs
      refine Z.lb 2 rfl ?_
      refine Z.yes (s := 168) (b := true) rfl ((by simp)) rfl ?_
      refine Z.le rfl (by exact ⟨rfl, trivial⟩) ?_
      refine Z.ZO.call rfl rfl (by rfl) rfl rfl Try.call10 rfl (works23 _) ?_
      rintro v20_4 w20_4 ⟨rfl, hy⟩
      replace hs := hs.call hy
      clear hy
      try simp only [List.cons_append, List.nil_append, List.append_nil] at hs
      refine Z.l rfl rfl (by rfl) (Z.keepS hs) (Z.Yd.pickT rfl rfl) ?_
      refine Z.lb 1 rfl ?_
      refine Z.lnil ?_
      refine Z.only [6] rfl ?_
      refine Z.nthen ?_
      refine Z.ret ?_
      -- ret#0
      refine Z.out1 (by exact ⟨rfl, trivial⟩) ?_
      exact ⟨_, rfl, rfl, hs.sub (List.nil_sublist _)⟩
    · skip
      rw [show (zs.length : Int) + 1 = (ys.length : Int) from by omega]
      refine Z.ZO.make1 (m := ys.length) (i0 := Try.t5) (bytes := 1) rfl rfl (by rfl) hs Try.underlying26 (by kernel_rfl) rfl rfl rfl rfl rfl rfl (by omega) (by unfold maxLen; omega) ?_
      clear hs; intro g158 w158 hs
      refine Z.tk (Dn := fun _ => true) (i := 6) (fun _ => ⟨_, hs, by first | (simp; done) | exact fun e he => List.mem_append_right _ he⟩) ?_
      refine Z.t 7 rfl rfl rfl (by rfl) (by kernel_rfl) ⟨_, hs, by first | (simp; done) | exact fun e he => List.mem_append_right _ he⟩ (Z.Yd.buildL [(0, 1), (1, 1)] [.int .i64 0, .slice none 0 0] rfl rfl (by intro w; kernel_rfl)) ?_
      refine Z.fork2 2 8 rfl rfl rfl (by kernel_rfl) rfl rfl trivial trivial ?_ ?_
      · skip
        refine Z.ZO.call rfl rfl (by rfl) rfl rfl Try.call11 rfl (copied23 A n c ps _ (hx.st (hs.sub (List.nil_sublist _))) hl (by omega) s3 (fun q hq ↦ (hB q hq).st (hs.sub (List.nil_sublist _)))) ?_
        rintro v19_2 w19_2 ⟨qs, hpq, hy⟩
        replace hs := hs.call hy
        clear hy
        try simp only [List.cons_append, List.nil_append, List.append_nil] at hs
        obtain ⟨Ac, cc, rfl, -, -, -⟩ := SX.row_slv hs (j := 0) rfl
        have epl : (qs.map Prod.fst).map MpV.plain = r := by rw [plainQ_fst, hpq, hr]
        have hql : qs.length = n := by have h7 := congrArg List.length hpq; simp [plainQ] at h7; omega
        refine Z.tk (Dn := fun _ => true) (i := 2) (fun _ => ⟨_, hs, by first | (simp; done) | exact fun e he => List.mem_append_right _ he⟩) ?_
        refine Z.tn 8 rfl rfl (by kernel_rfl) rfl trivial ?_
        refine Z.ZO.litL (T' := 47) [(0, 2)] [.int .i64 0, .slice none 0 0] rfl rfl (by rfl) rfl rfl (by intro W; kernel_rfl) hs ?_
        clear hs; intro g160 w160 hs
        refine Z.tk (Dn := fun _ => true) (i := 8) (fun _ => ⟨_, hs, by first | (simp; done) | exact fun e he => List.mem_append_right _ he⟩) ?_
        rw [ey] at hs
        first
        | replace hs : SX.St w [] _ (_ :: _ :: _ :: rowsQ qs) := hs
        | replace hs : SX.St w [] _ (_ :: _ :: _ :: rowsQ qs) := SX.St.untail1 hs
        | replace hs : SX.St w [] _ (_ :: _ :: _ :: rowsQ qs) := SX.St.untail hs
        refine Z.tn 9 rfl rfl (by kernel_rfl) rfl trivial ?_
        refine Z.ZO.append (i0 := Try.t47) (size := 2) (bytes := 32) rfl rfl (by rfl) hs Try.underlying22 (by kernel_rfl) rfl rfl rfl rfl (by decide) rfl rfl (by first | exact SX.at0 | exact SX.at1 | exact SX.at2 | exact SX.at3 | exact SX.at4 | exact SX.at5 | exact Z.at6 | exact Z.at7 | exact Z.at8 | exact Z.at9 | exact Z.at10 | exact Z.at11 | exact Z.at12) (by first | exact SX.at0 | exact SX.at1 | exact SX.at2 | exact SX.at3 | exact SX.at4 | exact SX.at5 | exact Z.at6 | exact Z.at7 | exact Z.at8 | exact Z.at9 | exact Z.at10 | exact Z.at11 | exact Z.at12) (by first | rfl | simp) (by simp [Value.oneCell']) (by decide) (by unfold maxLen; omega) (by omega) ?_
        clear hs; intro g161 cap161 w161 hs
        simp only [List.set_cons_zero, List.set_cons_succ, List.eraseIdx_cons_zero, List.eraseIdx_cons_succ] at hs
        refine Z.tk (Dn := fun _ => true) (i := 9) (fun _ => ⟨_, hs, by first | (simp; done) | exact fun e he => List.mem_append_right _ he⟩) ?_
        obtain ⟨gz, hgz⟩ : ∃ gz : Option Addr, gz = some ⟨g158, 0, none⟩ := ⟨_, rfl⟩
        obtain ⟨ks, hks⟩ : ∃ ks, ks = qs.map Prod.fst ++ [exZ ch gz ys] := ⟨_, rfl⟩
        have hkl : ks.length = qs.length + 1 := by rw [hks]; simp
        have hkp : ks.map MpV.plain = r ++ [(ch, ys)] := by rw [hks, List.map_append, epl]; rfl
        have hkc : cellsQ qs ++ [.int .i64 ch, .slice gz ys.length ys.length] = ks.flatMap MpV.cells := by rw [hks, List.flatMap_append, cellsQ_fst]; rfl
        have hkf : ∀ q ∈ ks, q.l.length ≤ 100000 := by
          rw [hks]
          intro q hq
          rcases List.mem_append.1 hq with h | h
          · exact plain_all (P := fun p => p.2.length ≤ 100000) hpq s3 q h
          · exact exZ_f (by omega) q h
        have hkb : ∀ q ∈ ks, ∀ y ∈ q.l, 0 ≤ y ∧ y < 256 := by
          rw [hks]
          intro q hq
          rcases List.mem_append.1 hq with h | h
          · exact plain_all (P := fun p => ∀ y ∈ p.2, 0 ≤ y ∧ y < 256) hpq hby q h
          · exact exZ_by (zero_by hyz) q h
        rw [← hgz, hkc] at hs
        refine Z.tn 10 rfl rfl (by kernel_rfl) rfl trivial ?_
        refine Z.ZO.call rfl rfl (by rfl) rfl rfl Try.call12 rfl (mc_Build size _ _ _ ks _ (hs.slm (by first | ((repeat (first | exact List.mem_cons_self | refine List.mem_cons_of_mem _ ?_ | refine List.mem_append_right _ ?_)); done) | fail)) hkl (by omega) hkf (by rw [hks]; exact ks_sl hs (fun e he ↦ by simp [he]) (hs.slm (A := gz) (by first | ((repeat (first | exact List.mem_cons_self | refine List.mem_cons_of_mem _ ?_ | refine List.mem_append_right _ ?_)); done) | fail))) hkb) ?_
        rintro v19_10 w19_10 ⟨sv19, rfl, hy⟩
        replace hs := hs.call hy
        clear hy
        try simp only [List.cons_append, List.nil_append, List.append_nil] at hs
        rw [hkp, hb19]
        refine Z.tk (Dn := fun _ => true) (i := 10) (fun _ => ⟨_, hs, by first | (simp; done) | exact fun e he => List.mem_append_right _ he⟩) ?_
        refine Z.tb [11, 12, 13, 14, 15] (by kernel_rfl) rfl ⟨_, hs, by first | (simp; done) | exact fun e he => List.mem_append_right _ he⟩ rfl ?_
        refine Z.td (by rfl) (by kernel_rfl) ?_
        refine Z.only [18] rfl ?_
        refine Z.nthen ?_
        refine Z.seq ?_
        refine Z.region ?_
        refine Z.lb 1 rfl ?_
        refine Z.le rfl trivial ?_
        refine Z.ZO.call rfl rfl (by rfl) rfl rfl Try.call24 rfl (num23 _ _) ?_
        rintro v20_1 w20_1 ⟨rfl, hy⟩
        replace hs := hs.call hy
        clear hy
        try simp only [List.cons_append, List.nil_append, List.append_nil] at hs
        refine Z.lb 2 rfl ?_
        refine Z.yes (s := 168) (b := true) rfl ((by simp)) rfl ?_
        refine Z.le rfl (by exact ⟨rfl, trivial⟩) ?_
        refine Z.ZO.call rfl rfl (by rfl) rfl rfl Try.call10 rfl (works23 _) ?_
        rintro v20_4 w20_4 ⟨rfl, hy⟩
        replace hs := hs.call hy
        clear hy
        try simp only [List.cons_append, List.nil_append, List.append_nil] at hs
        refine Z.l rfl rfl (by rfl) (Z.keepS hs) (Z.Yd.pickT rfl rfl) ?_
        refine Z.lb 1 rfl ?_
        refine Z.lnil ?_
        refine Z.only [6] rfl ?_
        refine Z.nthen ?_
        refine Z.ret ?_
        -- ret#1
        refine Z.out1 (by exact ⟨rfl, trivial⟩) ?_
        exact ⟨_, rfl, rfl, hs.sub (List.nil_sublist _)⟩
      · skip
        refine Z.ZO.litL (T' := 47) [(0, 2)] [.int .i64 0, .slice none 0 0] rfl rfl (by rfl) rfl rfl (by intro W; kernel_rfl) hs ?_
        clear hs; intro g160 w160 hs
        refine Z.tk (Dn := fun _ => true) (i := 8) (fun _ => ⟨_, hs, by first | (simp; done) | exact fun e he => List.mem_append_right _ he⟩) ?_
        refine Z.tn 2 rfl rfl (by kernel_rfl) rfl trivial ?_
        refine Z.ZO.call rfl rfl (by rfl) rfl rfl Try.call11 rfl (copied23 A n c ps _ (hx.st (hs.sub (List.nil_sublist _))) hl (by omega) s3 (fun q hq ↦ (hB q hq).st (hs.sub (List.nil_sublist _)))) ?_
        rintro v19_2 w19_2 ⟨qs, hpq, hy⟩
        replace hs := hs.call hy
        clear hy
        try simp only [List.cons_append, List.nil_append, List.append_nil] at hs
        obtain ⟨Ac, cc, rfl, -, -, -⟩ := SX.row_slv hs (j := 0) rfl
        have epl : (qs.map Prod.fst).map MpV.plain = r := by rw [plainQ_fst, hpq, hr]
        have hql : qs.length = n := by have h7 := congrArg List.length hpq; simp [plainQ] at h7; omega
        refine Z.tk (Dn := fun _ => true) (i := 2) (fun _ => ⟨_, hs, by first | (simp; done) | exact fun e he => List.mem_append_right _ he⟩) ?_
        rw [ey] at hs
        first
        | replace hs : SX.St w [] _ (_ :: _ :: _ :: rowsQ qs) := hs
        | replace hs : SX.St w [] _ (_ :: _ :: _ :: rowsQ qs) := SX.St.untail1 hs
        | replace hs : SX.St w [] _ (_ :: _ :: _ :: rowsQ qs) := SX.St.untail hs
        refine Z.tn 9 rfl rfl (by kernel_rfl) rfl trivial ?_
        refine Z.ZO.append (i0 := Try.t47) (size := 2) (bytes := 32) rfl rfl (by rfl) hs Try.underlying22 (by kernel_rfl) rfl rfl rfl rfl (by decide) rfl rfl (by first | exact SX.at0 | exact SX.at1 | exact SX.at2 | exact SX.at3 | exact SX.at4 | exact SX.at5 | exact Z.at6 | exact Z.at7 | exact Z.at8 | exact Z.at9 | exact Z.at10 | exact Z.at11 | exact Z.at12) (by first | exact SX.at0 | exact SX.at1 | exact SX.at2 | exact SX.at3 | exact SX.at4 | exact SX.at5 | exact Z.at6 | exact Z.at7 | exact Z.at8 | exact Z.at9 | exact Z.at10 | exact Z.at11 | exact Z.at12) (by first | rfl | simp) (by simp [Value.oneCell']) (by decide) (by unfold maxLen; omega) (by omega) ?_
        clear hs; intro g161 cap161 w161 hs
        simp only [List.set_cons_zero, List.set_cons_succ, List.eraseIdx_cons_zero, List.eraseIdx_cons_succ] at hs
        refine Z.tk (Dn := fun _ => true) (i := 9) (fun _ => ⟨_, hs, by first | (simp; done) | exact fun e he => List.mem_append_right _ he⟩) ?_
        obtain ⟨gz, hgz⟩ : ∃ gz : Option Addr, gz = some ⟨g158, 0, none⟩ := ⟨_, rfl⟩
        obtain ⟨ks, hks⟩ : ∃ ks, ks = qs.map Prod.fst ++ [exZ ch gz ys] := ⟨_, rfl⟩
        have hkl : ks.length = qs.length + 1 := by rw [hks]; simp
        have hkp : ks.map MpV.plain = r ++ [(ch, ys)] := by rw [hks, List.map_append, epl]; rfl
        have hkc : cellsQ qs ++ [.int .i64 ch, .slice gz ys.length ys.length] = ks.flatMap MpV.cells := by rw [hks, List.flatMap_append, cellsQ_fst]; rfl
        have hkf : ∀ q ∈ ks, q.l.length ≤ 100000 := by
          rw [hks]
          intro q hq
          rcases List.mem_append.1 hq with h | h
          · exact plain_all (P := fun p => p.2.length ≤ 100000) hpq s3 q h
          · exact exZ_f (by omega) q h
        have hkb : ∀ q ∈ ks, ∀ y ∈ q.l, 0 ≤ y ∧ y < 256 := by
          rw [hks]
          intro q hq
          rcases List.mem_append.1 hq with h | h
          · exact plain_all (P := fun p => ∀ y ∈ p.2, 0 ≤ y ∧ y < 256) hpq hby q h
          · exact exZ_by (zero_by hyz) q h
        rw [← hgz, hkc] at hs
        refine Z.tn 10 rfl rfl (by kernel_rfl) rfl trivial ?_
        refine Z.ZO.call rfl rfl (by rfl) rfl rfl Try.call12 rfl (mc_Build size _ _ _ ks _ (hs.slm (by first | ((repeat (first | exact List.mem_cons_self | refine List.mem_cons_of_mem _ ?_ | refine List.mem_append_right _ ?_)); done) | fail)) hkl (by omega) hkf (by rw [hks]; exact ks_sl hs (fun e he ↦ by simp [he]) (hs.slm (A := gz) (by first | ((repeat (first | exact List.mem_cons_self | refine List.mem_cons_of_mem _ ?_ | refine List.mem_append_right _ ?_)); done) | fail))) hkb) ?_
        rintro v19_10 w19_10 ⟨sv19, rfl, hy⟩
        replace hs := hs.call hy
        clear hy
        try simp only [List.cons_append, List.nil_append, List.append_nil] at hs
        rw [hkp, hb19]
        refine Z.tk (Dn := fun _ => true) (i := 10) (fun _ => ⟨_, hs, by first | (simp; done) | exact fun e he => List.mem_append_right _ he⟩) ?_
        refine Z.tb [11, 12, 13, 14, 15] (by kernel_rfl) rfl ⟨_, hs, by first | (simp; done) | exact fun e he => List.mem_append_right _ he⟩ rfl ?_
        refine Z.td (by rfl) (by kernel_rfl) ?_
        refine Z.only [18] rfl ?_
        refine Z.nthen ?_
        refine Z.seq ?_
        refine Z.region ?_
        refine Z.lb 1 rfl ?_
        refine Z.le rfl trivial ?_
        refine Z.ZO.call rfl rfl (by rfl) rfl rfl Try.call24 rfl (num23 _ _) ?_
        rintro v20_1 w20_1 ⟨rfl, hy⟩
        replace hs := hs.call hy
        clear hy
        try simp only [List.cons_append, List.nil_append, List.append_nil] at hs
        refine Z.lb 2 rfl ?_
        refine Z.yes (s := 168) (b := true) rfl ((by simp)) rfl ?_
        refine Z.le rfl (by exact ⟨rfl, trivial⟩) ?_
        refine Z.ZO.call rfl rfl (by rfl) rfl rfl Try.call10 rfl (works23 _) ?_
        rintro v20_4 w20_4 ⟨rfl, hy⟩
        replace hs := hs.call hy
        clear hy
        try simp only [List.cons_append, List.nil_append, List.append_nil] at hs
        refine Z.l rfl rfl (by rfl) (Z.keepS hs) (Z.Yd.pickT rfl rfl) ?_
        refine Z.lb 1 rfl ?_
        refine Z.lnil ?_
        refine Z.only [6] rfl ?_
        refine Z.nthen ?_
        refine Z.ret ?_
        -- ret#2
        refine Z.out1 (by exact ⟨rfl, trivial⟩) ?_
        exact ⟨_, rfl, rfl, hs.sub (List.nil_sublist _)⟩
set_option maxHeartbeats 2000000 in
set_option maxRecDepth 100000 in
theorem holds_fit (size ch : Int) (A : Option Addr) (n c : Nat) (ps : List MpV) (w : World) (hx : Sl w A (ps.flatMap MpV.cells)) (hl : ps.length = n) (hB : ∀ q ∈ ps, Sl w q.B (ints .u8 q.l)) (hby : ∀ q ∈ ps, ∀ y ∈ q.l, 0 ≤ y ∧ y < 256)
    (r : List Prt) (hr : ps.map MpV.plain = r) (hsm : smallP r = true) (hv : vldP false r = true) (hsz : 1 ≤ size ∧ size ≤ 4000) (hch : 1 ≤ ch ∧ ch ≤ 10) (hne : n ≠ 0) (hnd : needP r ≤ size) :
    Calls Try.prog 7 #[.int .i64 size, .slice A n c, .int .i64 ch] w (SX.Ret fun v w' => v = .bool true ∧ SX.St w [] w' []) := by
  have hs := SX.St.start w
  obtain ⟨s1, s2, s3⟩ := small_bd (by rw [hr]; exact hsm)
  have hsd : sduB ch := hch
  obtain ⟨zs, ys, hz, hyz, hyl, hzl, hzs, hb16, hb16l, hb19⟩ := holds_plain hv hsz hsd
  have ez := zero_ints hz
  have ey := zero_ints hyz
  have hok : okN r := ⟨by rw [← hr]; intro h; have h2 := congrArg List.length h; simp at h2; subst h2; simp at hl; omega, hv⟩
  have hnv : needV r = (needP r, 0) := if_pos hok
  have hb2 : (bldV size r).2 = 0 := bld_zero (by omega) hok hnd
  have hb3 := bld_len hb2
  have hpb := par_build hb2
  have hbb : ∀ x ∈ (bldV size r).1, 0 ≤ x ∧ x < 256 := by rw [← hr]; exact bld_by hby (by rw [hr]; exact hv)
  obtain ⟨bl, hbl⟩ : ∃ bl, (bldV size r).1 = bl := ⟨_, rfl⟩
  rw [hbl] at hb3 hpb hbb
  refine Z.enter Try.func7 rfl Try.ntmps7 rfl rfl ?_
  refine Z.seq ?_
  refine Z.region ?_
  refine Z.lb 1 rfl ?_
  refine Z.lnil ?_
  refine Z.only [0, 1, 2] rfl ?_
  refine Z.nthen ?_
  refine Z.seq ?_
  refine Z.seq ?_
  refine Z.region ?_
  refine Z.lb 1 rfl ?_
  refine Z.le rfl trivial ?_
  refine Z.ZO.call rfl rfl (by rfl) rfl rfl Try.call9 rfl (small23 A n c ps _ hx hl (by omega)) ?_
  rintro v1_1 w1_1 ⟨rfl, hy⟩
  replace hs := hs.call hy
  clear hy
  try simp only [List.cons_append, List.nil_append, List.append_nil] at hs
  rw [hr, hsm]
  refine Z.lb 2 rfl ?_
  refine Z.yes (s := 22) (b := false) rfl ((by simp)) rfl ?_
  refine Z.lb 1 rfl ?_
  refine Z.yes (s := 22) (b := false) rfl rfl rfl ?_
  refine Z.le rfl (by exact ⟨rfl, trivial⟩) ?_
  refine Z.ZO.call rfl rfl (by rfl) rfl rfl Try.call25 rfl (mr_valid A n c ps _ (hx.st hs) hl (by omega)) ?_
  rintro v1_5 w1_5 ⟨rfl, hy⟩
  replace hs := hs.call hy
  clear hy
  try simp only [List.cons_append, List.nil_append, List.append_nil] at hs
  rw [hr, hv]
  refine Z.lb 1 rfl ?_
  refine Z.yes (s := 22) (b := false) rfl rfl rfl ?_
  refine Z.l rfl rfl (by rfl) (Z.keepS hs) (Z.Yd.pickF rfl rfl) ?_
  refine Z.lb 16 rfl ?_
  refine Z.lnil ?_
  refine Z.only [0, 1, 2, 42] rfl ?_
  refine Z.nthen ?_
  refine Z.cond rfl (fun h => absurd h (by simp; omega)) (fun hc1 => ?_)
  refine Z.skip ?_
  refine Z.nthen ?_
  refine Z.seq ?_
  refine Z.seq ?_
  refine Z.region ?_
  refine Z.lb 1 rfl ?_
  refine Z.l rfl rfl (by rfl) (Z.keepS hs) (Z.Yd.lenS rfl Try.underlying22) ?_
  refine Z.lb 1 rfl ?_
  refine Z.lnil ?_
  refine Z.only [0, 1, 2, 46] rfl ?_
  refine Z.nthen ?_
  refine Z.cond rfl (fun hc3 => ?_) (fun h => absurd h (by simp; omega))
  refine Z.seq ?_
  refine Z.region ?_
  refine Z.lb 1 rfl ?_
  refine Z.le rfl trivial ?_
  refine Z.ZO.call rfl rfl (by rfl) rfl rfl Try.call14 rfl (mc_Need A n c ps _ (hx.st hs) hl (by omega) s3) ?_
  rintro v4_1 w4_1 ⟨rfl, hy⟩
  replace hs := hs.call hy
  clear hy
  try simp only [List.cons_append, List.nil_append, List.append_nil] at hs
  rw [hr, hnv]
  refine Z.lb 5 rfl ?_
  refine Z.lnil ?_
  refine Z.only [0, 1, 2, 7, 8] rfl ?_
  refine Z.nthen ?_
  refine Z.seq ?_
  refine Z.region ?_
  refine Z.lb 2 rfl ?_
  refine Z.le rfl trivial ?_
  refine Z.ZO.call rfl rfl (by rfl) rfl rfl Try.call12 rfl (mc_Build size A n c ps _ (hx.st hs) hl (by omega) s3 (fun q hq ↦ (hB q hq).st hs) hby) ?_
  rintro v5_2 w5_2 ⟨sv1, rfl, hy⟩
  replace hs := hs.call hy
  clear hy
  try simp only [List.cons_append, List.nil_append, List.append_nil] at hs
  rw [hr, hb2]
  rw [hr, hbl] at hs
  obtain ⟨B1, k1, rfl, -, -, -⟩ := SX.row_slv hs (j := 0) rfl
  refine Z.lb 5 rfl ?_
  refine Z.lnil ?_
  refine Z.only [0, 1, 2, 7, 8, 9, 10] rfl ?_
  refine Z.nthen ?_
  refine Z.seq ?_
  refine Z.seq ?_
  refine Z.region ?_
  refine Z.lb 1 rfl ?_
  refine Z.le rfl trivial ?_
  refine Z.ZO.call rfl rfl (by rfl) rfl rfl Try.call24 rfl (num23 _ _) ?_
  rintro v6_1 w6_1 ⟨rfl, hy⟩
  replace hs := hs.call hy
  clear hy
  try simp only [List.cons_append, List.nil_append, List.append_nil] at hs
  refine Z.lb 2 rfl ?_
  refine Z.yes (s := 61) (b := false) rfl ((by simp)) rfl ?_
  refine Z.lb 1 rfl ?_
  refine Z.yes (s := 61) (b := false) rfl rfl rfl ?_
  refine Z.le rfl (by exact ⟨rfl, trivial⟩) ?_
  refine Z.ZO.call rfl rfl (by rfl) rfl rfl Try.call24 rfl (num23 _ _) ?_
  rintro v6_5 w6_5 ⟨rfl, hy⟩
  replace hs := hs.call hy
  clear hy
  try simp only [List.cons_append, List.nil_append, List.append_nil] at hs
  refine Z.lb 2 rfl ?_
  refine Z.yes (s := 61) (b := false) rfl rfl rfl ?_
  refine Z.yes (s := 65) (b := false) rfl ((by simp)) rfl ?_
  refine Z.ls rfl rfl rfl (by rfl) ?_
  refine Z.ls rfl rfl rfl (by rfl) ?_
  refine Z.ls rfl rfl rfl (by rfl) ?_
  refine Z.ls rfl rfl rfl (by rfl) ?_
  refine Z.lsU rfl rfl rfl (by rfl) ?_
  refine Z.lsU rfl rfl rfl (by rfl) ?_
  refine Z.lsU rfl rfl rfl (by rfl) ?_
  refine Z.ls rfl rfl rfl (by rfl) ?_
  refine Z.l rfl rfl (by rfl) (Z.keepS hs) (Z.Yd.pickF rfl rfl) ?_
  refine Z.yes (s := 61) (b := false) rfl rfl rfl ?_
  refine Z.l rfl rfl (by rfl) (Z.keepS hs) (Z.Yd.pickF rfl rfl) ?_
  refine Z.lb 1 rfl ?_
  refine Z.yes (s := 76) (b := false) rfl ((by simp)) rfl ?_
  refine Z.lb 1 rfl ?_
  refine Z.yes (s := 76) (b := false) rfl rfl rfl ?_
  refine Z.le rfl (by exact ⟨rfl, trivial⟩) ?_
  refine Z.ZO.call rfl rfl (by rfl) rfl rfl Try.call24 rfl (num23 _ _) ?_
  rintro v6_20 w6_20 ⟨rfl, hy⟩
  replace hs := hs.call hy
  clear hy
  try simp only [List.cons_append, List.nil_append, List.append_nil] at hs
  refine Z.lb 2 rfl ?_
  refine Z.yes (s := 76) (b := false) rfl rfl rfl ?_
  refine Z.yes (s := 80) (b := true) rfl ((by simp)) rfl ?_
  refine Z.lb 1 rfl ?_
  refine Z.l rfl rfl (by rfl) (Z.keepS hs) (Z.Yd.lenS rfl Try.underlying26) ?_
  refine Z.lb 7 rfl ?_
  refine Z.yes (s := 80) (b := true) rfl rfl rfl ?_
  refine Z.l rfl rfl (by rfl) (Z.keepS hs) (Z.Yd.pickT rfl rfl) ?_
  refine Z.yes (s := 76) (b := false) rfl rfl rfl ?_
  refine Z.l rfl rfl (by rfl) (Z.keepS hs) (Z.Yd.pickF rfl rfl) ?_
  refine Z.lnil ?_
  refine Z.only [0, 1, 2, 9, 10, 91] rfl ?_
  refine Z.nthen ?_
  refine Z.cond rfl (fun h => absurd h (by simp <;> omega)) (fun hc6 => ?_)
  refine Z.skip ?_
  refine Z.nthen ?_
  refine Z.seq ?_
  refine Z.region ?_
  refine Z.lb 1 rfl ?_
  refine Z.le rfl trivial ?_
  refine Z.ZO.call rfl rfl (by rfl) rfl rfl Try.call24 rfl (num23 _ _) ?_
  rintro v8_1 w8_1 ⟨rfl, hy⟩
  replace hs := hs.call hy
  clear hy
  try simp only [List.cons_append, List.nil_append, List.append_nil] at hs
  refine Z.lb 1 rfl ?_
  refine Z.lnil ?_
  refine Z.only [0, 1, 2, 9, 94] rfl ?_
  refine Z.nthen ?_
  refine Z.cond rfl (fun hc8 => ?_) (fun h => absurd h (by simp))
  refine Z.seq ?_
  refine Z.region ?_
  refine Z.lb 1 rfl ?_
  refine Z.le rfl trivial ?_
  refine Z.ZO.call rfl rfl (by rfl) rfl rfl Try.call23 rfl (mc_Parse B1 _ k1 bl _ (hs.slm (A := B1) (by first | ((repeat (first | exact List.mem_cons_self | refine List.mem_cons_of_mem _ ?_ | refine List.mem_append_right _ ?_)); done) | fail)) rfl (by omega) hbb) ?_
  rintro v9_1 w9_1 ⟨qs, sv2, rfl, hpq, hy⟩
  replace hs := hs.call hy
  clear hy
  try simp only [List.cons_append, List.nil_append, List.append_nil] at hs
  rw [hpb]
  rw [hpb] at hpq
  rw [cellsQ_fst] at hs
  obtain ⟨B2, k2, rfl, -, -, -⟩ := SX.row_slv hs (j := 0) rfl
  have hpq' : plainQ qs = ps.map MpV.plain := by rw [hpq, hr]
  have epl : (qs.map Prod.fst).map MpV.plain = ps.map MpV.plain := by rw [plainQ_fst, hpq']
  have hql : qs.length = n := by have h7 := congrArg List.length hpq'; simp [plainQ] at h7; omega
  refine Z.lb 5 rfl ?_
  refine Z.lnil ?_
  refine Z.only [0, 1, 2, 11, 12] rfl ?_
  refine Z.nthen ?_
  refine Z.seq ?_
  refine Z.region ?_
  refine Z.lb 1 rfl ?_
  refine Z.le rfl trivial ?_
  refine Z.ZO.call rfl rfl (by rfl) rfl rfl Try.call24 rfl (num23 _ _) ?_
  rintro v10_1 w10_1 ⟨rfl, hy⟩
  replace hs := hs.call hy
  clear hy
  try simp only [List.cons_append, List.nil_append, List.append_nil] at hs
  refine Z.lb 2 rfl ?_
  refine Z.yes (s := 103) (b := false) rfl ((by simp)) rfl ?_
  refine Z.lb 2 rfl ?_
  refine Z.yes (s := 103) (b := false) rfl rfl rfl ?_
  refine Z.le rfl (by exact ⟨rfl, trivial⟩) ?_
  refine Z.ZO.call rfl rfl (by rfl) rfl rfl Try.call18 rfl (mr_Same B2 A _ k2 n c (qs.map Prod.fst) ps _ (hs.slm (A := B2) (by first | ((repeat (first | exact List.mem_cons_self | refine List.mem_cons_of_mem _ ?_ | refine List.mem_append_right _ ?_)); done) | fail)) (hx.st (hs.sub (List.nil_sublist _))) (by simp) hl (by omega) (rowsQ_sl hs (fun e he ↦ by simp [he])) (fun q hq ↦ (hB q hq).st (hs.sub (List.nil_sublist _))) (plain_all (P := fun p ↦ ∀ y ∈ p.2, 0 ≤ y ∧ y < 256) hpq' hby) hby) ?_
  rintro v10_6 w10_6 ⟨rfl, hy⟩
  replace hs := hs.call hy
  clear hy
  try simp only [List.cons_append, List.nil_append, List.append_nil] at hs
  rw [epl]
  refine Z.lb 1 rfl ?_
  refine Z.yes (s := 103) (b := false) rfl rfl rfl ?_
  refine Z.l rfl rfl (by rfl) (Z.keepS hs) (Z.Yd.pickF rfl rfl) ?_
  refine Z.lnil ?_
  refine Z.only [0, 1, 2, 108] rfl ?_
  refine Z.nthen ?_
  refine Z.cond rfl (fun h => absurd h (by simp)) (fun hc10 => ?_)
  refine Z.skip ?_
  refine Z.nthen ?_
  refine Z.seq ?_
  refine Z.region ?_
  refine Z.lb 2 rfl ?_
  replace hs := hs.sub (List.nil_sublist _)
  refine Z.le rfl trivial ?_
  refine Z.ZO.call rfl rfl (by rfl) rfl rfl Try.call19 rfl (mc_Fit size A n c ps _ (hx.st hs) hl (by omega) s3) ?_
  rintro v12_2 w12_2 ⟨rfl, hy⟩
  replace hs := hs.call hy
  clear hy
  try simp only [List.cons_append, List.nil_append, List.append_nil] at hs
  rw [hr, hzl]
  refine Z.lb 5 rfl ?_
  refine Z.lnil ?_
  refine Z.only [0, 1, 2, 13, 14] rfl ?_
  refine Z.nthen ?_
  refine Z.seq ?_
  refine Z.seq ?_
  refine Z.region ?_
  refine Z.lb 1 rfl ?_
  refine Z.le rfl trivial ?_
  refine Z.ZO.call rfl rfl (by rfl) rfl rfl Try.call24 rfl (num23 _ _) ?_
  rintro v13_1 w13_1 ⟨rfl, hy⟩
  replace hs := hs.call hy
  clear hy
  try simp only [List.cons_append, List.nil_append, List.append_nil] at hs
  refine Z.lb 2 rfl ?_
  refine Z.yes (s := 118) (b := false) rfl ((by simp)) rfl ?_
  refine Z.lb 2 rfl ?_
  refine Z.yes (s := 118) (b := false) rfl rfl rfl ?_
  refine Z.l rfl rfl (by rfl) (Z.keepS hs) (Z.Yd.pickF rfl rfl) ?_
  refine Z.lb 1 rfl ?_
  refine Z.yes (s := 122) (b := false) rfl ((by simp)) rfl ?_
  refine Z.lb 3 rfl ?_
  refine Z.yes (s := 122) (b := false) rfl rfl rfl ?_
  refine Z.l rfl rfl (by rfl) (Z.keepS hs) (Z.Yd.pickF rfl rfl) ?_
  refine Z.lnil ?_
  refine Z.only [0, 1, 2, 13, 126] rfl ?_
  refine Z.nthen ?_
  refine Z.cond rfl (fun h => absurd h (by simp; omega)) (fun hc13 => ?_)
  refine Z.skip ?_
  refine Z.nthen ?_
  refine Z.seq ?_
  refine Z.seq ?_
  refine Z.region ?_
  refine Z.lb 2 rfl ?_
  refine Z.lnil ?_
  refine Z.only [0, 1, 2, 13, 128] rfl ?_
  refine Z.nthen ?_
  refine Z.cutt (ι := Unit) [0, 1, 2, 13] rfl (fun _ => []) (fun _ wr => SX.St w [] wr []) ?_ ?_
  · skip
    refine Z.cond rfl (fun hc15 => ?_) (fun hc15 => ?_)
    · first
        | (exfalso; simp at hc15 <;> omega)
        | (
          (try simp at hc15)
          have hz1 : 1 ≤ zs.length := by omega
          refine Z.seq ?_
          refine Z.drawL [] (fun _ => true) mixed hs ?_
          clear hs; intro wd16 hs
          refine Z.tb [0, 1, 3, 4] (by kernel_rfl) rfl ⟨_, hs, by first | (simp; done) | exact fun e he => List.mem_append_right _ he⟩ rfl ?_
          refine Z.fork2 2 5 rfl rfl rfl (by kernel_rfl) rfl rfl trivial trivial ?_ ?_
          · skip
            refine Z.ZO.call rfl rfl (by rfl) rfl rfl Try.call11 rfl (copied23 A n c ps _ (hx.st (hs.sub (List.nil_sublist _))) hl (by omega) s3 (fun q hq ↦ (hB q hq).st (hs.sub (List.nil_sublist _)))) ?_
            rintro v16_2 w16_2 ⟨qs, hpq, hy⟩
            replace hs := hs.call hy
            clear hy
            try simp only [List.cons_append, List.nil_append, List.append_nil] at hs
            obtain ⟨Ac, cc, rfl, -, -, -⟩ := SX.row_slv hs (j := 0) rfl
            have epl : (qs.map Prod.fst).map MpV.plain = r := by rw [plainQ_fst, hpq, hr]
            have hql : qs.length = n := by have h7 := congrArg List.length hpq; simp [plainQ] at h7; omega
            refine Z.tk (Dn := fun _ => true) (i := 2) (fun _ => ⟨_, hs, by first | (simp; done) | exact fun e he => List.mem_append_right _ he⟩) ?_
            refine Z.tn 5 rfl rfl (by kernel_rfl) rfl trivial ?_
            refine Z.ZO.make1 (m := zs.length) (i0 := Try.t5) (bytes := 1) rfl rfl (by rfl) hs Try.underlying26 (by kernel_rfl) rfl rfl rfl rfl rfl rfl (by omega) (by unfold maxLen; omega) ?_
            clear hs; intro g135 w135 hs
            refine Z.tk (Dn := fun _ => true) (i := 5) (fun _ => ⟨_, hs, by first | (simp; done) | exact fun e he => List.mem_append_right _ he⟩) ?_
            refine Z.t 6 rfl rfl rfl (by rfl) (by kernel_rfl) ⟨_, hs, by first | (simp; done) | exact fun e he => List.mem_append_right _ he⟩ (Z.Yd.buildL [(0, 1), (1, 1)] [.int .i64 0, .slice none 0 0] rfl rfl (by intro w; kernel_rfl)) ?_
            refine Z.tn 7 rfl rfl (by kernel_rfl) rfl trivial ?_
            refine Z.ZO.litL (T' := 47) [(0, 2)] [.int .i64 0, .slice none 0 0] rfl rfl (by rfl) rfl rfl (by intro W; kernel_rfl) hs ?_
            clear hs; intro g137 w137 hs
            refine Z.tk (Dn := fun _ => true) (i := 7) (fun _ => ⟨_, hs, by first | (simp; done) | exact fun e he => List.mem_append_right _ he⟩) ?_
            rw [ez] at hs
            first
            | replace hs : SX.St w [] _ (_ :: _ :: _ :: rowsQ qs) := hs
            | replace hs : SX.St w [] _ (_ :: _ :: _ :: rowsQ qs) := SX.St.untail1 hs
            | replace hs : SX.St w [] _ (_ :: _ :: _ :: rowsQ qs) := SX.St.untail hs
            refine Z.tn 8 rfl rfl (by kernel_rfl) rfl trivial ?_
            refine Z.ZO.append (i0 := Try.t47) (size := 2) (bytes := 32) rfl rfl (by rfl) hs Try.underlying22 (by kernel_rfl) rfl rfl rfl rfl (by decide) rfl rfl (by first | exact SX.at0 | exact SX.at1 | exact SX.at2 | exact SX.at3 | exact SX.at4 | exact SX.at5 | exact Z.at6 | exact Z.at7 | exact Z.at8 | exact Z.at9 | exact Z.at10 | exact Z.at11 | exact Z.at12) (by first | exact SX.at0 | exact SX.at1 | exact SX.at2 | exact SX.at3 | exact SX.at4 | exact SX.at5 | exact Z.at6 | exact Z.at7 | exact Z.at8 | exact Z.at9 | exact Z.at10 | exact Z.at11 | exact Z.at12) (by first | rfl | simp) (by simp [Value.oneCell']) (by decide) (by unfold maxLen; omega) (by omega) ?_
            clear hs; intro g138 cap138 w138 hs
            simp only [List.set_cons_zero, List.set_cons_succ, List.eraseIdx_cons_zero, List.eraseIdx_cons_succ] at hs
            refine Z.tk (Dn := fun _ => true) (i := 8) (fun _ => ⟨_, hs, by first | (simp; done) | exact fun e he => List.mem_append_right _ he⟩) ?_
            obtain ⟨gz, hgz⟩ : ∃ gz : Option Addr, gz = some ⟨g135, 0, none⟩ := ⟨_, rfl⟩
            obtain ⟨ks, hks⟩ : ∃ ks, ks = qs.map Prod.fst ++ [exZ ch gz zs] := ⟨_, rfl⟩
            have hkl : ks.length = qs.length + 1 := by rw [hks]; simp
            have hkp : ks.map MpV.plain = r ++ [(ch, zs)] := by rw [hks, List.map_append, epl]; rfl
            have hkc : cellsQ qs ++ [.int .i64 ch, .slice gz zs.length zs.length] = ks.flatMap MpV.cells := by rw [hks, List.flatMap_append, cellsQ_fst]; rfl
            have hkf : ∀ q ∈ ks, q.l.length ≤ 100000 := by
              rw [hks]
              intro q hq
              rcases List.mem_append.1 hq with h | h
              · exact plain_all (P := fun p => p.2.length ≤ 100000) hpq s3 q h
              · exact exZ_f (by omega) q h
            have hkb : ∀ q ∈ ks, ∀ y ∈ q.l, 0 ≤ y ∧ y < 256 := by
              rw [hks]
              intro q hq
              rcases List.mem_append.1 hq with h | h
              · exact plain_all (P := fun p => ∀ y ∈ p.2, 0 ≤ y ∧ y < 256) hpq hby q h
              · exact exZ_by (zero_by hz) q h
            rw [← hgz, hkc] at hs
            refine Z.tn 9 rfl rfl (by kernel_rfl) rfl trivial ?_
            refine Z.ZO.call rfl rfl (by rfl) rfl rfl Try.call12 rfl (mc_Build size _ _ _ ks _ (hs.slm (by first | ((repeat (first | exact List.mem_cons_self | refine List.mem_cons_of_mem _ ?_ | refine List.mem_append_right _ ?_)); done) | fail)) hkl (by omega) hkf (by rw [hks]; exact ks_sl hs (fun e he ↦ by simp [he]) (hs.slm (A := gz) (by first | ((repeat (first | exact List.mem_cons_self | refine List.mem_cons_of_mem _ ?_ | refine List.mem_append_right _ ?_)); done) | fail))) hkb) ?_
            rintro v16_9 w16_9 ⟨sv16, rfl, hy⟩
            replace hs := hs.call hy
            clear hy
            try simp only [List.cons_append, List.nil_append, List.append_nil] at hs
            rw [hkp, hb16 hz1]
            rw [hkp] at hs
            have hbl16 := hb16l hz1
            obtain ⟨B16, k16, rfl, -, -, -⟩ := SX.row_slv hs (j := 0) rfl
            refine Z.tk (Dn := fun _ => true) (i := 9) (fun _ => ⟨_, hs, by first | (simp; done) | exact fun e he => List.mem_append_right _ he⟩) ?_
            refine Z.tb [10, 11, 12, 13, 14] (by kernel_rfl) rfl ⟨_, hs, by first | (simp; done) | exact fun e he => List.mem_append_right _ he⟩ rfl ?_
            refine Z.td (by rfl) (by kernel_rfl) ?_
            refine Z.only [0, 1, 2, 13, 15, 16] rfl ?_
            refine Z.nthen ?_
            refine Z.seq ?_
            refine Z.region ?_
            refine Z.lb 1 rfl ?_
            refine Z.le rfl trivial ?_
            refine Z.ZO.call rfl rfl (by rfl) rfl rfl Try.call24 rfl (num23 _ _) ?_
            rintro v17_1 w17_1 ⟨rfl, hy⟩
            replace hs := hs.call hy
            clear hy
            try simp only [List.cons_append, List.nil_append, List.append_nil] at hs
            refine Z.lb 2 rfl ?_
            refine Z.yes (s := 145) (b := false) rfl ((by simp)) rfl ?_
            refine Z.lb 1 rfl ?_
            refine Z.l rfl rfl (by rfl) (Z.keepS hs) (Z.Yd.lenS rfl Try.underlying26) ?_
            refine Z.lb 2 rfl ?_
            refine Z.yes (s := 145) (b := false) rfl rfl rfl ?_
            refine Z.l rfl rfl (by rfl) (Z.keepS hs) (Z.Yd.pickF rfl rfl) ?_
            refine Z.lnil ?_
            refine Z.only [0, 1, 2, 13, 150] rfl ?_
            refine Z.nthen ?_
            refine Z.cond rfl (fun h => absurd h (by simp; omega)) (fun hc17 => ?_)
            refine Z.skip ?_
            refine Z.nthen ?_
            exact Z.meet () (by refine ⟨?_, ?_, ?_, ?_, trivial⟩ <;> (first | rfl | (refine Z.lookv rfl ?_; simp; done) | (refine Z.lookv rfl ?_; simp; omega))) (hs.sub (List.nil_sublist _))
          · skip
            refine Z.ZO.make1 (m := zs.length) (i0 := Try.t5) (bytes := 1) rfl rfl (by rfl) hs Try.underlying26 (by kernel_rfl) rfl rfl rfl rfl rfl rfl (by omega) (by unfold maxLen; omega) ?_
            clear hs; intro g135 w135 hs
            refine Z.tk (Dn := fun _ => true) (i := 5) (fun _ => ⟨_, hs, by first | (simp; done) | exact fun e he => List.mem_append_right _ he⟩) ?_
            refine Z.t 6 rfl rfl rfl (by rfl) (by kernel_rfl) ⟨_, hs, by first | (simp; done) | exact fun e he => List.mem_append_right _ he⟩ (Z.Yd.buildL [(0, 1), (1, 1)] [.int .i64 0, .slice none 0 0] rfl rfl (by intro w; kernel_rfl)) ?_
            refine Z.fork2 2 7 rfl rfl rfl (by kernel_rfl) rfl rfl trivial trivial ?_ ?_
            · skip
              refine Z.ZO.call rfl rfl (by rfl) rfl rfl Try.call11 rfl (copied23 A n c ps _ (hx.st (hs.sub (List.nil_sublist _))) hl (by omega) s3 (fun q hq ↦ (hB q hq).st (hs.sub (List.nil_sublist _)))) ?_
              rintro v16_2 w16_2 ⟨qs, hpq, hy⟩
              replace hs := hs.call hy
              clear hy
              try simp only [List.cons_append, List.nil_append, List.append_nil] at hs
              obtain ⟨Ac, cc, rfl, -, -, -⟩ := SX.row_slv hs (j := 0) rfl
              have epl : (qs.map Prod.fst).map MpV.plain = r := by rw [plainQ_fst, hpq, hr]
              have hql : qs.length = n := by have h7 := congrArg List.length hpq; simp [plainQ] at h7; omega
              refine Z.tk (Dn := fun _ => true) (i := 2) (fun _ => ⟨_, hs, by first | (simp; done) | exact fun e he => List.mem_append_right _ he⟩) ?_
              refine Z.tn 7 rfl rfl (by kernel_rfl) rfl trivial ?_
              refine Z.ZO.litL (T' := 47) [(0, 2)] [.int .i64 0, .slice none 0 0] rfl rfl (by rfl) rfl rfl (by intro W; kernel_rfl) hs ?_
              clear hs; intro g137 w137 hs
              refine Z.tk (Dn := fun _ => true) (i := 7) (fun _ => ⟨_, hs, by first | (simp; done) | exact fun e he => List.mem_append_right _ he⟩) ?_
              rw [ez] at hs
              first
              | replace hs : SX.St w [] _ (_ :: _ :: _ :: rowsQ qs) := hs
              | replace hs : SX.St w [] _ (_ :: _ :: _ :: rowsQ qs) := SX.St.untail1 hs
              | replace hs : SX.St w [] _ (_ :: _ :: _ :: rowsQ qs) := SX.St.untail hs
              refine Z.tn 8 rfl rfl (by kernel_rfl) rfl trivial ?_
              refine Z.ZO.append (i0 := Try.t47) (size := 2) (bytes := 32) rfl rfl (by rfl) hs Try.underlying22 (by kernel_rfl) rfl rfl rfl rfl (by decide) rfl rfl (by first | exact SX.at0 | exact SX.at1 | exact SX.at2 | exact SX.at3 | exact SX.at4 | exact SX.at5 | exact Z.at6 | exact Z.at7 | exact Z.at8 | exact Z.at9 | exact Z.at10 | exact Z.at11 | exact Z.at12) (by first | exact SX.at0 | exact SX.at1 | exact SX.at2 | exact SX.at3 | exact SX.at4 | exact SX.at5 | exact Z.at6 | exact Z.at7 | exact Z.at8 | exact Z.at9 | exact Z.at10 | exact Z.at11 | exact Z.at12) (by first | rfl | simp) (by simp [Value.oneCell']) (by decide) (by unfold maxLen; omega) (by omega) ?_
              clear hs; intro g138 cap138 w138 hs
              simp only [List.set_cons_zero, List.set_cons_succ, List.eraseIdx_cons_zero, List.eraseIdx_cons_succ] at hs
              refine Z.tk (Dn := fun _ => true) (i := 8) (fun _ => ⟨_, hs, by first | (simp; done) | exact fun e he => List.mem_append_right _ he⟩) ?_
              obtain ⟨gz, hgz⟩ : ∃ gz : Option Addr, gz = some ⟨g135, 0, none⟩ := ⟨_, rfl⟩
              obtain ⟨ks, hks⟩ : ∃ ks, ks = qs.map Prod.fst ++ [exZ ch gz zs] := ⟨_, rfl⟩
              have hkl : ks.length = qs.length + 1 := by rw [hks]; simp
              have hkp : ks.map MpV.plain = r ++ [(ch, zs)] := by rw [hks, List.map_append, epl]; rfl
              have hkc : cellsQ qs ++ [.int .i64 ch, .slice gz zs.length zs.length] = ks.flatMap MpV.cells := by rw [hks, List.flatMap_append, cellsQ_fst]; rfl
              have hkf : ∀ q ∈ ks, q.l.length ≤ 100000 := by
                rw [hks]
                intro q hq
                rcases List.mem_append.1 hq with h | h
                · exact plain_all (P := fun p => p.2.length ≤ 100000) hpq s3 q h
                · exact exZ_f (by omega) q h
              have hkb : ∀ q ∈ ks, ∀ y ∈ q.l, 0 ≤ y ∧ y < 256 := by
                rw [hks]
                intro q hq
                rcases List.mem_append.1 hq with h | h
                · exact plain_all (P := fun p => ∀ y ∈ p.2, 0 ≤ y ∧ y < 256) hpq hby q h
                · exact exZ_by (zero_by hz) q h
              rw [← hgz, hkc] at hs
              refine Z.tn 9 rfl rfl (by kernel_rfl) rfl trivial ?_
              refine Z.ZO.call rfl rfl (by rfl) rfl rfl Try.call12 rfl (mc_Build size _ _ _ ks _ (hs.slm (by first | ((repeat (first | exact List.mem_cons_self | refine List.mem_cons_of_mem _ ?_ | refine List.mem_append_right _ ?_)); done) | fail)) hkl (by omega) hkf (by rw [hks]; exact ks_sl hs (fun e he ↦ by simp [he]) (hs.slm (A := gz) (by first | ((repeat (first | exact List.mem_cons_self | refine List.mem_cons_of_mem _ ?_ | refine List.mem_append_right _ ?_)); done) | fail))) hkb) ?_
              rintro v16_9 w16_9 ⟨sv16, rfl, hy⟩
              replace hs := hs.call hy
              clear hy
              try simp only [List.cons_append, List.nil_append, List.append_nil] at hs
              rw [hkp, hb16 hz1]
              rw [hkp] at hs
              have hbl16 := hb16l hz1
              obtain ⟨B16, k16, rfl, -, -, -⟩ := SX.row_slv hs (j := 0) rfl
              refine Z.tk (Dn := fun _ => true) (i := 9) (fun _ => ⟨_, hs, by first | (simp; done) | exact fun e he => List.mem_append_right _ he⟩) ?_
              refine Z.tb [10, 11, 12, 13, 14] (by kernel_rfl) rfl ⟨_, hs, by first | (simp; done) | exact fun e he => List.mem_append_right _ he⟩ rfl ?_
              refine Z.td (by rfl) (by kernel_rfl) ?_
              refine Z.only [0, 1, 2, 13, 15, 16] rfl ?_
              refine Z.nthen ?_
              refine Z.seq ?_
              refine Z.region ?_
              refine Z.lb 1 rfl ?_
              refine Z.le rfl trivial ?_
              refine Z.ZO.call rfl rfl (by rfl) rfl rfl Try.call24 rfl (num23 _ _) ?_
              rintro v17_1 w17_1 ⟨rfl, hy⟩
              replace hs := hs.call hy
              clear hy
              try simp only [List.cons_append, List.nil_append, List.append_nil] at hs
              refine Z.lb 2 rfl ?_
              refine Z.yes (s := 145) (b := false) rfl ((by simp)) rfl ?_
              refine Z.lb 1 rfl ?_
              refine Z.l rfl rfl (by rfl) (Z.keepS hs) (Z.Yd.lenS rfl Try.underlying26) ?_
              refine Z.lb 2 rfl ?_
              refine Z.yes (s := 145) (b := false) rfl rfl rfl ?_
              refine Z.l rfl rfl (by rfl) (Z.keepS hs) (Z.Yd.pickF rfl rfl) ?_
              refine Z.lnil ?_
              refine Z.only [0, 1, 2, 13, 150] rfl ?_
              refine Z.nthen ?_
              refine Z.cond rfl (fun h => absurd h (by simp; omega)) (fun hc17 => ?_)
              refine Z.skip ?_
              refine Z.nthen ?_
              exact Z.meet () (by refine ⟨?_, ?_, ?_, ?_, trivial⟩ <;> (first | rfl | (refine Z.lookv rfl ?_; simp; done) | (refine Z.lookv rfl ?_; simp; omega))) (hs.sub (List.nil_sublist _))
            · skip
              refine Z.ZO.litL (T' := 47) [(0, 2)] [.int .i64 0, .slice none 0 0] rfl rfl (by rfl) rfl rfl (by intro W; kernel_rfl) hs ?_
              clear hs; intro g137 w137 hs
              refine Z.tk (Dn := fun _ => true) (i := 7) (fun _ => ⟨_, hs, by first | (simp; done) | exact fun e he => List.mem_append_right _ he⟩) ?_
              refine Z.tn 2 rfl rfl (by kernel_rfl) rfl trivial ?_
              refine Z.ZO.call rfl rfl (by rfl) rfl rfl Try.call11 rfl (copied23 A n c ps _ (hx.st (hs.sub (List.nil_sublist _))) hl (by omega) s3 (fun q hq ↦ (hB q hq).st (hs.sub (List.nil_sublist _)))) ?_
              rintro v16_2 w16_2 ⟨qs, hpq, hy⟩
              replace hs := hs.call hy
              clear hy
              try simp only [List.cons_append, List.nil_append, List.append_nil] at hs
              obtain ⟨Ac, cc, rfl, -, -, -⟩ := SX.row_slv hs (j := 0) rfl
              have epl : (qs.map Prod.fst).map MpV.plain = r := by rw [plainQ_fst, hpq, hr]
              have hql : qs.length = n := by have h7 := congrArg List.length hpq; simp [plainQ] at h7; omega
              refine Z.tk (Dn := fun _ => true) (i := 2) (fun _ => ⟨_, hs, by first | (simp; done) | exact fun e he => List.mem_append_right _ he⟩) ?_
              rw [ez] at hs
              first
              | replace hs : SX.St w [] _ (_ :: _ :: _ :: rowsQ qs) := hs
              | replace hs : SX.St w [] _ (_ :: _ :: _ :: rowsQ qs) := SX.St.untail1 hs
              | replace hs : SX.St w [] _ (_ :: _ :: _ :: rowsQ qs) := SX.St.untail hs
              refine Z.tn 8 rfl rfl (by kernel_rfl) rfl trivial ?_
              refine Z.ZO.append (i0 := Try.t47) (size := 2) (bytes := 32) rfl rfl (by rfl) hs Try.underlying22 (by kernel_rfl) rfl rfl rfl rfl (by decide) rfl rfl (by first | exact SX.at0 | exact SX.at1 | exact SX.at2 | exact SX.at3 | exact SX.at4 | exact SX.at5 | exact Z.at6 | exact Z.at7 | exact Z.at8 | exact Z.at9 | exact Z.at10 | exact Z.at11 | exact Z.at12) (by first | exact SX.at0 | exact SX.at1 | exact SX.at2 | exact SX.at3 | exact SX.at4 | exact SX.at5 | exact Z.at6 | exact Z.at7 | exact Z.at8 | exact Z.at9 | exact Z.at10 | exact Z.at11 | exact Z.at12) (by first | rfl | simp) (by simp [Value.oneCell']) (by decide) (by unfold maxLen; omega) (by omega) ?_
              clear hs; intro g138 cap138 w138 hs
              simp only [List.set_cons_zero, List.set_cons_succ, List.eraseIdx_cons_zero, List.eraseIdx_cons_succ] at hs
              refine Z.tk (Dn := fun _ => true) (i := 8) (fun _ => ⟨_, hs, by first | (simp; done) | exact fun e he => List.mem_append_right _ he⟩) ?_
              obtain ⟨gz, hgz⟩ : ∃ gz : Option Addr, gz = some ⟨g135, 0, none⟩ := ⟨_, rfl⟩
              obtain ⟨ks, hks⟩ : ∃ ks, ks = qs.map Prod.fst ++ [exZ ch gz zs] := ⟨_, rfl⟩
              have hkl : ks.length = qs.length + 1 := by rw [hks]; simp
              have hkp : ks.map MpV.plain = r ++ [(ch, zs)] := by rw [hks, List.map_append, epl]; rfl
              have hkc : cellsQ qs ++ [.int .i64 ch, .slice gz zs.length zs.length] = ks.flatMap MpV.cells := by rw [hks, List.flatMap_append, cellsQ_fst]; rfl
              have hkf : ∀ q ∈ ks, q.l.length ≤ 100000 := by
                rw [hks]
                intro q hq
                rcases List.mem_append.1 hq with h | h
                · exact plain_all (P := fun p => p.2.length ≤ 100000) hpq s3 q h
                · exact exZ_f (by omega) q h
              have hkb : ∀ q ∈ ks, ∀ y ∈ q.l, 0 ≤ y ∧ y < 256 := by
                rw [hks]
                intro q hq
                rcases List.mem_append.1 hq with h | h
                · exact plain_all (P := fun p => ∀ y ∈ p.2, 0 ≤ y ∧ y < 256) hpq hby q h
                · exact exZ_by (zero_by hz) q h
              rw [← hgz, hkc] at hs
              refine Z.tn 9 rfl rfl (by kernel_rfl) rfl trivial ?_
              refine Z.ZO.call rfl rfl (by rfl) rfl rfl Try.call12 rfl (mc_Build size _ _ _ ks _ (hs.slm (by first | ((repeat (first | exact List.mem_cons_self | refine List.mem_cons_of_mem _ ?_ | refine List.mem_append_right _ ?_)); done) | fail)) hkl (by omega) hkf (by rw [hks]; exact ks_sl hs (fun e he ↦ by simp [he]) (hs.slm (A := gz) (by first | ((repeat (first | exact List.mem_cons_self | refine List.mem_cons_of_mem _ ?_ | refine List.mem_append_right _ ?_)); done) | fail))) hkb) ?_
              rintro v16_9 w16_9 ⟨sv16, rfl, hy⟩
              replace hs := hs.call hy
              clear hy
              try simp only [List.cons_append, List.nil_append, List.append_nil] at hs
              rw [hkp, hb16 hz1]
              rw [hkp] at hs
              have hbl16 := hb16l hz1
              obtain ⟨B16, k16, rfl, -, -, -⟩ := SX.row_slv hs (j := 0) rfl
              refine Z.tk (Dn := fun _ => true) (i := 9) (fun _ => ⟨_, hs, by first | (simp; done) | exact fun e he => List.mem_append_right _ he⟩) ?_
              refine Z.tb [10, 11, 12, 13, 14] (by kernel_rfl) rfl ⟨_, hs, by first | (simp; done) | exact fun e he => List.mem_append_right _ he⟩ rfl ?_
              refine Z.td (by rfl) (by kernel_rfl) ?_
              refine Z.only [0, 1, 2, 13, 15, 16] rfl ?_
              refine Z.nthen ?_
              refine Z.seq ?_
              refine Z.region ?_
              refine Z.lb 1 rfl ?_
              refine Z.le rfl trivial ?_
              refine Z.ZO.call rfl rfl (by rfl) rfl rfl Try.call24 rfl (num23 _ _) ?_
              rintro v17_1 w17_1 ⟨rfl, hy⟩
              replace hs := hs.call hy
              clear hy
              try simp only [List.cons_append, List.nil_append, List.append_nil] at hs
              refine Z.lb 2 rfl ?_
              refine Z.yes (s := 145) (b := false) rfl ((by simp)) rfl ?_
              refine Z.lb 1 rfl ?_
              refine Z.l rfl rfl (by rfl) (Z.keepS hs) (Z.Yd.lenS rfl Try.underlying26) ?_
              refine Z.lb 2 rfl ?_
              refine Z.yes (s := 145) (b := false) rfl rfl rfl ?_
              refine Z.l rfl rfl (by rfl) (Z.keepS hs) (Z.Yd.pickF rfl rfl) ?_
              refine Z.lnil ?_
              refine Z.only [0, 1, 2, 13, 150] rfl ?_
              refine Z.nthen ?_
              refine Z.cond rfl (fun h => absurd h (by simp; omega)) (fun hc17 => ?_)
              refine Z.skip ?_
              refine Z.nthen ?_
              exact Z.meet () (by refine ⟨?_, ?_, ?_, ?_, trivial⟩ <;> (first | rfl | (refine Z.lookv rfl ?_; simp; done) | (refine Z.lookv rfl ?_; simp; omega))) (hs.sub (List.nil_sublist _))
          )
    · first
        | (exfalso; simp at hc15 <;> omega)
        | (
          (try simp at hc15)
          refine Z.skip ?_
          refine Z.nthen ?_
          exact Z.meet () (by refine ⟨?_, ?_, ?_, ?_, trivial⟩ <;> (first | rfl | (refine Z.lookv rfl ?_; simp; done) | (refine Z.lookv rfl ?_; simp; omega))) (hs.sub (List.nil_sublist _))
          )
  · clear hs
    rintro _ w19 hs
    refine Z.only [0, 1, 2, 13] rfl ?_
    refine Z.seq ?_
    refine Z.drawL [] (fun _ => true) mixed hs ?_
    clear hs; intro wd19 hs
    refine Z.tb [0, 1, 3, 4] (by kernel_rfl) rfl ⟨_, hs, by first | (simp; done) | exact fun e he => List.mem_append_right _ he⟩ rfl ?_
    refine Z.t 5 rfl rfl rfl (by rfl) (by kernel_rfl) ⟨_, hs, by first | (simp; done) | exact fun e he => List.mem_append_right _ he⟩ (Z.Yd.add rfl rfl (fun hG => Z.wi64 (by first | omega | (have hG' := Z.gh rfl hG; simp at hG'; omega)))) ?_
    refine Z.fork2 2 6 rfl rfl rfl (by kernel_rfl) rfl rfl trivial trivial ?_ ?_
    · skip
      refine Z.ZO.call rfl rfl (by rfl) rfl rfl Try.call11 rfl (copied23 A n c ps _ (hx.st (hs.sub (List.nil_sublist _))) hl (by omega) s3 (fun q hq ↦ (hB q hq).st (hs.sub (List.nil_sublist _)))) ?_
      rintro v19_2 w19_2 ⟨qs, hpq, hy⟩
      replace hs := hs.call hy
      clear hy
      try simp only [List.cons_append, List.nil_append, List.append_nil] at hs
      obtain ⟨Ac, cc, rfl, -, -, -⟩ := SX.row_slv hs (j := 0) rfl
      have epl : (qs.map Prod.fst).map MpV.plain = r := by rw [plainQ_fst, hpq, hr]
      have hql : qs.length = n := by have h7 := congrArg List.length hpq; simp [plainQ] at h7; omega
      refine Z.tk (Dn := fun _ => true) (i := 2) (fun _ => ⟨_, hs, by first | (simp; done) | exact fun e he => List.mem_append_right _ he⟩) ?_
      rw [show (zs.length : Int) + 1 = (ys.length : Int) from by omega]
      refine Z.tn 6 rfl rfl (by kernel_rfl) rfl trivial ?_
      refine Z.ZO.make1 (m := ys.length) (i0 := Try.t5) (bytes := 1) rfl rfl (by rfl) hs Try.underlying26 (by kernel_rfl) rfl rfl rfl rfl rfl rfl (by omega) (by unfold maxLen; omega) ?_
      clear hs; intro g158 w158 hs
      refine Z.tk (Dn := fun _ => true) (i := 6) (fun _ => ⟨_, hs, by first | (simp; done) | exact fun e he => List.mem_append_right _ he⟩) ?_
      refine Z.t 7 rfl rfl rfl (by rfl) (by kernel_rfl) ⟨_, hs, by first | (simp; done) | exact fun e he => List.mem_append_right _ he⟩ (Z.Yd.buildL [(0, 1), (1, 1)] [.int .i64 0, .slice none 0 0] rfl rfl (by intro w; kernel_rfl)) ?_
      refine Z.tn 8 rfl rfl (by kernel_rfl) rfl trivial ?_
      refine Z.ZO.litL (T' := 47) [(0, 2)] [.int .i64 0, .slice none 0 0] rfl rfl (by rfl) rfl rfl (by intro W; kernel_rfl) hs ?_
      clear hs; intro g160 w160 hs
      refine Z.tk (Dn := fun _ => true) (i := 8) (fun _ => ⟨_, hs, by first | (simp; done) | exact fun e he => List.mem_append_right _ he⟩) ?_
      rw [ey] at hs
      first
      | replace hs : SX.St w [] _ (_ :: _ :: _ :: rowsQ qs) := hs
      | replace hs : SX.St w [] _ (_ :: _ :: _ :: rowsQ qs) := SX.St.untail1 hs
      | replace hs : SX.St w [] _ (_ :: _ :: _ :: rowsQ qs) := SX.St.untail hs
      refine Z.tn 9 rfl rfl (by kernel_rfl) rfl trivial ?_
      refine Z.ZO.append (i0 := Try.t47) (size := 2) (bytes := 32) rfl rfl (by rfl) hs Try.underlying22 (by kernel_rfl) rfl rfl rfl rfl (by decide) rfl rfl (by first | exact SX.at0 | exact SX.at1 | exact SX.at2 | exact SX.at3 | exact SX.at4 | exact SX.at5 | exact Z.at6 | exact Z.at7 | exact Z.at8 | exact Z.at9 | exact Z.at10 | exact Z.at11 | exact Z.at12) (by first | exact SX.at0 | exact SX.at1 | exact SX.at2 | exact SX.at3 | exact SX.at4 | exact SX.at5 | exact Z.at6 | exact Z.at7 | exact Z.at8 | exact Z.at9 | exact Z.at10 | exact Z.at11 | exact Z.at12) (by first | rfl | simp) (by simp [Value.oneCell']) (by decide) (by unfold maxLen; omega) (by omega) ?_
      clear hs; intro g161 cap161 w161 hs
      simp only [List.set_cons_zero, List.set_cons_succ, List.eraseIdx_cons_zero, List.eraseIdx_cons_succ] at hs
      refine Z.tk (Dn := fun _ => true) (i := 9) (fun _ => ⟨_, hs, by first | (simp; done) | exact fun e he => List.mem_append_right _ he⟩) ?_
      obtain ⟨gz, hgz⟩ : ∃ gz : Option Addr, gz = some ⟨g158, 0, none⟩ := ⟨_, rfl⟩
      obtain ⟨ks, hks⟩ : ∃ ks, ks = qs.map Prod.fst ++ [exZ ch gz ys] := ⟨_, rfl⟩
      have hkl : ks.length = qs.length + 1 := by rw [hks]; simp
      have hkp : ks.map MpV.plain = r ++ [(ch, ys)] := by rw [hks, List.map_append, epl]; rfl
      have hkc : cellsQ qs ++ [.int .i64 ch, .slice gz ys.length ys.length] = ks.flatMap MpV.cells := by rw [hks, List.flatMap_append, cellsQ_fst]; rfl
      have hkf : ∀ q ∈ ks, q.l.length ≤ 100000 := by
        rw [hks]
        intro q hq
        rcases List.mem_append.1 hq with h | h
        · exact plain_all (P := fun p => p.2.length ≤ 100000) hpq s3 q h
        · exact exZ_f (by omega) q h
      have hkb : ∀ q ∈ ks, ∀ y ∈ q.l, 0 ≤ y ∧ y < 256 := by
        rw [hks]
        intro q hq
        rcases List.mem_append.1 hq with h | h
        · exact plain_all (P := fun p => ∀ y ∈ p.2, 0 ≤ y ∧ y < 256) hpq hby q h
        · exact exZ_by (zero_by hyz) q h
      rw [← hgz, hkc] at hs
      refine Z.tn 10 rfl rfl (by kernel_rfl) rfl trivial ?_
      refine Z.ZO.call rfl rfl (by rfl) rfl rfl Try.call12 rfl (mc_Build size _ _ _ ks _ (hs.slm (by first | ((repeat (first | exact List.mem_cons_self | refine List.mem_cons_of_mem _ ?_ | refine List.mem_append_right _ ?_)); done) | fail)) hkl (by omega) hkf (by rw [hks]; exact ks_sl hs (fun e he ↦ by simp [he]) (hs.slm (A := gz) (by first | ((repeat (first | exact List.mem_cons_self | refine List.mem_cons_of_mem _ ?_ | refine List.mem_append_right _ ?_)); done) | fail))) hkb) ?_
      rintro v19_10 w19_10 ⟨sv19, rfl, hy⟩
      replace hs := hs.call hy
      clear hy
      try simp only [List.cons_append, List.nil_append, List.append_nil] at hs
      rw [hkp, hb19]
      refine Z.tk (Dn := fun _ => true) (i := 10) (fun _ => ⟨_, hs, by first | (simp; done) | exact fun e he => List.mem_append_right _ he⟩) ?_
      refine Z.tb [11, 12, 13, 14, 15] (by kernel_rfl) rfl ⟨_, hs, by first | (simp; done) | exact fun e he => List.mem_append_right _ he⟩ rfl ?_
      refine Z.td (by rfl) (by kernel_rfl) ?_
      refine Z.only [18] rfl ?_
      refine Z.nthen ?_
      refine Z.seq ?_
      refine Z.region ?_
      refine Z.lb 1 rfl ?_
      refine Z.le rfl trivial ?_
      refine Z.ZO.call rfl rfl (by rfl) rfl rfl Try.call24 rfl (num23 _ _) ?_
      rintro v20_1 w20_1 ⟨rfl, hy⟩
      replace hs := hs.call hy
      clear hy
      try simp only [List.cons_append, List.nil_append, List.append_nil] at hs
      refine Z.lb 2 rfl ?_
      refine Z.yes (s := 168) (b := true) rfl ((by simp)) rfl ?_
      refine Z.le rfl (by exact ⟨rfl, trivial⟩) ?_
      refine Z.ZO.call rfl rfl (by rfl) rfl rfl Try.call10 rfl (works23 _) ?_
      rintro v20_4 w20_4 ⟨rfl, hy⟩
      replace hs := hs.call hy
      clear hy
      try simp only [List.cons_append, List.nil_append, List.append_nil] at hs
      refine Z.l rfl rfl (by rfl) (Z.keepS hs) (Z.Yd.pickT rfl rfl) ?_
      refine Z.lb 1 rfl ?_
      refine Z.lnil ?_
      refine Z.only [6] rfl ?_
      refine Z.nthen ?_
      refine Z.ret ?_
      -- ret#0
      refine Z.out1 (by exact ⟨rfl, trivial⟩) ?_
      exact ⟨_, rfl, rfl, hs.sub (List.nil_sublist _)⟩
    · skip
      rw [show (zs.length : Int) + 1 = (ys.length : Int) from by omega]
      refine Z.ZO.make1 (m := ys.length) (i0 := Try.t5) (bytes := 1) rfl rfl (by rfl) hs Try.underlying26 (by kernel_rfl) rfl rfl rfl rfl rfl rfl (by omega) (by unfold maxLen; omega) ?_
      clear hs; intro g158 w158 hs
      refine Z.tk (Dn := fun _ => true) (i := 6) (fun _ => ⟨_, hs, by first | (simp; done) | exact fun e he => List.mem_append_right _ he⟩) ?_
      refine Z.t 7 rfl rfl rfl (by rfl) (by kernel_rfl) ⟨_, hs, by first | (simp; done) | exact fun e he => List.mem_append_right _ he⟩ (Z.Yd.buildL [(0, 1), (1, 1)] [.int .i64 0, .slice none 0 0] rfl rfl (by intro w; kernel_rfl)) ?_
      refine Z.fork2 2 8 rfl rfl rfl (by kernel_rfl) rfl rfl trivial trivial ?_ ?_
      · skip
        refine Z.ZO.call rfl rfl (by rfl) rfl rfl Try.call11 rfl (copied23 A n c ps _ (hx.st (hs.sub (List.nil_sublist _))) hl (by omega) s3 (fun q hq ↦ (hB q hq).st (hs.sub (List.nil_sublist _)))) ?_
        rintro v19_2 w19_2 ⟨qs, hpq, hy⟩
        replace hs := hs.call hy
        clear hy
        try simp only [List.cons_append, List.nil_append, List.append_nil] at hs
        obtain ⟨Ac, cc, rfl, -, -, -⟩ := SX.row_slv hs (j := 0) rfl
        have epl : (qs.map Prod.fst).map MpV.plain = r := by rw [plainQ_fst, hpq, hr]
        have hql : qs.length = n := by have h7 := congrArg List.length hpq; simp [plainQ] at h7; omega
        refine Z.tk (Dn := fun _ => true) (i := 2) (fun _ => ⟨_, hs, by first | (simp; done) | exact fun e he => List.mem_append_right _ he⟩) ?_
        refine Z.tn 8 rfl rfl (by kernel_rfl) rfl trivial ?_
        refine Z.ZO.litL (T' := 47) [(0, 2)] [.int .i64 0, .slice none 0 0] rfl rfl (by rfl) rfl rfl (by intro W; kernel_rfl) hs ?_
        clear hs; intro g160 w160 hs
        refine Z.tk (Dn := fun _ => true) (i := 8) (fun _ => ⟨_, hs, by first | (simp; done) | exact fun e he => List.mem_append_right _ he⟩) ?_
        rw [ey] at hs
        first
        | replace hs : SX.St w [] _ (_ :: _ :: _ :: rowsQ qs) := hs
        | replace hs : SX.St w [] _ (_ :: _ :: _ :: rowsQ qs) := SX.St.untail1 hs
        | replace hs : SX.St w [] _ (_ :: _ :: _ :: rowsQ qs) := SX.St.untail hs
        refine Z.tn 9 rfl rfl (by kernel_rfl) rfl trivial ?_
        refine Z.ZO.append (i0 := Try.t47) (size := 2) (bytes := 32) rfl rfl (by rfl) hs Try.underlying22 (by kernel_rfl) rfl rfl rfl rfl (by decide) rfl rfl (by first | exact SX.at0 | exact SX.at1 | exact SX.at2 | exact SX.at3 | exact SX.at4 | exact SX.at5 | exact Z.at6 | exact Z.at7 | exact Z.at8 | exact Z.at9 | exact Z.at10 | exact Z.at11 | exact Z.at12) (by first | exact SX.at0 | exact SX.at1 | exact SX.at2 | exact SX.at3 | exact SX.at4 | exact SX.at5 | exact Z.at6 | exact Z.at7 | exact Z.at8 | exact Z.at9 | exact Z.at10 | exact Z.at11 | exact Z.at12) (by first | rfl | simp) (by simp [Value.oneCell']) (by decide) (by unfold maxLen; omega) (by omega) ?_
        clear hs; intro g161 cap161 w161 hs
        simp only [List.set_cons_zero, List.set_cons_succ, List.eraseIdx_cons_zero, List.eraseIdx_cons_succ] at hs
        refine Z.tk (Dn := fun _ => true) (i := 9) (fun _ => ⟨_, hs, by first | (simp; done) | exact fun e he => List.mem_append_right _ he⟩) ?_
        obtain ⟨gz, hgz⟩ : ∃ gz : Option Addr, gz = some ⟨g158, 0, none⟩ := ⟨_, rfl⟩
        obtain ⟨ks, hks⟩ : ∃ ks, ks = qs.map Prod.fst ++ [exZ ch gz ys] := ⟨_, rfl⟩
        have hkl : ks.length = qs.length + 1 := by rw [hks]; simp
        have hkp : ks.map MpV.plain = r ++ [(ch, ys)] := by rw [hks, List.map_append, epl]; rfl
        have hkc : cellsQ qs ++ [.int .i64 ch, .slice gz ys.length ys.length] = ks.flatMap MpV.cells := by rw [hks, List.flatMap_append, cellsQ_fst]; rfl
        have hkf : ∀ q ∈ ks, q.l.length ≤ 100000 := by
          rw [hks]
          intro q hq
          rcases List.mem_append.1 hq with h | h
          · exact plain_all (P := fun p => p.2.length ≤ 100000) hpq s3 q h
          · exact exZ_f (by omega) q h
        have hkb : ∀ q ∈ ks, ∀ y ∈ q.l, 0 ≤ y ∧ y < 256 := by
          rw [hks]
          intro q hq
          rcases List.mem_append.1 hq with h | h
          · exact plain_all (P := fun p => ∀ y ∈ p.2, 0 ≤ y ∧ y < 256) hpq hby q h
          · exact exZ_by (zero_by hyz) q h
        rw [← hgz, hkc] at hs
        refine Z.tn 10 rfl rfl (by kernel_rfl) rfl trivial ?_
        refine Z.ZO.call rfl rfl (by rfl) rfl rfl Try.call12 rfl (mc_Build size _ _ _ ks _ (hs.slm (by first | ((repeat (first | exact List.mem_cons_self | refine List.mem_cons_of_mem _ ?_ | refine List.mem_append_right _ ?_)); done) | fail)) hkl (by omega) hkf (by rw [hks]; exact ks_sl hs (fun e he ↦ by simp [he]) (hs.slm (A := gz) (by first | ((repeat (first | exact List.mem_cons_self | refine List.mem_cons_of_mem _ ?_ | refine List.mem_append_right _ ?_)); done) | fail))) hkb) ?_
        rintro v19_10 w19_10 ⟨sv19, rfl, hy⟩
        replace hs := hs.call hy
        clear hy
        try simp only [List.cons_append, List.nil_append, List.append_nil] at hs
        rw [hkp, hb19]
        refine Z.tk (Dn := fun _ => true) (i := 10) (fun _ => ⟨_, hs, by first | (simp; done) | exact fun e he => List.mem_append_right _ he⟩) ?_
        refine Z.tb [11, 12, 13, 14, 15] (by kernel_rfl) rfl ⟨_, hs, by first | (simp; done) | exact fun e he => List.mem_append_right _ he⟩ rfl ?_
        refine Z.td (by rfl) (by kernel_rfl) ?_
        refine Z.only [18] rfl ?_
        refine Z.nthen ?_
        refine Z.seq ?_
        refine Z.region ?_
        refine Z.lb 1 rfl ?_
        refine Z.le rfl trivial ?_
        refine Z.ZO.call rfl rfl (by rfl) rfl rfl Try.call24 rfl (num23 _ _) ?_
        rintro v20_1 w20_1 ⟨rfl, hy⟩
        replace hs := hs.call hy
        clear hy
        try simp only [List.cons_append, List.nil_append, List.append_nil] at hs
        refine Z.lb 2 rfl ?_
        refine Z.yes (s := 168) (b := true) rfl ((by simp)) rfl ?_
        refine Z.le rfl (by exact ⟨rfl, trivial⟩) ?_
        refine Z.ZO.call rfl rfl (by rfl) rfl rfl Try.call10 rfl (works23 _) ?_
        rintro v20_4 w20_4 ⟨rfl, hy⟩
        replace hs := hs.call hy
        clear hy
        try simp only [List.cons_append, List.nil_append, List.append_nil] at hs
        refine Z.l rfl rfl (by rfl) (Z.keepS hs) (Z.Yd.pickT rfl rfl) ?_
        refine Z.lb 1 rfl ?_
        refine Z.lnil ?_
        refine Z.only [6] rfl ?_
        refine Z.nthen ?_
        refine Z.ret ?_
        -- ret#1
        refine Z.out1 (by exact ⟨rfl, trivial⟩) ?_
        exact ⟨_, rfl, rfl, hs.sub (List.nil_sublist _)⟩
      · skip
        refine Z.ZO.litL (T' := 47) [(0, 2)] [.int .i64 0, .slice none 0 0] rfl rfl (by rfl) rfl rfl (by intro W; kernel_rfl) hs ?_
        clear hs; intro g160 w160 hs
        refine Z.tk (Dn := fun _ => true) (i := 8) (fun _ => ⟨_, hs, by first | (simp; done) | exact fun e he => List.mem_append_right _ he⟩) ?_
        refine Z.tn 2 rfl rfl (by kernel_rfl) rfl trivial ?_
        refine Z.ZO.call rfl rfl (by rfl) rfl rfl Try.call11 rfl (copied23 A n c ps _ (hx.st (hs.sub (List.nil_sublist _))) hl (by omega) s3 (fun q hq ↦ (hB q hq).st (hs.sub (List.nil_sublist _)))) ?_
        rintro v19_2 w19_2 ⟨qs, hpq, hy⟩
        replace hs := hs.call hy
        clear hy
        try simp only [List.cons_append, List.nil_append, List.append_nil] at hs
        obtain ⟨Ac, cc, rfl, -, -, -⟩ := SX.row_slv hs (j := 0) rfl
        have epl : (qs.map Prod.fst).map MpV.plain = r := by rw [plainQ_fst, hpq, hr]
        have hql : qs.length = n := by have h7 := congrArg List.length hpq; simp [plainQ] at h7; omega
        refine Z.tk (Dn := fun _ => true) (i := 2) (fun _ => ⟨_, hs, by first | (simp; done) | exact fun e he => List.mem_append_right _ he⟩) ?_
        rw [ey] at hs
        first
        | replace hs : SX.St w [] _ (_ :: _ :: _ :: rowsQ qs) := hs
        | replace hs : SX.St w [] _ (_ :: _ :: _ :: rowsQ qs) := SX.St.untail1 hs
        | replace hs : SX.St w [] _ (_ :: _ :: _ :: rowsQ qs) := SX.St.untail hs
        refine Z.tn 9 rfl rfl (by kernel_rfl) rfl trivial ?_
        refine Z.ZO.append (i0 := Try.t47) (size := 2) (bytes := 32) rfl rfl (by rfl) hs Try.underlying22 (by kernel_rfl) rfl rfl rfl rfl (by decide) rfl rfl (by first | exact SX.at0 | exact SX.at1 | exact SX.at2 | exact SX.at3 | exact SX.at4 | exact SX.at5 | exact Z.at6 | exact Z.at7 | exact Z.at8 | exact Z.at9 | exact Z.at10 | exact Z.at11 | exact Z.at12) (by first | exact SX.at0 | exact SX.at1 | exact SX.at2 | exact SX.at3 | exact SX.at4 | exact SX.at5 | exact Z.at6 | exact Z.at7 | exact Z.at8 | exact Z.at9 | exact Z.at10 | exact Z.at11 | exact Z.at12) (by first | rfl | simp) (by simp [Value.oneCell']) (by decide) (by unfold maxLen; omega) (by omega) ?_
        clear hs; intro g161 cap161 w161 hs
        simp only [List.set_cons_zero, List.set_cons_succ, List.eraseIdx_cons_zero, List.eraseIdx_cons_succ] at hs
        refine Z.tk (Dn := fun _ => true) (i := 9) (fun _ => ⟨_, hs, by first | (simp; done) | exact fun e he => List.mem_append_right _ he⟩) ?_
        obtain ⟨gz, hgz⟩ : ∃ gz : Option Addr, gz = some ⟨g158, 0, none⟩ := ⟨_, rfl⟩
        obtain ⟨ks, hks⟩ : ∃ ks, ks = qs.map Prod.fst ++ [exZ ch gz ys] := ⟨_, rfl⟩
        have hkl : ks.length = qs.length + 1 := by rw [hks]; simp
        have hkp : ks.map MpV.plain = r ++ [(ch, ys)] := by rw [hks, List.map_append, epl]; rfl
        have hkc : cellsQ qs ++ [.int .i64 ch, .slice gz ys.length ys.length] = ks.flatMap MpV.cells := by rw [hks, List.flatMap_append, cellsQ_fst]; rfl
        have hkf : ∀ q ∈ ks, q.l.length ≤ 100000 := by
          rw [hks]
          intro q hq
          rcases List.mem_append.1 hq with h | h
          · exact plain_all (P := fun p => p.2.length ≤ 100000) hpq s3 q h
          · exact exZ_f (by omega) q h
        have hkb : ∀ q ∈ ks, ∀ y ∈ q.l, 0 ≤ y ∧ y < 256 := by
          rw [hks]
          intro q hq
          rcases List.mem_append.1 hq with h | h
          · exact plain_all (P := fun p => ∀ y ∈ p.2, 0 ≤ y ∧ y < 256) hpq hby q h
          · exact exZ_by (zero_by hyz) q h
        rw [← hgz, hkc] at hs
        refine Z.tn 10 rfl rfl (by kernel_rfl) rfl trivial ?_
        refine Z.ZO.call rfl rfl (by rfl) rfl rfl Try.call12 rfl (mc_Build size _ _ _ ks _ (hs.slm (by first | ((repeat (first | exact List.mem_cons_self | refine List.mem_cons_of_mem _ ?_ | refine List.mem_append_right _ ?_)); done) | fail)) hkl (by omega) hkf (by rw [hks]; exact ks_sl hs (fun e he ↦ by simp [he]) (hs.slm (A := gz) (by first | ((repeat (first | exact List.mem_cons_self | refine List.mem_cons_of_mem _ ?_ | refine List.mem_append_right _ ?_)); done) | fail))) hkb) ?_
        rintro v19_10 w19_10 ⟨sv19, rfl, hy⟩
        replace hs := hs.call hy
        clear hy
        try simp only [List.cons_append, List.nil_append, List.append_nil] at hs
        rw [hkp, hb19]
        refine Z.tk (Dn := fun _ => true) (i := 10) (fun _ => ⟨_, hs, by first | (simp; done) | exact fun e he => List.mem_append_right _ he⟩) ?_
        refine Z.tb [11, 12, 13, 14, 15] (by kernel_rfl) rfl ⟨_, hs, by first | (simp; done) | exact fun e he => List.mem_append_right _ he⟩ rfl ?_
        refine Z.td (by rfl) (by kernel_rfl) ?_
        refine Z.only [18] rfl ?_
        refine Z.nthen ?_
        refine Z.seq ?_
        refine Z.region ?_
        refine Z.lb 1 rfl ?_
        refine Z.le rfl trivial ?_
        refine Z.ZO.call rfl rfl (by rfl) rfl rfl Try.call24 rfl (num23 _ _) ?_
        rintro v20_1 w20_1 ⟨rfl, hy⟩
        replace hs := hs.call hy
        clear hy
        try simp only [List.cons_append, List.nil_append, List.append_nil] at hs
        refine Z.lb 2 rfl ?_
        refine Z.yes (s := 168) (b := true) rfl ((by simp)) rfl ?_
        refine Z.le rfl (by exact ⟨rfl, trivial⟩) ?_
        refine Z.ZO.call rfl rfl (by rfl) rfl rfl Try.call10 rfl (works23 _) ?_
        rintro v20_4 w20_4 ⟨rfl, hy⟩
        replace hs := hs.call hy
        clear hy
        try simp only [List.cons_append, List.nil_append, List.append_nil] at hs
        refine Z.l rfl rfl (by rfl) (Z.keepS hs) (Z.Yd.pickT rfl rfl) ?_
        refine Z.lb 1 rfl ?_
        refine Z.lnil ?_
        refine Z.only [6] rfl ?_
        refine Z.nthen ?_
        refine Z.ret ?_
        -- ret#2
        refine Z.out1 (by exact ⟨rfl, trivial⟩) ?_
        exact ⟨_, rfl, rfl, hs.sub (List.nil_sublist _)⟩
set_option maxHeartbeats 2000000 in
set_option maxRecDepth 100000 in
theorem holds_long (size ch : Int) (A : Option Addr) (n c : Nat) (ps : List MpV) (w : World) (hx : Sl w A (ps.flatMap MpV.cells)) (hl : ps.length = n) (hB : ∀ q ∈ ps, Sl w q.B (ints .u8 q.l)) (hby : ∀ q ∈ ps, ∀ y ∈ q.l, 0 ≤ y ∧ y < 256)
    (r : List Prt) (hr : ps.map MpV.plain = r) (hsm : smallP r = true) (hv : vldP false r = true) (hsz : 1 ≤ size ∧ size ≤ 4000) (hch : 1 ≤ ch ∧ ch ≤ 10) (hne : n ≠ 0) (hnd : ¬ needP r ≤ size) :
    Calls Try.prog 7 #[.int .i64 size, .slice A n c, .int .i64 ch] w (SX.Ret fun v w' => v = .bool true ∧ SX.St w [] w' []) := by
  have hs := SX.St.start w
  obtain ⟨s1, s2, s3⟩ := small_bd (by rw [hr]; exact hsm)
  have hsd : sduB ch := hch
  obtain ⟨zs, ys, hz, hyz, hyl, hzl, hzs, hb16, hb16l, hb19⟩ := holds_plain hv hsz hsd
  have ez := zero_ints hz
  have ey := zero_ints hyz
  have hok : okN r := ⟨by rw [← hr]; intro h; have h2 := congrArg List.length h; simp at h2; subst h2; simp at hl; omega, hv⟩
  have hnv : needV r = (needP r, 0) := if_pos hok
  have hb1 : bldV size r = ([], 4) := bld_long ⟨by omega, hok⟩ (by omega)
  refine Z.enter Try.func7 rfl Try.ntmps7 rfl rfl ?_
  refine Z.seq ?_
  refine Z.region ?_
  refine Z.lb 1 rfl ?_
  refine Z.lnil ?_
  refine Z.only [0, 1, 2] rfl ?_
  refine Z.nthen ?_
  refine Z.seq ?_
  refine Z.seq ?_
  refine Z.region ?_
  refine Z.lb 1 rfl ?_
  refine Z.le rfl trivial ?_
  refine Z.ZO.call rfl rfl (by rfl) rfl rfl Try.call9 rfl (small23 A n c ps _ hx hl (by omega)) ?_
  rintro v1_1 w1_1 ⟨rfl, hy⟩
  replace hs := hs.call hy
  clear hy
  try simp only [List.cons_append, List.nil_append, List.append_nil] at hs
  rw [hr, hsm]
  refine Z.lb 2 rfl ?_
  refine Z.yes (s := 22) (b := false) rfl ((by simp)) rfl ?_
  refine Z.lb 1 rfl ?_
  refine Z.yes (s := 22) (b := false) rfl rfl rfl ?_
  refine Z.le rfl (by exact ⟨rfl, trivial⟩) ?_
  refine Z.ZO.call rfl rfl (by rfl) rfl rfl Try.call25 rfl (mr_valid A n c ps _ (hx.st hs) hl (by omega)) ?_
  rintro v1_5 w1_5 ⟨rfl, hy⟩
  replace hs := hs.call hy
  clear hy
  try simp only [List.cons_append, List.nil_append, List.append_nil] at hs
  rw [hr, hv]
  refine Z.lb 1 rfl ?_
  refine Z.yes (s := 22) (b := false) rfl rfl rfl ?_
  refine Z.l rfl rfl (by rfl) (Z.keepS hs) (Z.Yd.pickF rfl rfl) ?_
  refine Z.lb 16 rfl ?_
  refine Z.lnil ?_
  refine Z.only [0, 1, 2, 42] rfl ?_
  refine Z.nthen ?_
  refine Z.cond rfl (fun h => absurd h (by simp; omega)) (fun hc1 => ?_)
  refine Z.skip ?_
  refine Z.nthen ?_
  refine Z.seq ?_
  refine Z.seq ?_
  refine Z.region ?_
  refine Z.lb 1 rfl ?_
  refine Z.l rfl rfl (by rfl) (Z.keepS hs) (Z.Yd.lenS rfl Try.underlying22) ?_
  refine Z.lb 1 rfl ?_
  refine Z.lnil ?_
  refine Z.only [0, 1, 2, 46] rfl ?_
  refine Z.nthen ?_
  refine Z.cond rfl (fun hc3 => ?_) (fun h => absurd h (by simp; omega))
  refine Z.seq ?_
  refine Z.region ?_
  refine Z.lb 1 rfl ?_
  refine Z.le rfl trivial ?_
  refine Z.ZO.call rfl rfl (by rfl) rfl rfl Try.call14 rfl (mc_Need A n c ps _ (hx.st hs) hl (by omega) s3) ?_
  rintro v4_1 w4_1 ⟨rfl, hy⟩
  replace hs := hs.call hy
  clear hy
  try simp only [List.cons_append, List.nil_append, List.append_nil] at hs
  rw [hr, hnv]
  refine Z.lb 5 rfl ?_
  refine Z.lnil ?_
  refine Z.only [0, 1, 2, 7, 8] rfl ?_
  refine Z.nthen ?_
  refine Z.seq ?_
  refine Z.region ?_
  refine Z.lb 2 rfl ?_
  refine Z.le rfl trivial ?_
  refine Z.ZO.call rfl rfl (by rfl) rfl rfl Try.call12 rfl (mc_Build size A n c ps _ (hx.st hs) hl (by omega) s3 (fun q hq ↦ (hB q hq).st hs) hby) ?_
  rintro v5_2 w5_2 ⟨sv1, rfl, hy⟩
  replace hs := hs.call hy
  clear hy
  try simp only [List.cons_append, List.nil_append, List.append_nil] at hs
  rw [hr, hb1]
  obtain ⟨B1, k1, rfl, -, -, -⟩ := SX.row_slv hs (j := 0) rfl
  refine Z.lb 5 rfl ?_
  refine Z.lnil ?_
  refine Z.only [0, 1, 2, 7, 8, 9, 10] rfl ?_
  refine Z.nthen ?_
  refine Z.seq ?_
  refine Z.seq ?_
  refine Z.region ?_
  refine Z.lb 1 rfl ?_
  refine Z.le rfl trivial ?_
  refine Z.ZO.call rfl rfl (by rfl) rfl rfl Try.call24 rfl (num23 _ _) ?_
  rintro v6_1 w6_1 ⟨rfl, hy⟩
  replace hs := hs.call hy
  clear hy
  try simp only [List.cons_append, List.nil_append, List.append_nil] at hs
  refine Z.lb 2 rfl ?_
  refine Z.yes (s := 61) (b := false) rfl ((by simp)) rfl ?_
  refine Z.lb 1 rfl ?_
  refine Z.yes (s := 61) (b := false) rfl rfl rfl ?_
  refine Z.le rfl (by exact ⟨rfl, trivial⟩) ?_
  refine Z.ZO.call rfl rfl (by rfl) rfl rfl Try.call24 rfl (num23 _ _) ?_
  rintro v6_5 w6_5 ⟨rfl, hy⟩
  replace hs := hs.call hy
  clear hy
  try simp only [List.cons_append, List.nil_append, List.append_nil] at hs
  refine Z.lb 2 rfl ?_
  refine Z.yes (s := 61) (b := false) rfl rfl rfl ?_
  refine Z.yes (s := 65) (b := true) rfl ((by simp)) rfl ?_
  refine Z.lb 1 rfl ?_
  refine Z.yes (s := 65) (b := true) rfl rfl rfl ?_
  refine Z.le rfl (by exact ⟨rfl, trivial⟩) ?_
  refine Z.ZO.call rfl rfl (by rfl) rfl rfl Try.call24 rfl (num23 _ _) ?_
  rintro v6_9 w6_9 ⟨rfl, hy⟩
  replace hs := hs.call hy
  clear hy
  try simp only [List.cons_append, List.nil_append, List.append_nil] at hs
  refine Z.lb 2 rfl ?_
  refine Z.yes (s := 65) (b := true) rfl rfl rfl ?_
  refine Z.yes (s := 69) (b := false) rfl ((by simp)) rfl ?_
  refine Z.lb 3 rfl ?_
  refine Z.yes (s := 69) (b := false) rfl rfl rfl ?_
  refine Z.l rfl rfl (by rfl) (Z.keepS hs) (Z.Yd.pickF rfl rfl) ?_
  refine Z.yes (s := 65) (b := true) rfl rfl rfl ?_
  refine Z.l rfl rfl (by rfl) (Z.keepS hs) (Z.Yd.pickT rfl rfl) ?_
  refine Z.yes (s := 61) (b := false) rfl rfl rfl ?_
  refine Z.l rfl rfl (by rfl) (Z.keepS hs) (Z.Yd.pickF rfl rfl) ?_
  refine Z.lb 1 rfl ?_
  refine Z.yes (s := 76) (b := false) rfl ((by simp; omega)) rfl ?_
  refine Z.lb 1 rfl ?_
  refine Z.yes (s := 76) (b := false) rfl rfl rfl ?_
  refine Z.le rfl (by exact ⟨rfl, trivial⟩) ?_
  refine Z.ZO.call rfl rfl (by rfl) rfl rfl Try.call24 rfl (num23 _ _) ?_
  rintro v6_20 w6_20 ⟨rfl, hy⟩
  replace hs := hs.call hy
  clear hy
  try simp only [List.cons_append, List.nil_append, List.append_nil] at hs
  refine Z.lb 2 rfl ?_
  refine Z.yes (s := 76) (b := false) rfl rfl rfl ?_
  refine Z.yes (s := 80) (b := false) rfl ((by simp)) rfl ?_
  refine Z.ls rfl rfl rfl (by rfl) ?_
  refine Z.ls rfl rfl rfl (by rfl) ?_
  refine Z.ls rfl rfl rfl (by rfl) ?_
  refine Z.ls rfl rfl rfl (by rfl) ?_
  refine Z.ls rfl rfl rfl (by rfl) ?_
  refine Z.lsU rfl rfl rfl (by rfl) ?_
  refine Z.lsU rfl rfl rfl (by rfl) ?_
  refine Z.lsU rfl rfl rfl (by rfl) ?_
  refine Z.ls rfl rfl rfl (by rfl) ?_
  refine Z.l rfl rfl (by rfl) (Z.keepS hs) (Z.Yd.pickF rfl rfl) ?_
  refine Z.yes (s := 76) (b := false) rfl rfl rfl ?_
  refine Z.l rfl rfl (by rfl) (Z.keepS hs) (Z.Yd.pickF rfl rfl) ?_
  refine Z.lnil ?_
  refine Z.only [0, 1, 2, 9, 10, 91] rfl ?_
  refine Z.nthen ?_
  refine Z.cond rfl (fun h => absurd h (by simp <;> omega)) (fun hc6 => ?_)
  refine Z.skip ?_
  refine Z.nthen ?_
  refine Z.seq ?_
  refine Z.region ?_
  refine Z.lb 1 rfl ?_
  refine Z.le rfl trivial ?_
  refine Z.ZO.call rfl rfl (by rfl) rfl rfl Try.call24 rfl (num23 _ _) ?_
  rintro v8_1 w8_1 ⟨rfl, hy⟩
  replace hs := hs.call hy
  clear hy
  try simp only [List.cons_append, List.nil_append, List.append_nil] at hs
  refine Z.lb 1 rfl ?_
  refine Z.lnil ?_
  refine Z.only [0, 1, 2, 9, 94] rfl ?_
  refine Z.nthen ?_
  refine Z.cond rfl (fun h => absurd h (by simp)) (fun hc8 => ?_)
  refine Z.skip ?_
  refine Z.nthen ?_
  refine Z.seq ?_
  refine Z.region ?_
  refine Z.lb 2 rfl ?_
  replace hs := hs.sub (List.nil_sublist _)
  refine Z.le rfl trivial ?_
  refine Z.ZO.call rfl rfl (by rfl) rfl rfl Try.call19 rfl (mc_Fit size A n c ps _ (hx.st hs) hl (by omega) s3) ?_
  rintro v12_2 w12_2 ⟨rfl, hy⟩
  replace hs := hs.call hy
  clear hy
  try simp only [List.cons_append, List.nil_append, List.append_nil] at hs
  rw [hr, hzl]
  refine Z.lb 5 rfl ?_
  refine Z.lnil ?_
  refine Z.only [0, 1, 2, 13, 14] rfl ?_
  refine Z.nthen ?_
  refine Z.seq ?_
  refine Z.seq ?_
  refine Z.region ?_
  refine Z.lb 1 rfl ?_
  refine Z.le rfl trivial ?_
  refine Z.ZO.call rfl rfl (by rfl) rfl rfl Try.call24 rfl (num23 _ _) ?_
  rintro v13_1 w13_1 ⟨rfl, hy⟩
  replace hs := hs.call hy
  clear hy
  try simp only [List.cons_append, List.nil_append, List.append_nil] at hs
  refine Z.lb 2 rfl ?_
  refine Z.yes (s := 118) (b := false) rfl ((by simp)) rfl ?_
  refine Z.lb 2 rfl ?_
  refine Z.yes (s := 118) (b := false) rfl rfl rfl ?_
  refine Z.l rfl rfl (by rfl) (Z.keepS hs) (Z.Yd.pickF rfl rfl) ?_
  refine Z.lb 1 rfl ?_
  refine Z.yes (s := 122) (b := false) rfl ((by simp)) rfl ?_
  refine Z.lb 3 rfl ?_
  refine Z.yes (s := 122) (b := false) rfl rfl rfl ?_
  refine Z.l rfl rfl (by rfl) (Z.keepS hs) (Z.Yd.pickF rfl rfl) ?_
  refine Z.lnil ?_
  refine Z.only [0, 1, 2, 13, 126] rfl ?_
  refine Z.nthen ?_
  refine Z.cond rfl (fun h => absurd h (by simp; omega)) (fun hc13 => ?_)
  refine Z.skip ?_
  refine Z.nthen ?_
  refine Z.seq ?_
  refine Z.seq ?_
  refine Z.region ?_
  refine Z.lb 2 rfl ?_
  refine Z.lnil ?_
  refine Z.only [0, 1, 2, 13, 128] rfl ?_
  refine Z.nthen ?_
  refine Z.cutt (ι := Unit) [0, 1, 2, 13] rfl (fun _ => []) (fun _ wr => SX.St w [] wr []) ?_ ?_
  · skip
    refine Z.cond rfl (fun hc15 => ?_) (fun hc15 => ?_)
    · first
        | (exfalso; simp at hc15 <;> omega)
        | (
          (try simp at hc15)
          have hz1 : 1 ≤ zs.length := by omega
          refine Z.seq ?_
          refine Z.drawL [] (fun _ => true) mixed hs ?_
          clear hs; intro wd16 hs
          refine Z.tb [0, 1, 3, 4] (by kernel_rfl) rfl ⟨_, hs, by first | (simp; done) | exact fun e he => List.mem_append_right _ he⟩ rfl ?_
          refine Z.fork2 2 5 rfl rfl rfl (by kernel_rfl) rfl rfl trivial trivial ?_ ?_
          · skip
            refine Z.ZO.call rfl rfl (by rfl) rfl rfl Try.call11 rfl (copied23 A n c ps _ (hx.st (hs.sub (List.nil_sublist _))) hl (by omega) s3 (fun q hq ↦ (hB q hq).st (hs.sub (List.nil_sublist _)))) ?_
            rintro v16_2 w16_2 ⟨qs, hpq, hy⟩
            replace hs := hs.call hy
            clear hy
            try simp only [List.cons_append, List.nil_append, List.append_nil] at hs
            obtain ⟨Ac, cc, rfl, -, -, -⟩ := SX.row_slv hs (j := 0) rfl
            have epl : (qs.map Prod.fst).map MpV.plain = r := by rw [plainQ_fst, hpq, hr]
            have hql : qs.length = n := by have h7 := congrArg List.length hpq; simp [plainQ] at h7; omega
            refine Z.tk (Dn := fun _ => true) (i := 2) (fun _ => ⟨_, hs, by first | (simp; done) | exact fun e he => List.mem_append_right _ he⟩) ?_
            refine Z.tn 5 rfl rfl (by kernel_rfl) rfl trivial ?_
            refine Z.ZO.make1 (m := zs.length) (i0 := Try.t5) (bytes := 1) rfl rfl (by rfl) hs Try.underlying26 (by kernel_rfl) rfl rfl rfl rfl rfl rfl (by omega) (by unfold maxLen; omega) ?_
            clear hs; intro g135 w135 hs
            refine Z.tk (Dn := fun _ => true) (i := 5) (fun _ => ⟨_, hs, by first | (simp; done) | exact fun e he => List.mem_append_right _ he⟩) ?_
            refine Z.t 6 rfl rfl rfl (by rfl) (by kernel_rfl) ⟨_, hs, by first | (simp; done) | exact fun e he => List.mem_append_right _ he⟩ (Z.Yd.buildL [(0, 1), (1, 1)] [.int .i64 0, .slice none 0 0] rfl rfl (by intro w; kernel_rfl)) ?_
            refine Z.tn 7 rfl rfl (by kernel_rfl) rfl trivial ?_
            refine Z.ZO.litL (T' := 47) [(0, 2)] [.int .i64 0, .slice none 0 0] rfl rfl (by rfl) rfl rfl (by intro W; kernel_rfl) hs ?_
            clear hs; intro g137 w137 hs
            refine Z.tk (Dn := fun _ => true) (i := 7) (fun _ => ⟨_, hs, by first | (simp; done) | exact fun e he => List.mem_append_right _ he⟩) ?_
            rw [ez] at hs
            first
            | replace hs : SX.St w [] _ (_ :: _ :: _ :: rowsQ qs) := hs
            | replace hs : SX.St w [] _ (_ :: _ :: _ :: rowsQ qs) := SX.St.untail1 hs
            | replace hs : SX.St w [] _ (_ :: _ :: _ :: rowsQ qs) := SX.St.untail hs
            refine Z.tn 8 rfl rfl (by kernel_rfl) rfl trivial ?_
            refine Z.ZO.append (i0 := Try.t47) (size := 2) (bytes := 32) rfl rfl (by rfl) hs Try.underlying22 (by kernel_rfl) rfl rfl rfl rfl (by decide) rfl rfl (by first | exact SX.at0 | exact SX.at1 | exact SX.at2 | exact SX.at3 | exact SX.at4 | exact SX.at5 | exact Z.at6 | exact Z.at7 | exact Z.at8 | exact Z.at9 | exact Z.at10 | exact Z.at11 | exact Z.at12) (by first | exact SX.at0 | exact SX.at1 | exact SX.at2 | exact SX.at3 | exact SX.at4 | exact SX.at5 | exact Z.at6 | exact Z.at7 | exact Z.at8 | exact Z.at9 | exact Z.at10 | exact Z.at11 | exact Z.at12) (by first | rfl | simp) (by simp [Value.oneCell']) (by decide) (by unfold maxLen; omega) (by omega) ?_
            clear hs; intro g138 cap138 w138 hs
            simp only [List.set_cons_zero, List.set_cons_succ, List.eraseIdx_cons_zero, List.eraseIdx_cons_succ] at hs
            refine Z.tk (Dn := fun _ => true) (i := 8) (fun _ => ⟨_, hs, by first | (simp; done) | exact fun e he => List.mem_append_right _ he⟩) ?_
            obtain ⟨gz, hgz⟩ : ∃ gz : Option Addr, gz = some ⟨g135, 0, none⟩ := ⟨_, rfl⟩
            obtain ⟨ks, hks⟩ : ∃ ks, ks = qs.map Prod.fst ++ [exZ ch gz zs] := ⟨_, rfl⟩
            have hkl : ks.length = qs.length + 1 := by rw [hks]; simp
            have hkp : ks.map MpV.plain = r ++ [(ch, zs)] := by rw [hks, List.map_append, epl]; rfl
            have hkc : cellsQ qs ++ [.int .i64 ch, .slice gz zs.length zs.length] = ks.flatMap MpV.cells := by rw [hks, List.flatMap_append, cellsQ_fst]; rfl
            have hkf : ∀ q ∈ ks, q.l.length ≤ 100000 := by
              rw [hks]
              intro q hq
              rcases List.mem_append.1 hq with h | h
              · exact plain_all (P := fun p => p.2.length ≤ 100000) hpq s3 q h
              · exact exZ_f (by omega) q h
            have hkb : ∀ q ∈ ks, ∀ y ∈ q.l, 0 ≤ y ∧ y < 256 := by
              rw [hks]
              intro q hq
              rcases List.mem_append.1 hq with h | h
              · exact plain_all (P := fun p => ∀ y ∈ p.2, 0 ≤ y ∧ y < 256) hpq hby q h
              · exact exZ_by (zero_by hz) q h
            rw [← hgz, hkc] at hs
            refine Z.tn 9 rfl rfl (by kernel_rfl) rfl trivial ?_
            refine Z.ZO.call rfl rfl (by rfl) rfl rfl Try.call12 rfl (mc_Build size _ _ _ ks _ (hs.slm (by first | ((repeat (first | exact List.mem_cons_self | refine List.mem_cons_of_mem _ ?_ | refine List.mem_append_right _ ?_)); done) | fail)) hkl (by omega) hkf (by rw [hks]; exact ks_sl hs (fun e he ↦ by simp [he]) (hs.slm (A := gz) (by first | ((repeat (first | exact List.mem_cons_self | refine List.mem_cons_of_mem _ ?_ | refine List.mem_append_right _ ?_)); done) | fail))) hkb) ?_
            rintro v16_9 w16_9 ⟨sv16, rfl, hy⟩
            replace hs := hs.call hy
            clear hy
            try simp only [List.cons_append, List.nil_append, List.append_nil] at hs
            rw [hkp, hb16 hz1]
            rw [hkp] at hs
            have hbl16 := hb16l hz1
            obtain ⟨B16, k16, rfl, -, -, -⟩ := SX.row_slv hs (j := 0) rfl
            refine Z.tk (Dn := fun _ => true) (i := 9) (fun _ => ⟨_, hs, by first | (simp; done) | exact fun e he => List.mem_append_right _ he⟩) ?_
            refine Z.tb [10, 11, 12, 13, 14] (by kernel_rfl) rfl ⟨_, hs, by first | (simp; done) | exact fun e he => List.mem_append_right _ he⟩ rfl ?_
            refine Z.td (by rfl) (by kernel_rfl) ?_
            refine Z.only [0, 1, 2, 13, 15, 16] rfl ?_
            refine Z.nthen ?_
            refine Z.seq ?_
            refine Z.region ?_
            refine Z.lb 1 rfl ?_
            refine Z.le rfl trivial ?_
            refine Z.ZO.call rfl rfl (by rfl) rfl rfl Try.call24 rfl (num23 _ _) ?_
            rintro v17_1 w17_1 ⟨rfl, hy⟩
            replace hs := hs.call hy
            clear hy
            try simp only [List.cons_append, List.nil_append, List.append_nil] at hs
            refine Z.lb 2 rfl ?_
            refine Z.yes (s := 145) (b := false) rfl ((by simp)) rfl ?_
            refine Z.lb 1 rfl ?_
            refine Z.l rfl rfl (by rfl) (Z.keepS hs) (Z.Yd.lenS rfl Try.underlying26) ?_
            refine Z.lb 2 rfl ?_
            refine Z.yes (s := 145) (b := false) rfl rfl rfl ?_
            refine Z.l rfl rfl (by rfl) (Z.keepS hs) (Z.Yd.pickF rfl rfl) ?_
            refine Z.lnil ?_
            refine Z.only [0, 1, 2, 13, 150] rfl ?_
            refine Z.nthen ?_
            refine Z.cond rfl (fun h => absurd h (by simp; omega)) (fun hc17 => ?_)
            refine Z.skip ?_
            refine Z.nthen ?_
            exact Z.meet () (by refine ⟨?_, ?_, ?_, ?_, trivial⟩ <;> (first | rfl | (refine Z.lookv rfl ?_; simp; done) | (refine Z.lookv rfl ?_; simp; omega))) (hs.sub (List.nil_sublist _))
          · skip
            refine Z.ZO.make1 (m := zs.length) (i0 := Try.t5) (bytes := 1) rfl rfl (by rfl) hs Try.underlying26 (by kernel_rfl) rfl rfl rfl rfl rfl rfl (by omega) (by unfold maxLen; omega) ?_
            clear hs; intro g135 w135 hs
            refine Z.tk (Dn := fun _ => true) (i := 5) (fun _ => ⟨_, hs, by first | (simp; done) | exact fun e he => List.mem_append_right _ he⟩) ?_
            refine Z.t 6 rfl rfl rfl (by rfl) (by kernel_rfl) ⟨_, hs, by first | (simp; done) | exact fun e he => List.mem_append_right _ he⟩ (Z.Yd.buildL [(0, 1), (1, 1)] [.int .i64 0, .slice none 0 0] rfl rfl (by intro w; kernel_rfl)) ?_
            refine Z.fork2 2 7 rfl rfl rfl (by kernel_rfl) rfl rfl trivial trivial ?_ ?_
            · skip
              refine Z.ZO.call rfl rfl (by rfl) rfl rfl Try.call11 rfl (copied23 A n c ps _ (hx.st (hs.sub (List.nil_sublist _))) hl (by omega) s3 (fun q hq ↦ (hB q hq).st (hs.sub (List.nil_sublist _)))) ?_
              rintro v16_2 w16_2 ⟨qs, hpq, hy⟩
              replace hs := hs.call hy
              clear hy
              try simp only [List.cons_append, List.nil_append, List.append_nil] at hs
              obtain ⟨Ac, cc, rfl, -, -, -⟩ := SX.row_slv hs (j := 0) rfl
              have epl : (qs.map Prod.fst).map MpV.plain = r := by rw [plainQ_fst, hpq, hr]
              have hql : qs.length = n := by have h7 := congrArg List.length hpq; simp [plainQ] at h7; omega
              refine Z.tk (Dn := fun _ => true) (i := 2) (fun _ => ⟨_, hs, by first | (simp; done) | exact fun e he => List.mem_append_right _ he⟩) ?_
              refine Z.tn 7 rfl rfl (by kernel_rfl) rfl trivial ?_
              refine Z.ZO.litL (T' := 47) [(0, 2)] [.int .i64 0, .slice none 0 0] rfl rfl (by rfl) rfl rfl (by intro W; kernel_rfl) hs ?_
              clear hs; intro g137 w137 hs
              refine Z.tk (Dn := fun _ => true) (i := 7) (fun _ => ⟨_, hs, by first | (simp; done) | exact fun e he => List.mem_append_right _ he⟩) ?_
              rw [ez] at hs
              first
              | replace hs : SX.St w [] _ (_ :: _ :: _ :: rowsQ qs) := hs
              | replace hs : SX.St w [] _ (_ :: _ :: _ :: rowsQ qs) := SX.St.untail1 hs
              | replace hs : SX.St w [] _ (_ :: _ :: _ :: rowsQ qs) := SX.St.untail hs
              refine Z.tn 8 rfl rfl (by kernel_rfl) rfl trivial ?_
              refine Z.ZO.append (i0 := Try.t47) (size := 2) (bytes := 32) rfl rfl (by rfl) hs Try.underlying22 (by kernel_rfl) rfl rfl rfl rfl (by decide) rfl rfl (by first | exact SX.at0 | exact SX.at1 | exact SX.at2 | exact SX.at3 | exact SX.at4 | exact SX.at5 | exact Z.at6 | exact Z.at7 | exact Z.at8 | exact Z.at9 | exact Z.at10 | exact Z.at11 | exact Z.at12) (by first | exact SX.at0 | exact SX.at1 | exact SX.at2 | exact SX.at3 | exact SX.at4 | exact SX.at5 | exact Z.at6 | exact Z.at7 | exact Z.at8 | exact Z.at9 | exact Z.at10 | exact Z.at11 | exact Z.at12) (by first | rfl | simp) (by simp [Value.oneCell']) (by decide) (by unfold maxLen; omega) (by omega) ?_
              clear hs; intro g138 cap138 w138 hs
              simp only [List.set_cons_zero, List.set_cons_succ, List.eraseIdx_cons_zero, List.eraseIdx_cons_succ] at hs
              refine Z.tk (Dn := fun _ => true) (i := 8) (fun _ => ⟨_, hs, by first | (simp; done) | exact fun e he => List.mem_append_right _ he⟩) ?_
              obtain ⟨gz, hgz⟩ : ∃ gz : Option Addr, gz = some ⟨g135, 0, none⟩ := ⟨_, rfl⟩
              obtain ⟨ks, hks⟩ : ∃ ks, ks = qs.map Prod.fst ++ [exZ ch gz zs] := ⟨_, rfl⟩
              have hkl : ks.length = qs.length + 1 := by rw [hks]; simp
              have hkp : ks.map MpV.plain = r ++ [(ch, zs)] := by rw [hks, List.map_append, epl]; rfl
              have hkc : cellsQ qs ++ [.int .i64 ch, .slice gz zs.length zs.length] = ks.flatMap MpV.cells := by rw [hks, List.flatMap_append, cellsQ_fst]; rfl
              have hkf : ∀ q ∈ ks, q.l.length ≤ 100000 := by
                rw [hks]
                intro q hq
                rcases List.mem_append.1 hq with h | h
                · exact plain_all (P := fun p => p.2.length ≤ 100000) hpq s3 q h
                · exact exZ_f (by omega) q h
              have hkb : ∀ q ∈ ks, ∀ y ∈ q.l, 0 ≤ y ∧ y < 256 := by
                rw [hks]
                intro q hq
                rcases List.mem_append.1 hq with h | h
                · exact plain_all (P := fun p => ∀ y ∈ p.2, 0 ≤ y ∧ y < 256) hpq hby q h
                · exact exZ_by (zero_by hz) q h
              rw [← hgz, hkc] at hs
              refine Z.tn 9 rfl rfl (by kernel_rfl) rfl trivial ?_
              refine Z.ZO.call rfl rfl (by rfl) rfl rfl Try.call12 rfl (mc_Build size _ _ _ ks _ (hs.slm (by first | ((repeat (first | exact List.mem_cons_self | refine List.mem_cons_of_mem _ ?_ | refine List.mem_append_right _ ?_)); done) | fail)) hkl (by omega) hkf (by rw [hks]; exact ks_sl hs (fun e he ↦ by simp [he]) (hs.slm (A := gz) (by first | ((repeat (first | exact List.mem_cons_self | refine List.mem_cons_of_mem _ ?_ | refine List.mem_append_right _ ?_)); done) | fail))) hkb) ?_
              rintro v16_9 w16_9 ⟨sv16, rfl, hy⟩
              replace hs := hs.call hy
              clear hy
              try simp only [List.cons_append, List.nil_append, List.append_nil] at hs
              rw [hkp, hb16 hz1]
              rw [hkp] at hs
              have hbl16 := hb16l hz1
              obtain ⟨B16, k16, rfl, -, -, -⟩ := SX.row_slv hs (j := 0) rfl
              refine Z.tk (Dn := fun _ => true) (i := 9) (fun _ => ⟨_, hs, by first | (simp; done) | exact fun e he => List.mem_append_right _ he⟩) ?_
              refine Z.tb [10, 11, 12, 13, 14] (by kernel_rfl) rfl ⟨_, hs, by first | (simp; done) | exact fun e he => List.mem_append_right _ he⟩ rfl ?_
              refine Z.td (by rfl) (by kernel_rfl) ?_
              refine Z.only [0, 1, 2, 13, 15, 16] rfl ?_
              refine Z.nthen ?_
              refine Z.seq ?_
              refine Z.region ?_
              refine Z.lb 1 rfl ?_
              refine Z.le rfl trivial ?_
              refine Z.ZO.call rfl rfl (by rfl) rfl rfl Try.call24 rfl (num23 _ _) ?_
              rintro v17_1 w17_1 ⟨rfl, hy⟩
              replace hs := hs.call hy
              clear hy
              try simp only [List.cons_append, List.nil_append, List.append_nil] at hs
              refine Z.lb 2 rfl ?_
              refine Z.yes (s := 145) (b := false) rfl ((by simp)) rfl ?_
              refine Z.lb 1 rfl ?_
              refine Z.l rfl rfl (by rfl) (Z.keepS hs) (Z.Yd.lenS rfl Try.underlying26) ?_
              refine Z.lb 2 rfl ?_
              refine Z.yes (s := 145) (b := false) rfl rfl rfl ?_
              refine Z.l rfl rfl (by rfl) (Z.keepS hs) (Z.Yd.pickF rfl rfl) ?_
              refine Z.lnil ?_
              refine Z.only [0, 1, 2, 13, 150] rfl ?_
              refine Z.nthen ?_
              refine Z.cond rfl (fun h => absurd h (by simp; omega)) (fun hc17 => ?_)
              refine Z.skip ?_
              refine Z.nthen ?_
              exact Z.meet () (by refine ⟨?_, ?_, ?_, ?_, trivial⟩ <;> (first | rfl | (refine Z.lookv rfl ?_; simp; done) | (refine Z.lookv rfl ?_; simp; omega))) (hs.sub (List.nil_sublist _))
            · skip
              refine Z.ZO.litL (T' := 47) [(0, 2)] [.int .i64 0, .slice none 0 0] rfl rfl (by rfl) rfl rfl (by intro W; kernel_rfl) hs ?_
              clear hs; intro g137 w137 hs
              refine Z.tk (Dn := fun _ => true) (i := 7) (fun _ => ⟨_, hs, by first | (simp; done) | exact fun e he => List.mem_append_right _ he⟩) ?_
              refine Z.tn 2 rfl rfl (by kernel_rfl) rfl trivial ?_
              refine Z.ZO.call rfl rfl (by rfl) rfl rfl Try.call11 rfl (copied23 A n c ps _ (hx.st (hs.sub (List.nil_sublist _))) hl (by omega) s3 (fun q hq ↦ (hB q hq).st (hs.sub (List.nil_sublist _)))) ?_
              rintro v16_2 w16_2 ⟨qs, hpq, hy⟩
              replace hs := hs.call hy
              clear hy
              try simp only [List.cons_append, List.nil_append, List.append_nil] at hs
              obtain ⟨Ac, cc, rfl, -, -, -⟩ := SX.row_slv hs (j := 0) rfl
              have epl : (qs.map Prod.fst).map MpV.plain = r := by rw [plainQ_fst, hpq, hr]
              have hql : qs.length = n := by have h7 := congrArg List.length hpq; simp [plainQ] at h7; omega
              refine Z.tk (Dn := fun _ => true) (i := 2) (fun _ => ⟨_, hs, by first | (simp; done) | exact fun e he => List.mem_append_right _ he⟩) ?_
              rw [ez] at hs
              first
              | replace hs : SX.St w [] _ (_ :: _ :: _ :: rowsQ qs) := hs
              | replace hs : SX.St w [] _ (_ :: _ :: _ :: rowsQ qs) := SX.St.untail1 hs
              | replace hs : SX.St w [] _ (_ :: _ :: _ :: rowsQ qs) := SX.St.untail hs
              refine Z.tn 8 rfl rfl (by kernel_rfl) rfl trivial ?_
              refine Z.ZO.append (i0 := Try.t47) (size := 2) (bytes := 32) rfl rfl (by rfl) hs Try.underlying22 (by kernel_rfl) rfl rfl rfl rfl (by decide) rfl rfl (by first | exact SX.at0 | exact SX.at1 | exact SX.at2 | exact SX.at3 | exact SX.at4 | exact SX.at5 | exact Z.at6 | exact Z.at7 | exact Z.at8 | exact Z.at9 | exact Z.at10 | exact Z.at11 | exact Z.at12) (by first | exact SX.at0 | exact SX.at1 | exact SX.at2 | exact SX.at3 | exact SX.at4 | exact SX.at5 | exact Z.at6 | exact Z.at7 | exact Z.at8 | exact Z.at9 | exact Z.at10 | exact Z.at11 | exact Z.at12) (by first | rfl | simp) (by simp [Value.oneCell']) (by decide) (by unfold maxLen; omega) (by omega) ?_
              clear hs; intro g138 cap138 w138 hs
              simp only [List.set_cons_zero, List.set_cons_succ, List.eraseIdx_cons_zero, List.eraseIdx_cons_succ] at hs
              refine Z.tk (Dn := fun _ => true) (i := 8) (fun _ => ⟨_, hs, by first | (simp; done) | exact fun e he => List.mem_append_right _ he⟩) ?_
              obtain ⟨gz, hgz⟩ : ∃ gz : Option Addr, gz = some ⟨g135, 0, none⟩ := ⟨_, rfl⟩
              obtain ⟨ks, hks⟩ : ∃ ks, ks = qs.map Prod.fst ++ [exZ ch gz zs] := ⟨_, rfl⟩
              have hkl : ks.length = qs.length + 1 := by rw [hks]; simp
              have hkp : ks.map MpV.plain = r ++ [(ch, zs)] := by rw [hks, List.map_append, epl]; rfl
              have hkc : cellsQ qs ++ [.int .i64 ch, .slice gz zs.length zs.length] = ks.flatMap MpV.cells := by rw [hks, List.flatMap_append, cellsQ_fst]; rfl
              have hkf : ∀ q ∈ ks, q.l.length ≤ 100000 := by
                rw [hks]
                intro q hq
                rcases List.mem_append.1 hq with h | h
                · exact plain_all (P := fun p => p.2.length ≤ 100000) hpq s3 q h
                · exact exZ_f (by omega) q h
              have hkb : ∀ q ∈ ks, ∀ y ∈ q.l, 0 ≤ y ∧ y < 256 := by
                rw [hks]
                intro q hq
                rcases List.mem_append.1 hq with h | h
                · exact plain_all (P := fun p => ∀ y ∈ p.2, 0 ≤ y ∧ y < 256) hpq hby q h
                · exact exZ_by (zero_by hz) q h
              rw [← hgz, hkc] at hs
              refine Z.tn 9 rfl rfl (by kernel_rfl) rfl trivial ?_
              refine Z.ZO.call rfl rfl (by rfl) rfl rfl Try.call12 rfl (mc_Build size _ _ _ ks _ (hs.slm (by first | ((repeat (first | exact List.mem_cons_self | refine List.mem_cons_of_mem _ ?_ | refine List.mem_append_right _ ?_)); done) | fail)) hkl (by omega) hkf (by rw [hks]; exact ks_sl hs (fun e he ↦ by simp [he]) (hs.slm (A := gz) (by first | ((repeat (first | exact List.mem_cons_self | refine List.mem_cons_of_mem _ ?_ | refine List.mem_append_right _ ?_)); done) | fail))) hkb) ?_
              rintro v16_9 w16_9 ⟨sv16, rfl, hy⟩
              replace hs := hs.call hy
              clear hy
              try simp only [List.cons_append, List.nil_append, List.append_nil] at hs
              rw [hkp, hb16 hz1]
              rw [hkp] at hs
              have hbl16 := hb16l hz1
              obtain ⟨B16, k16, rfl, -, -, -⟩ := SX.row_slv hs (j := 0) rfl
              refine Z.tk (Dn := fun _ => true) (i := 9) (fun _ => ⟨_, hs, by first | (simp; done) | exact fun e he => List.mem_append_right _ he⟩) ?_
              refine Z.tb [10, 11, 12, 13, 14] (by kernel_rfl) rfl ⟨_, hs, by first | (simp; done) | exact fun e he => List.mem_append_right _ he⟩ rfl ?_
              refine Z.td (by rfl) (by kernel_rfl) ?_
              refine Z.only [0, 1, 2, 13, 15, 16] rfl ?_
              refine Z.nthen ?_
              refine Z.seq ?_
              refine Z.region ?_
              refine Z.lb 1 rfl ?_
              refine Z.le rfl trivial ?_
              refine Z.ZO.call rfl rfl (by rfl) rfl rfl Try.call24 rfl (num23 _ _) ?_
              rintro v17_1 w17_1 ⟨rfl, hy⟩
              replace hs := hs.call hy
              clear hy
              try simp only [List.cons_append, List.nil_append, List.append_nil] at hs
              refine Z.lb 2 rfl ?_
              refine Z.yes (s := 145) (b := false) rfl ((by simp)) rfl ?_
              refine Z.lb 1 rfl ?_
              refine Z.l rfl rfl (by rfl) (Z.keepS hs) (Z.Yd.lenS rfl Try.underlying26) ?_
              refine Z.lb 2 rfl ?_
              refine Z.yes (s := 145) (b := false) rfl rfl rfl ?_
              refine Z.l rfl rfl (by rfl) (Z.keepS hs) (Z.Yd.pickF rfl rfl) ?_
              refine Z.lnil ?_
              refine Z.only [0, 1, 2, 13, 150] rfl ?_
              refine Z.nthen ?_
              refine Z.cond rfl (fun h => absurd h (by simp; omega)) (fun hc17 => ?_)
              refine Z.skip ?_
              refine Z.nthen ?_
              exact Z.meet () (by refine ⟨?_, ?_, ?_, ?_, trivial⟩ <;> (first | rfl | (refine Z.lookv rfl ?_; simp; done) | (refine Z.lookv rfl ?_; simp; omega))) (hs.sub (List.nil_sublist _))
          )
    · first
        | (exfalso; simp at hc15 <;> omega)
        | (
          (try simp at hc15)
          refine Z.skip ?_
          refine Z.nthen ?_
          exact Z.meet () (by refine ⟨?_, ?_, ?_, ?_, trivial⟩ <;> (first | rfl | (refine Z.lookv rfl ?_; simp; done) | (refine Z.lookv rfl ?_; simp; omega))) (hs.sub (List.nil_sublist _))
          )
  · clear hs
    rintro _ w19 hs
    refine Z.only [0, 1, 2, 13] rfl ?_
    refine Z.seq ?_
    refine Z.drawL [] (fun _ => true) mixed hs ?_
    clear hs; intro wd19 hs
    refine Z.tb [0, 1, 3, 4] (by kernel_rfl) rfl ⟨_, hs, by first | (simp; done) | exact fun e he => List.mem_append_right _ he⟩ rfl ?_
    refine Z.t 5 rfl rfl rfl (by rfl) (by kernel_rfl) ⟨_, hs, by first | (simp; done) | exact fun e he => List.mem_append_right _ he⟩ (Z.Yd.add rfl rfl (fun hG => Z.wi64 (by first | omega | (have hG' := Z.gh rfl hG; simp at hG'; omega)))) ?_
    refine Z.fork2 2 6 rfl rfl rfl (by kernel_rfl) rfl rfl trivial trivial ?_ ?_
    · skip
      refine Z.ZO.call rfl rfl (by rfl) rfl rfl Try.call11 rfl (copied23 A n c ps _ (hx.st (hs.sub (List.nil_sublist _))) hl (by omega) s3 (fun q hq ↦ (hB q hq).st (hs.sub (List.nil_sublist _)))) ?_
      rintro v19_2 w19_2 ⟨qs, hpq, hy⟩
      replace hs := hs.call hy
      clear hy
      try simp only [List.cons_append, List.nil_append, List.append_nil] at hs
      obtain ⟨Ac, cc, rfl, -, -, -⟩ := SX.row_slv hs (j := 0) rfl
      have epl : (qs.map Prod.fst).map MpV.plain = r := by rw [plainQ_fst, hpq, hr]
      have hql : qs.length = n := by have h7 := congrArg List.length hpq; simp [plainQ] at h7; omega
      refine Z.tk (Dn := fun _ => true) (i := 2) (fun _ => ⟨_, hs, by first | (simp; done) | exact fun e he => List.mem_append_right _ he⟩) ?_
      rw [show (zs.length : Int) + 1 = (ys.length : Int) from by omega]
      refine Z.tn 6 rfl rfl (by kernel_rfl) rfl trivial ?_
      refine Z.ZO.make1 (m := ys.length) (i0 := Try.t5) (bytes := 1) rfl rfl (by rfl) hs Try.underlying26 (by kernel_rfl) rfl rfl rfl rfl rfl rfl (by omega) (by unfold maxLen; omega) ?_
      clear hs; intro g158 w158 hs
      refine Z.tk (Dn := fun _ => true) (i := 6) (fun _ => ⟨_, hs, by first | (simp; done) | exact fun e he => List.mem_append_right _ he⟩) ?_
      refine Z.t 7 rfl rfl rfl (by rfl) (by kernel_rfl) ⟨_, hs, by first | (simp; done) | exact fun e he => List.mem_append_right _ he⟩ (Z.Yd.buildL [(0, 1), (1, 1)] [.int .i64 0, .slice none 0 0] rfl rfl (by intro w; kernel_rfl)) ?_
      refine Z.tn 8 rfl rfl (by kernel_rfl) rfl trivial ?_
      refine Z.ZO.litL (T' := 47) [(0, 2)] [.int .i64 0, .slice none 0 0] rfl rfl (by rfl) rfl rfl (by intro W; kernel_rfl) hs ?_
      clear hs; intro g160 w160 hs
      refine Z.tk (Dn := fun _ => true) (i := 8) (fun _ => ⟨_, hs, by first | (simp; done) | exact fun e he => List.mem_append_right _ he⟩) ?_
      rw [ey] at hs
      first
      | replace hs : SX.St w [] _ (_ :: _ :: _ :: rowsQ qs) := hs
      | replace hs : SX.St w [] _ (_ :: _ :: _ :: rowsQ qs) := SX.St.untail1 hs
      | replace hs : SX.St w [] _ (_ :: _ :: _ :: rowsQ qs) := SX.St.untail hs
      refine Z.tn 9 rfl rfl (by kernel_rfl) rfl trivial ?_
      refine Z.ZO.append (i0 := Try.t47) (size := 2) (bytes := 32) rfl rfl (by rfl) hs Try.underlying22 (by kernel_rfl) rfl rfl rfl rfl (by decide) rfl rfl (by first | exact SX.at0 | exact SX.at1 | exact SX.at2 | exact SX.at3 | exact SX.at4 | exact SX.at5 | exact Z.at6 | exact Z.at7 | exact Z.at8 | exact Z.at9 | exact Z.at10 | exact Z.at11 | exact Z.at12) (by first | exact SX.at0 | exact SX.at1 | exact SX.at2 | exact SX.at3 | exact SX.at4 | exact SX.at5 | exact Z.at6 | exact Z.at7 | exact Z.at8 | exact Z.at9 | exact Z.at10 | exact Z.at11 | exact Z.at12) (by first | rfl | simp) (by simp [Value.oneCell']) (by decide) (by unfold maxLen; omega) (by omega) ?_
      clear hs; intro g161 cap161 w161 hs
      simp only [List.set_cons_zero, List.set_cons_succ, List.eraseIdx_cons_zero, List.eraseIdx_cons_succ] at hs
      refine Z.tk (Dn := fun _ => true) (i := 9) (fun _ => ⟨_, hs, by first | (simp; done) | exact fun e he => List.mem_append_right _ he⟩) ?_
      obtain ⟨gz, hgz⟩ : ∃ gz : Option Addr, gz = some ⟨g158, 0, none⟩ := ⟨_, rfl⟩
      obtain ⟨ks, hks⟩ : ∃ ks, ks = qs.map Prod.fst ++ [exZ ch gz ys] := ⟨_, rfl⟩
      have hkl : ks.length = qs.length + 1 := by rw [hks]; simp
      have hkp : ks.map MpV.plain = r ++ [(ch, ys)] := by rw [hks, List.map_append, epl]; rfl
      have hkc : cellsQ qs ++ [.int .i64 ch, .slice gz ys.length ys.length] = ks.flatMap MpV.cells := by rw [hks, List.flatMap_append, cellsQ_fst]; rfl
      have hkf : ∀ q ∈ ks, q.l.length ≤ 100000 := by
        rw [hks]
        intro q hq
        rcases List.mem_append.1 hq with h | h
        · exact plain_all (P := fun p => p.2.length ≤ 100000) hpq s3 q h
        · exact exZ_f (by omega) q h
      have hkb : ∀ q ∈ ks, ∀ y ∈ q.l, 0 ≤ y ∧ y < 256 := by
        rw [hks]
        intro q hq
        rcases List.mem_append.1 hq with h | h
        · exact plain_all (P := fun p => ∀ y ∈ p.2, 0 ≤ y ∧ y < 256) hpq hby q h
        · exact exZ_by (zero_by hyz) q h
      rw [← hgz, hkc] at hs
      refine Z.tn 10 rfl rfl (by kernel_rfl) rfl trivial ?_
      refine Z.ZO.call rfl rfl (by rfl) rfl rfl Try.call12 rfl (mc_Build size _ _ _ ks _ (hs.slm (by first | ((repeat (first | exact List.mem_cons_self | refine List.mem_cons_of_mem _ ?_ | refine List.mem_append_right _ ?_)); done) | fail)) hkl (by omega) hkf (by rw [hks]; exact ks_sl hs (fun e he ↦ by simp [he]) (hs.slm (A := gz) (by first | ((repeat (first | exact List.mem_cons_self | refine List.mem_cons_of_mem _ ?_ | refine List.mem_append_right _ ?_)); done) | fail))) hkb) ?_
      rintro v19_10 w19_10 ⟨sv19, rfl, hy⟩
      replace hs := hs.call hy
      clear hy
      try simp only [List.cons_append, List.nil_append, List.append_nil] at hs
      rw [hkp, hb19]
      refine Z.tk (Dn := fun _ => true) (i := 10) (fun _ => ⟨_, hs, by first | (simp; done) | exact fun e he => List.mem_append_right _ he⟩) ?_
      refine Z.tb [11, 12, 13, 14, 15] (by kernel_rfl) rfl ⟨_, hs, by first | (simp; done) | exact fun e he => List.mem_append_right _ he⟩ rfl ?_
      refine Z.td (by rfl) (by kernel_rfl) ?_
      refine Z.only [18] rfl ?_
      refine Z.nthen ?_
      refine Z.seq ?_
      refine Z.region ?_
      refine Z.lb 1 rfl ?_
      refine Z.le rfl trivial ?_
      refine Z.ZO.call rfl rfl (by rfl) rfl rfl Try.call24 rfl (num23 _ _) ?_
      rintro v20_1 w20_1 ⟨rfl, hy⟩
      replace hs := hs.call hy
      clear hy
      try simp only [List.cons_append, List.nil_append, List.append_nil] at hs
      refine Z.lb 2 rfl ?_
      refine Z.yes (s := 168) (b := true) rfl ((by simp)) rfl ?_
      refine Z.le rfl (by exact ⟨rfl, trivial⟩) ?_
      refine Z.ZO.call rfl rfl (by rfl) rfl rfl Try.call10 rfl (works23 _) ?_
      rintro v20_4 w20_4 ⟨rfl, hy⟩
      replace hs := hs.call hy
      clear hy
      try simp only [List.cons_append, List.nil_append, List.append_nil] at hs
      refine Z.l rfl rfl (by rfl) (Z.keepS hs) (Z.Yd.pickT rfl rfl) ?_
      refine Z.lb 1 rfl ?_
      refine Z.lnil ?_
      refine Z.only [6] rfl ?_
      refine Z.nthen ?_
      refine Z.ret ?_
      -- ret#0
      refine Z.out1 (by exact ⟨rfl, trivial⟩) ?_
      exact ⟨_, rfl, rfl, hs.sub (List.nil_sublist _)⟩
    · skip
      rw [show (zs.length : Int) + 1 = (ys.length : Int) from by omega]
      refine Z.ZO.make1 (m := ys.length) (i0 := Try.t5) (bytes := 1) rfl rfl (by rfl) hs Try.underlying26 (by kernel_rfl) rfl rfl rfl rfl rfl rfl (by omega) (by unfold maxLen; omega) ?_
      clear hs; intro g158 w158 hs
      refine Z.tk (Dn := fun _ => true) (i := 6) (fun _ => ⟨_, hs, by first | (simp; done) | exact fun e he => List.mem_append_right _ he⟩) ?_
      refine Z.t 7 rfl rfl rfl (by rfl) (by kernel_rfl) ⟨_, hs, by first | (simp; done) | exact fun e he => List.mem_append_right _ he⟩ (Z.Yd.buildL [(0, 1), (1, 1)] [.int .i64 0, .slice none 0 0] rfl rfl (by intro w; kernel_rfl)) ?_
      refine Z.fork2 2 8 rfl rfl rfl (by kernel_rfl) rfl rfl trivial trivial ?_ ?_
      · skip
        refine Z.ZO.call rfl rfl (by rfl) rfl rfl Try.call11 rfl (copied23 A n c ps _ (hx.st (hs.sub (List.nil_sublist _))) hl (by omega) s3 (fun q hq ↦ (hB q hq).st (hs.sub (List.nil_sublist _)))) ?_
        rintro v19_2 w19_2 ⟨qs, hpq, hy⟩
        replace hs := hs.call hy
        clear hy
        try simp only [List.cons_append, List.nil_append, List.append_nil] at hs
        obtain ⟨Ac, cc, rfl, -, -, -⟩ := SX.row_slv hs (j := 0) rfl
        have epl : (qs.map Prod.fst).map MpV.plain = r := by rw [plainQ_fst, hpq, hr]
        have hql : qs.length = n := by have h7 := congrArg List.length hpq; simp [plainQ] at h7; omega
        refine Z.tk (Dn := fun _ => true) (i := 2) (fun _ => ⟨_, hs, by first | (simp; done) | exact fun e he => List.mem_append_right _ he⟩) ?_
        refine Z.tn 8 rfl rfl (by kernel_rfl) rfl trivial ?_
        refine Z.ZO.litL (T' := 47) [(0, 2)] [.int .i64 0, .slice none 0 0] rfl rfl (by rfl) rfl rfl (by intro W; kernel_rfl) hs ?_
        clear hs; intro g160 w160 hs
        refine Z.tk (Dn := fun _ => true) (i := 8) (fun _ => ⟨_, hs, by first | (simp; done) | exact fun e he => List.mem_append_right _ he⟩) ?_
        rw [ey] at hs
        first
        | replace hs : SX.St w [] _ (_ :: _ :: _ :: rowsQ qs) := hs
        | replace hs : SX.St w [] _ (_ :: _ :: _ :: rowsQ qs) := SX.St.untail1 hs
        | replace hs : SX.St w [] _ (_ :: _ :: _ :: rowsQ qs) := SX.St.untail hs
        refine Z.tn 9 rfl rfl (by kernel_rfl) rfl trivial ?_
        refine Z.ZO.append (i0 := Try.t47) (size := 2) (bytes := 32) rfl rfl (by rfl) hs Try.underlying22 (by kernel_rfl) rfl rfl rfl rfl (by decide) rfl rfl (by first | exact SX.at0 | exact SX.at1 | exact SX.at2 | exact SX.at3 | exact SX.at4 | exact SX.at5 | exact Z.at6 | exact Z.at7 | exact Z.at8 | exact Z.at9 | exact Z.at10 | exact Z.at11 | exact Z.at12) (by first | exact SX.at0 | exact SX.at1 | exact SX.at2 | exact SX.at3 | exact SX.at4 | exact SX.at5 | exact Z.at6 | exact Z.at7 | exact Z.at8 | exact Z.at9 | exact Z.at10 | exact Z.at11 | exact Z.at12) (by first | rfl | simp) (by simp [Value.oneCell']) (by decide) (by unfold maxLen; omega) (by omega) ?_
        clear hs; intro g161 cap161 w161 hs
        simp only [List.set_cons_zero, List.set_cons_succ, List.eraseIdx_cons_zero, List.eraseIdx_cons_succ] at hs
        refine Z.tk (Dn := fun _ => true) (i := 9) (fun _ => ⟨_, hs, by first | (simp; done) | exact fun e he => List.mem_append_right _ he⟩) ?_
        obtain ⟨gz, hgz⟩ : ∃ gz : Option Addr, gz = some ⟨g158, 0, none⟩ := ⟨_, rfl⟩
        obtain ⟨ks, hks⟩ : ∃ ks, ks = qs.map Prod.fst ++ [exZ ch gz ys] := ⟨_, rfl⟩
        have hkl : ks.length = qs.length + 1 := by rw [hks]; simp
        have hkp : ks.map MpV.plain = r ++ [(ch, ys)] := by rw [hks, List.map_append, epl]; rfl
        have hkc : cellsQ qs ++ [.int .i64 ch, .slice gz ys.length ys.length] = ks.flatMap MpV.cells := by rw [hks, List.flatMap_append, cellsQ_fst]; rfl
        have hkf : ∀ q ∈ ks, q.l.length ≤ 100000 := by
          rw [hks]
          intro q hq
          rcases List.mem_append.1 hq with h | h
          · exact plain_all (P := fun p => p.2.length ≤ 100000) hpq s3 q h
          · exact exZ_f (by omega) q h
        have hkb : ∀ q ∈ ks, ∀ y ∈ q.l, 0 ≤ y ∧ y < 256 := by
          rw [hks]
          intro q hq
          rcases List.mem_append.1 hq with h | h
          · exact plain_all (P := fun p => ∀ y ∈ p.2, 0 ≤ y ∧ y < 256) hpq hby q h
          · exact exZ_by (zero_by hyz) q h
        rw [← hgz, hkc] at hs
        refine Z.tn 10 rfl rfl (by kernel_rfl) rfl trivial ?_
        refine Z.ZO.call rfl rfl (by rfl) rfl rfl Try.call12 rfl (mc_Build size _ _ _ ks _ (hs.slm (by first | ((repeat (first | exact List.mem_cons_self | refine List.mem_cons_of_mem _ ?_ | refine List.mem_append_right _ ?_)); done) | fail)) hkl (by omega) hkf (by rw [hks]; exact ks_sl hs (fun e he ↦ by simp [he]) (hs.slm (A := gz) (by first | ((repeat (first | exact List.mem_cons_self | refine List.mem_cons_of_mem _ ?_ | refine List.mem_append_right _ ?_)); done) | fail))) hkb) ?_
        rintro v19_10 w19_10 ⟨sv19, rfl, hy⟩
        replace hs := hs.call hy
        clear hy
        try simp only [List.cons_append, List.nil_append, List.append_nil] at hs
        rw [hkp, hb19]
        refine Z.tk (Dn := fun _ => true) (i := 10) (fun _ => ⟨_, hs, by first | (simp; done) | exact fun e he => List.mem_append_right _ he⟩) ?_
        refine Z.tb [11, 12, 13, 14, 15] (by kernel_rfl) rfl ⟨_, hs, by first | (simp; done) | exact fun e he => List.mem_append_right _ he⟩ rfl ?_
        refine Z.td (by rfl) (by kernel_rfl) ?_
        refine Z.only [18] rfl ?_
        refine Z.nthen ?_
        refine Z.seq ?_
        refine Z.region ?_
        refine Z.lb 1 rfl ?_
        refine Z.le rfl trivial ?_
        refine Z.ZO.call rfl rfl (by rfl) rfl rfl Try.call24 rfl (num23 _ _) ?_
        rintro v20_1 w20_1 ⟨rfl, hy⟩
        replace hs := hs.call hy
        clear hy
        try simp only [List.cons_append, List.nil_append, List.append_nil] at hs
        refine Z.lb 2 rfl ?_
        refine Z.yes (s := 168) (b := true) rfl ((by simp)) rfl ?_
        refine Z.le rfl (by exact ⟨rfl, trivial⟩) ?_
        refine Z.ZO.call rfl rfl (by rfl) rfl rfl Try.call10 rfl (works23 _) ?_
        rintro v20_4 w20_4 ⟨rfl, hy⟩
        replace hs := hs.call hy
        clear hy
        try simp only [List.cons_append, List.nil_append, List.append_nil] at hs
        refine Z.l rfl rfl (by rfl) (Z.keepS hs) (Z.Yd.pickT rfl rfl) ?_
        refine Z.lb 1 rfl ?_
        refine Z.lnil ?_
        refine Z.only [6] rfl ?_
        refine Z.nthen ?_
        refine Z.ret ?_
        -- ret#1
        refine Z.out1 (by exact ⟨rfl, trivial⟩) ?_
        exact ⟨_, rfl, rfl, hs.sub (List.nil_sublist _)⟩
      · skip
        refine Z.ZO.litL (T' := 47) [(0, 2)] [.int .i64 0, .slice none 0 0] rfl rfl (by rfl) rfl rfl (by intro W; kernel_rfl) hs ?_
        clear hs; intro g160 w160 hs
        refine Z.tk (Dn := fun _ => true) (i := 8) (fun _ => ⟨_, hs, by first | (simp; done) | exact fun e he => List.mem_append_right _ he⟩) ?_
        refine Z.tn 2 rfl rfl (by kernel_rfl) rfl trivial ?_
        refine Z.ZO.call rfl rfl (by rfl) rfl rfl Try.call11 rfl (copied23 A n c ps _ (hx.st (hs.sub (List.nil_sublist _))) hl (by omega) s3 (fun q hq ↦ (hB q hq).st (hs.sub (List.nil_sublist _)))) ?_
        rintro v19_2 w19_2 ⟨qs, hpq, hy⟩
        replace hs := hs.call hy
        clear hy
        try simp only [List.cons_append, List.nil_append, List.append_nil] at hs
        obtain ⟨Ac, cc, rfl, -, -, -⟩ := SX.row_slv hs (j := 0) rfl
        have epl : (qs.map Prod.fst).map MpV.plain = r := by rw [plainQ_fst, hpq, hr]
        have hql : qs.length = n := by have h7 := congrArg List.length hpq; simp [plainQ] at h7; omega
        refine Z.tk (Dn := fun _ => true) (i := 2) (fun _ => ⟨_, hs, by first | (simp; done) | exact fun e he => List.mem_append_right _ he⟩) ?_
        rw [ey] at hs
        first
        | replace hs : SX.St w [] _ (_ :: _ :: _ :: rowsQ qs) := hs
        | replace hs : SX.St w [] _ (_ :: _ :: _ :: rowsQ qs) := SX.St.untail1 hs
        | replace hs : SX.St w [] _ (_ :: _ :: _ :: rowsQ qs) := SX.St.untail hs
        refine Z.tn 9 rfl rfl (by kernel_rfl) rfl trivial ?_
        refine Z.ZO.append (i0 := Try.t47) (size := 2) (bytes := 32) rfl rfl (by rfl) hs Try.underlying22 (by kernel_rfl) rfl rfl rfl rfl (by decide) rfl rfl (by first | exact SX.at0 | exact SX.at1 | exact SX.at2 | exact SX.at3 | exact SX.at4 | exact SX.at5 | exact Z.at6 | exact Z.at7 | exact Z.at8 | exact Z.at9 | exact Z.at10 | exact Z.at11 | exact Z.at12) (by first | exact SX.at0 | exact SX.at1 | exact SX.at2 | exact SX.at3 | exact SX.at4 | exact SX.at5 | exact Z.at6 | exact Z.at7 | exact Z.at8 | exact Z.at9 | exact Z.at10 | exact Z.at11 | exact Z.at12) (by first | rfl | simp) (by simp [Value.oneCell']) (by decide) (by unfold maxLen; omega) (by omega) ?_
        clear hs; intro g161 cap161 w161 hs
        simp only [List.set_cons_zero, List.set_cons_succ, List.eraseIdx_cons_zero, List.eraseIdx_cons_succ] at hs
        refine Z.tk (Dn := fun _ => true) (i := 9) (fun _ => ⟨_, hs, by first | (simp; done) | exact fun e he => List.mem_append_right _ he⟩) ?_
        obtain ⟨gz, hgz⟩ : ∃ gz : Option Addr, gz = some ⟨g158, 0, none⟩ := ⟨_, rfl⟩
        obtain ⟨ks, hks⟩ : ∃ ks, ks = qs.map Prod.fst ++ [exZ ch gz ys] := ⟨_, rfl⟩
        have hkl : ks.length = qs.length + 1 := by rw [hks]; simp
        have hkp : ks.map MpV.plain = r ++ [(ch, ys)] := by rw [hks, List.map_append, epl]; rfl
        have hkc : cellsQ qs ++ [.int .i64 ch, .slice gz ys.length ys.length] = ks.flatMap MpV.cells := by rw [hks, List.flatMap_append, cellsQ_fst]; rfl
        have hkf : ∀ q ∈ ks, q.l.length ≤ 100000 := by
          rw [hks]
          intro q hq
          rcases List.mem_append.1 hq with h | h
          · exact plain_all (P := fun p => p.2.length ≤ 100000) hpq s3 q h
          · exact exZ_f (by omega) q h
        have hkb : ∀ q ∈ ks, ∀ y ∈ q.l, 0 ≤ y ∧ y < 256 := by
          rw [hks]
          intro q hq
          rcases List.mem_append.1 hq with h | h
          · exact plain_all (P := fun p => ∀ y ∈ p.2, 0 ≤ y ∧ y < 256) hpq hby q h
          · exact exZ_by (zero_by hyz) q h
        rw [← hgz, hkc] at hs
        refine Z.tn 10 rfl rfl (by kernel_rfl) rfl trivial ?_
        refine Z.ZO.call rfl rfl (by rfl) rfl rfl Try.call12 rfl (mc_Build size _ _ _ ks _ (hs.slm (by first | ((repeat (first | exact List.mem_cons_self | refine List.mem_cons_of_mem _ ?_ | refine List.mem_append_right _ ?_)); done) | fail)) hkl (by omega) hkf (by rw [hks]; exact ks_sl hs (fun e he ↦ by simp [he]) (hs.slm (A := gz) (by first | ((repeat (first | exact List.mem_cons_self | refine List.mem_cons_of_mem _ ?_ | refine List.mem_append_right _ ?_)); done) | fail))) hkb) ?_
        rintro v19_10 w19_10 ⟨sv19, rfl, hy⟩
        replace hs := hs.call hy
        clear hy
        try simp only [List.cons_append, List.nil_append, List.append_nil] at hs
        rw [hkp, hb19]
        refine Z.tk (Dn := fun _ => true) (i := 10) (fun _ => ⟨_, hs, by first | (simp; done) | exact fun e he => List.mem_append_right _ he⟩) ?_
        refine Z.tb [11, 12, 13, 14, 15] (by kernel_rfl) rfl ⟨_, hs, by first | (simp; done) | exact fun e he => List.mem_append_right _ he⟩ rfl ?_
        refine Z.td (by rfl) (by kernel_rfl) ?_
        refine Z.only [18] rfl ?_
        refine Z.nthen ?_
        refine Z.seq ?_
        refine Z.region ?_
        refine Z.lb 1 rfl ?_
        refine Z.le rfl trivial ?_
        refine Z.ZO.call rfl rfl (by rfl) rfl rfl Try.call24 rfl (num23 _ _) ?_
        rintro v20_1 w20_1 ⟨rfl, hy⟩
        replace hs := hs.call hy
        clear hy
        try simp only [List.cons_append, List.nil_append, List.append_nil] at hs
        refine Z.lb 2 rfl ?_
        refine Z.yes (s := 168) (b := true) rfl ((by simp)) rfl ?_
        refine Z.le rfl (by exact ⟨rfl, trivial⟩) ?_
        refine Z.ZO.call rfl rfl (by rfl) rfl rfl Try.call10 rfl (works23 _) ?_
        rintro v20_4 w20_4 ⟨rfl, hy⟩
        replace hs := hs.call hy
        clear hy
        try simp only [List.cons_append, List.nil_append, List.append_nil] at hs
        refine Z.l rfl rfl (by rfl) (Z.keepS hs) (Z.Yd.pickT rfl rfl) ?_
        refine Z.lb 1 rfl ?_
        refine Z.lnil ?_
        refine Z.only [6] rfl ?_
        refine Z.nthen ?_
        refine Z.ret ?_
        -- ret#2
        refine Z.out1 (by exact ⟨rfl, trivial⟩) ?_
        exact ⟨_, rfl, rfl, hs.sub (List.nil_sublist _)⟩
theorem holds_out (size ch : Int) (A : Option Addr) (n c : Nat) (ps : List MpV) (w : World) (hx : Sl w A (ps.flatMap MpV.cells)) (hl : ps.length = n) (hn : n ≤ maxLen) (h : ¬ (smallP (ps.map MpV.plain) = true ∧ vldP false (ps.map MpV.plain) = true ∧ (1 ≤ size ∧ size ≤ 4000) ∧ 1 ≤ ch ∧ ch ≤ 10)) :
    Calls Try.prog 7 #[.int .i64 size, .slice A n c, .int .i64 ch] w (SX.Ret fun v w' => v = .bool true ∧ SX.St w [] w' []) := by
  have hs := SX.St.start w
  obtain ⟨sm, hsm⟩ : ∃ sm, smallP (ps.map MpV.plain) = sm := ⟨_, rfl⟩
  obtain ⟨vl, hvl⟩ : ∃ vl, vldP false (ps.map MpV.plain) = vl := ⟨_, rfl⟩
  rw [hsm, hvl] at h
  have h' : sm = false ∨ vl = false ∨ size < 1 ∨ 4000 < size ∨ ch < 1 ∨ 10 < ch := by
    by_cases h1 : sm = true
    · by_cases h2 : vl = true
      · right; right
        by_cases h3 : 1 ≤ size ∧ size ≤ 4000
        · have h4 : ¬ (1 ≤ ch ∧ ch ≤ 10) := fun k => h ⟨h1, h2, h3, k⟩
          omega
        · omega
      · right; left; simpa using h2
    · left; simpa using h1
  refine Z.enter Try.func7 rfl Try.ntmps7 rfl rfl ?_
  refine Z.seq ?_
  refine Z.region ?_
  refine Z.lb 1 rfl ?_
  refine Z.lnil ?_
  refine Z.only [0, 1, 2] rfl ?_
  refine Z.nthen ?_
  refine Z.seq ?_
  refine Z.seq ?_
  refine Z.region ?_
  refine Z.lb 1 rfl ?_
  refine Z.le rfl trivial ?_
  refine Z.ZO.call rfl rfl (by rfl) rfl rfl Try.call9 rfl (small23 A n c ps _ hx hl hn) ?_
  rintro v1_1 w1_1 ⟨rfl, hy⟩
  replace hs := hs.call hy
  clear hy
  try simp only [List.cons_append, List.nil_append, List.append_nil] at hs
  rw [hsm]
  refine Z.lb 2 rfl ?_
  refine Z.split (s := 22) rfl (fun hsp22 => ?_) (fun hsp22 => ?_)
  · first
      | (exfalso; simp at hsp22 <;> omega)
      | (
        refine Z.yes (s := 22) (b := true) rfl hsp22 rfl ?_
        (try simp at hsp22)
        refine Z.ls rfl rfl rfl (by rfl) ?_
        refine Z.ls rfl rfl rfl (by rfl) ?_
        refine Z.ls rfl rfl rfl (by rfl) ?_
        refine Z.l rfl rfl (by rfl) (Z.keepS hs) (Z.Yd.pickT rfl rfl) ?_
        refine Z.lb 16 rfl ?_
        refine Z.lnil ?_
        refine Z.only [0, 1, 2, 42] rfl ?_
        refine Z.nthen ?_
        refine Z.cond rfl (fun hc1 => ?_) (fun h => absurd h (by rcases h' with h | h | h | h | h | h <;> simp [h] <;> simp_all))
        refine Z.seq ?_
        refine Z.region ?_
        refine Z.le rfl trivial ?_
        refine Z.ZO.call rfl rfl (by rfl) rfl rfl Try.call10 rfl (works23 _) ?_
        rintro v2_0 w2_0 ⟨rfl, hy⟩
        replace hs := hs.call hy
        clear hy
        try simp only [List.cons_append, List.nil_append, List.append_nil] at hs
        refine Z.lb 1 rfl ?_
        refine Z.lnil ?_
        refine Z.only [6] rfl ?_
        refine Z.nthen ?_
        refine Z.ret ?_
        repeat (first | refine Z.rthen ?_ | refine Z.rblock ?_ | refine Z.rscope ?_)
        -- ret#0
        refine Z.out1 (by exact ⟨rfl, trivial⟩) ?_
        first | exact ⟨_, rfl, rfl, hs⟩ | exact ⟨_, rfl, rfl, hs.sub (List.nil_sublist _)⟩
        )
  · first
      | (exfalso; simp at hsp22 <;> omega)
      | (
        refine Z.yes (s := 22) (b := false) rfl hsp22 rfl ?_
        (try simp at hsp22)
        refine Z.lb 1 rfl ?_
        refine Z.yes (s := 22) (b := false) rfl rfl rfl ?_
        refine Z.le rfl (by exact ⟨rfl, trivial⟩) ?_
        refine Z.ZO.call rfl rfl (by rfl) rfl rfl Try.call25 rfl (mr_valid A n c ps _ (hx.st hs) hl hn) ?_
        rintro v1_5 w1_5 ⟨rfl, hy⟩
        replace hs := hs.call hy
        clear hy
        try simp only [List.cons_append, List.nil_append, List.append_nil] at hs
        rw [hvl]
        refine Z.lb 1 rfl ?_
        refine Z.yes (s := 22) (b := false) rfl rfl rfl ?_
        refine Z.l rfl rfl (by rfl) (Z.keepS hs) (Z.Yd.pickF rfl rfl) ?_
        refine Z.lb 16 rfl ?_
        refine Z.lnil ?_
        refine Z.only [0, 1, 2, 42] rfl ?_
        refine Z.nthen ?_
        refine Z.cond rfl (fun hc1 => ?_) (fun h => absurd h (by rcases h' with h | h | h | h | h | h <;> simp [h] <;> simp_all))
        refine Z.seq ?_
        refine Z.region ?_
        refine Z.le rfl trivial ?_
        refine Z.ZO.call rfl rfl (by rfl) rfl rfl Try.call10 rfl (works23 _) ?_
        rintro v2_0 w2_0 ⟨rfl, hy⟩
        replace hs := hs.call hy
        clear hy
        try simp only [List.cons_append, List.nil_append, List.append_nil] at hs
        refine Z.lb 1 rfl ?_
        refine Z.lnil ?_
        refine Z.only [6] rfl ?_
        refine Z.nthen ?_
        refine Z.ret ?_
        repeat (first | refine Z.rthen ?_ | refine Z.rblock ?_ | refine Z.rscope ?_)
        -- ret#1
        refine Z.out1 (by exact ⟨rfl, trivial⟩) ?_
        first | exact ⟨_, rfl, rfl, hs⟩ | exact ⟨_, rfl, rfl, hs.sub (List.nil_sublist _)⟩
        )
theorem macpduHolds_walk (size ch : Int) (A : Option Addr) (n c : Nat) (ps : List MpV) (w : World) (hx : Sl w A (ps.flatMap MpV.cells)) (hl : ps.length = n) (hn : n ≤ maxLen) (hB : ∀ q ∈ ps, Sl w q.B (ints .u8 q.l)) (hby : ∀ q ∈ ps, ∀ y ∈ q.l, 0 ≤ y ∧ y < 256) :
    Calls Try.prog 7 #[.int .i64 size, .slice A n c, .int .i64 ch] w (SX.Ret fun v w' => v = .bool true ∧ SX.St w [] w' []) := by
  by_cases h : smallP (ps.map MpV.plain) = true ∧ vldP false (ps.map MpV.plain) = true ∧ (1 ≤ size ∧ size ≤ 4000) ∧ 1 ≤ ch ∧ ch ≤ 10
  · by_cases hne : n = 0
    · exact holds_none size ch A n c ps w hx hl hB hby _ rfl h.1 h.2.1 h.2.2.1 h.2.2.2 hne
    · by_cases hnd : needP (ps.map MpV.plain) ≤ size
      · exact holds_fit size ch A n c ps w hx hl hB hby _ rfl h.1 h.2.1 h.2.2.1 h.2.2.2 hne hnd
      · exact holds_long size ch A n c ps w hx hl hB hby _ rfl h.1 h.2.1 h.2.2.1 h.2.2.2 hne hnd
  · exact holds_out size ch A n c ps w hx hl hn h
theorem macpduHolds_rd (a0 : Int) (a1 : Option Addr) (len1 cap1 : Nat) (a2 : Int) (w : World) (z0 : Rd Try.prog w 3 (Value.int .i64 a0).cells.toList) (z1 : Rd Try.prog w 22 (Value.slice a1 len1 cap1).cells.toList) (z2 : Rd Try.prog w 3 (Value.int .i64 a2).cells.toList) :
    Calls Try.prog 7 #[.int .i64 a0, .slice a1 len1 cap1, .int .i64 a2] w fun e w' => e = .returned (.bool true) ∧ Below w.heap.size w w' := by
  obtain ⟨ps, h1, h2, h3, h4, h5⟩ := rd_parts23 (show Rd Try.prog w 22 [.slice a1 len1 cap1] by simpa [Value.cells] using z1)
  refine (macpduHolds_walk a0 a2 a1 len1 cap1 ps w h5 h1 h2 h3 h4).mono ?_
  rintro e w' ⟨v, rfl, rfl, h⟩
  exact ⟨rfl, h.below⟩
end Go.Proofs.Ytogjkgoiofngaaa

/- What every row needs. -/
namespace Go.Proofs.Ytogjkgoiofngaaa
open Go.ChangeShapes Go.WideShapes Go.ChangeAt Go.RowKit
theorem pown : ownKnob Try.prog.godebug = none := by kernel_rfl
theorem plaidOut : laidOutB Try.prog = true := by kernel_rfl
end Go.Proofs.Ytogjkgoiofngaaa
