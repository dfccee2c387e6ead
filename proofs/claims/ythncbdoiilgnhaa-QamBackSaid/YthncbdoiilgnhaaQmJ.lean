/- The document's functions: Point, Same. -/
import Derived.Test.YthncbdoiilgnhaaQmI
namespace Go.Proofs.Ythncbdoiilgnhaa
open Go.RowKit
set_option linter.unusedSimpArgs false
set_option linter.unusedVariables false
attribute [local go_sem] Oper.semAt_some

/-- the document's point of a group -/
def rpt (k : Nat) (bs : List Int) : Int × Int := (16 * rlev k (elt bs 0) (elt bs 2) (elt bs 4), 16 * rlev k (elt bs 1) (elt bs 3) (elt bs 5))

theorem elt_bit {bs : List Int} (hb : ∀ b ∈ bs, b = 0 ∨ b = 1) (i : Int) : elt bs i = 0 ∨ elt bs i = 1 := by
  unfold elt
  by_cases h : i.toNat < bs.length
  · rw [List.getD_eq_getElem?_getD, List.getElem?_eq_getElem h]
    exact hb _ (List.getElem_mem h)
  · rw [List.getD_eq_getElem?_getD, List.getElem?_eq_none (by omega)]
    exact .inl rfl

theorem rlev_bd (k : Nat) (a b c : Int) (ha : a = 0 ∨ a = 1) (hb : b = 0 ∨ b = 1) (hc : c = 0 ∨ c = 1) : -8 < rlev k a b c ∧ rlev k a b c < 8 := by
  rcases ha with rfl | rfl <;> rcases hb with rfl | rfl <;> rcases hc with rfl | rfl <;> (unfold rlev; split <;> first | omega | (split <;> omega))

set_option maxRecDepth 100000 in
set_option maxHeartbeats 1000000 in
theorem rpoint_any (k : Nat) (A : Option Addr) (n c : Nat) (bs : List Int) (w : World) (hr : Sl w A (ints .u8 bs)) (hl : bs.length = n) (hn : n ≤ 6) (hk : 1 ≤ k) (hk3 : k ≤ 3) (hb : ∀ b ∈ bs, b = 0 ∨ b = 1) :
    Calls Try.prog 14 #[.int .i64 ((2 * k : Nat) : Int), .slice A n c] w (SX.Ret fun v w' => v = .agg #[.int .i64 (rpt k bs).1, .int .i64 (rpt k bs).2] ∧ SX.St w [] w' []) := by
  have hs := SX.St.start w
  have HB : Hid (∀ (i : Int), 0 ≤ i → i ≤ 5 → ∀ W L, SX.St w [] W L → Calls Try.prog 32 #[.slice A n c, .int .i64 i] W (SX.Ret fun v w' => v = .int .i64 (elt bs i) ∧ SX.St W [] w' [])) := Lib.hid (fun i h0 h5 W L hW => by
    have := bit_any A n c i.toNat bs W (hr.st (hW.sub (List.nil_sublist _))) hl (by omega) (by omega) hb
    rw [show ((i.toNat : Nat) : Int) = i from by omega] at this
    exact this)
  have HE := Lib.hid (elt_bit hb)
  have HLV := Lib.hid (fun a b c ha hb hc W => rlevel_any k a b c W hk hk3 ha hb hc)
  obtain ⟨h1, h2⟩ := rlev_bd k _ _ _ (elt_bit hb 0) (elt_bit hb 2) (elt_bit hb 4)
  obtain ⟨h3, h4⟩ := rlev_bd k _ _ _ (elt_bit hb 1) (elt_bit hb 3) (elt_bit hb 5)
  have HP : Hid (rpt k bs = (16 * rlev k (elt bs 0) (elt bs 2) (elt bs 4), 16 * rlev k (elt bs 1) (elt bs 3) (elt bs 5))) := Lib.hid rfl
  generalize 2 * k = m at *
  clear hr hl hb hn hk hk3
  refine SX.enter Try.func14 rfl ?_
  simp only [Try.ntmps14, List.size_toArray, List.length_cons, List.length_nil, Nat.reduceAdd, Nat.reduceSub, Array.replicate_succ, Array.replicate_zero, List.push_toArray, List.append_toArray, List.nil_append, List.cons_append]
  gi_wp2_with (first
    | (refine SX.lsm rfl rfl ?_; first | (refine SX.load_blk rfl (by assumption) (by first | (simp; done) | fail) (by rfl) (by first | exact SX.at0 | exact SX.at1 | exact SX.at2 | exact SX.at3 | exact SX.at4 | exact SX.at5) (by rfl) ?_) | (refine SX.load_old rfl (by assumption) (by first | (simp; done) | fail) (by rfl) (by assumption) (by first | (simp; done) | fail) (by assumption) ?_) | (refine SX.store_blk rfl (by assumption) (by first | (simp; done) | fail) (by rfl) (by first | (go_simp; exact rfl) | fail) (by rfl) (by first | exact SX.at0 | exact SX.at1 | exact SX.at2 | exact SX.at3 | exact SX.at4 | exact SX.at5) (by first | (simp; done) | fail) ?_; intro w1 hs1; simp only [List.set_cons_zero, List.set_cons_succ, List.setIfInBounds_toArray] at hs1) | (refine SX.alc_ptr rfl (by assumption) (by first | (intro W; go_simp; exact rfl) | fail) ?_; intro g1 w1 hs1) | (refine SX.alc_slice rfl (by assumption) (by first | (intro W; go_simp; exact rfl) | fail) ?_; intro g1 w1 hs1) | (refine SX.store_agg rfl (by assumption) (by rfl) (by first | (go_simp; exact rfl) | fail) (by kernel_rfl) (by first | (simp [Value.oneCell']; done) | fail) (by first | exact SX.at0 | exact SX.at1 | exact SX.at2 | exact SX.at3 | exact SX.at4 | exact SX.at5) (by rfl) ?_; intro w1 hs1; simp only [List.set_cons_zero, List.set_cons_succ, List.setIfInBounds_toArray] at hs1) | (refine SX.load_aggB rfl (by assumption) (by first | (simp; done) | fail) (by rfl) (by first | exact SX.at0 | exact SX.at1 | exact SX.at2 | exact SX.at3 | exact SX.at4 | exact SX.at5) (by kernel_rfl) ?_))
    | (refine SX.lsc rfl rfl ?_
       first
         | (refine SX.wp_calls (fun _ => trivial) rfl rfl (by rfl) Try.call32 (by go_simp; rfl) ?_
            refine (SX.call (HB.out _ (by omega) (by omega) _ _ (by assumption))).mono ?_
            rintro e w1 ⟨v, rfl, rfl, hy⟩
            have hs1 := SX.St.call (by assumption) hy
            clear hy
            simp only [List.cons_append, List.nil_append] at hs1
            refine ⟨_, rfl, ?_⟩)
         | (refine SX.wp_calls (fun _ => trivial) rfl rfl (by rfl) Try.call31 (by go_simp; rfl) ?_
            refine (SX.call (HLV.out _ _ _ (HE.out _) (HE.out _) (HE.out _) _)).mono ?_
            rintro e w1 ⟨v, rfl, rfl, hy⟩
            have hs1 := SX.St.call (by assumption) hy
            clear hy
            simp only [List.cons_append, List.nil_append] at hs1
            refine ⟨_, rfl, ?_⟩)))
  refine bodyPost_ret (results_cell_row rfl _ _ _ _ _ _ _ rfl (hs1.blk (j := 0) rfl) (by rfl) rfl (by kernel_rfl)) rfl ?_
  rw [HP.out]
  exact ⟨_, rfl, rfl, hs1.tl⟩

set_option maxRecDepth 100000 in
set_option maxHeartbeats 1000000 in
theorem sameI_any (A B : Option Addr) (n m c d : Nat) (xs ys : List Int) (w : World) (hx : Sl w A (ints .i64 xs)) (hy : Sl w B (ints .i64 ys)) (hlx : xs.length = n) (hly : ys.length = m) (hn : n ≤ 9223372036854775806) (hm : m ≤ 9223372036854775806) :
    Calls Try.prog 20 #[.slice A n c, .slice B m d] w (SX.Ret fun v w' => v = .bool (decide (xs = ys)) ∧ SX.St w [] w' []) := by
  by_cases hnm : n = m
  · subst hnm
    have HX := Lib.hid hlx
    have HY := Lib.hid hly
    clear hlx hly
    refine SX.enter Try.func20 rfl ?_
    simp only [Try.ntmps20, List.size_toArray, List.length_cons, List.length_nil, Nat.reduceAdd, Nat.reduceSub, Array.replicate_succ, Array.replicate_zero, List.push_toArray, List.append_toArray, List.nil_append, List.cons_append]
    gi_wp2
    gi_loopw [5] (fun i wr => ∃ k : Nat, i = .int .i64 (k : Int) ∧ k ≤ n ∧ Hid (xs.take k = ys.take k) ∧ SX.St w [] wr []) (fun i _ => n - (intOf i).toNat)
    case atStart => exact ⟨0, rfl, by omega, Lib.hid rfl, SX.St.start w⟩
    case round =>
      obtain ⟨k, rfl, hkn, hE, hs⟩ := hrel
      by_cases hlt : k < n
      · have hlt' : (k : Int) < n := by omega
        obtain ⟨b, off, rfl, hb, hc⟩ := hx.at (i := (k : Int)) (by omega) (by rw [HX.out]; exact hlt')
        obtain ⟨b', off', rfl, hb', hc'⟩ := hy.at (i := (k : Int)) (by omega) (by rw [HY.out]; exact hlt')
        have HS : Hid (xs.take (k + 1) = xs.take k ++ [elt xs (k : Nat)]) := Lib.hid (take_elt (by rw [HX.out]; exact hlt))
        have HT : Hid (ys.take (k + 1) = ys.take k ++ [elt ys (k : Nat)]) := Lib.hid (take_elt (by rw [HY.out]; exact hlt))
        have HNE : Hid (elt xs (k : Nat) ≠ elt ys (k : Nat) → xs ≠ ys) := Lib.hid (fun h e => h (by rw [e]))
        clear hx hy
        generalize elt xs (k : Nat) = x at *
        generalize elt ys (k : Nat) = y at *
        gi_wp2
        refine SX.region_begin (SX.Keep w [] []) (fun _ => true) mixed ?_
        have hsD := SX.St.drew hs
        generalize World.drew _ = wd at hsD ⊢
        refine SX.take 0 (fun _ => trivial) (by simp only [List.getElem?_toArray, List.getElem?_cons_succ, List.getElem?_cons_zero]; rfl) (by kernel_rfl) (by exact fun _ _ _ h => h) (by rfl) (by intro w' _; go_simp; (try go_bits); rfl) (by exact ⟨_, by assumption, by simp⟩) ?_
        simp only [Act.put, List.setIfInBounds_toArray, List.set_cons_succ, List.set_cons_zero]
        refine SX.take 1 (fun _ => trivial) (by simp only [List.getElem?_toArray, List.getElem?_cons_succ, List.getElem?_cons_zero]; rfl) (by kernel_rfl) (by exact fun _ _ _ h => h) (by rfl) (by intro w' _; go_simp; (try go_bits); rfl) (by exact ⟨_, by assumption, by simp⟩) ?_
        simp only [Act.put, List.setIfInBounds_toArray, List.set_cons_succ, List.set_cons_zero]
        refine SX.take 2 (fun _ => trivial) (by simp only [List.getElem?_toArray, List.getElem?_cons_succ, List.getElem?_cons_zero]; rfl) (by kernel_rfl) (by exact fun _ _ _ h => h) (by rfl) (by intro w' _; go_simp; (try go_bits); rfl) (by exact ⟨_, by assumption, by simp⟩) ?_
        simp only [Act.put, List.setIfInBounds_toArray, List.set_cons_succ, List.set_cons_zero]
        refine SX.take 3 (fun _ => trivial) (by simp only [List.getElem?_toArray, List.getElem?_cons_succ, List.getElem?_cons_zero]; rfl) (by kernel_rfl) (by exact fun _ _ _ h => h) (by rfl) (by first | exact SX.y_load rfl (by first | (simp; done) | fail) rfl (fun _ hk => hk.blk (by first | exact SX.in0 | exact SX.in1 | exact SX.in2 | exact SX.in3 | exact SX.in4) (by rfl)) | exact SX.y_load rfl (by first | (simp; done) | fail) rfl (fun _ hk => hk.old (by assumption) (by first | (simp; done) | fail) (by assumption)) | exact SX.y_loadr rfl (by first | (simp; done) | fail) rfl (by first | exact SX.in0 | exact SX.in1 | exact SX.in2 | exact SX.in3 | exact SX.in4) (by first | assumption | rfl)) (by exact ⟨_, by assumption, by simp⟩) ?_
        simp only [Act.put, List.setIfInBounds_toArray, List.set_cons_succ, List.set_cons_zero]
        refine SX.take 4 (fun _ => trivial) (by simp only [List.getElem?_toArray, List.getElem?_cons_succ, List.getElem?_cons_zero]; rfl) (by kernel_rfl) (by exact fun _ _ _ h => h) (by rfl) (by intro w' _; go_simp; (try go_bits); rfl) (by exact ⟨_, by assumption, by simp⟩) ?_
        simp only [Act.put, List.setIfInBounds_toArray, List.set_cons_succ, List.set_cons_zero]
        refine SX.take 5 (fun _ => trivial) (by simp only [List.getElem?_toArray, List.getElem?_cons_succ, List.getElem?_cons_zero]; rfl) (by kernel_rfl) (by exact fun _ _ _ h => h) (by rfl) (by intro w' _; go_simp; (try go_bits); rfl) (by exact ⟨_, by assumption, by simp⟩) ?_
        simp only [Act.put, List.setIfInBounds_toArray, List.set_cons_succ, List.set_cons_zero]
        refine SX.take 6 (fun _ => trivial) (by simp only [List.getElem?_toArray, List.getElem?_cons_succ, List.getElem?_cons_zero]; rfl) (by kernel_rfl) (by exact fun _ _ _ h => h) (by rfl) (by intro w' _; go_simp; (try go_bits); rfl) (by exact ⟨_, by assumption, by simp⟩) ?_
        simp only [Act.put, List.setIfInBounds_toArray, List.set_cons_succ, List.set_cons_zero]
        refine SX.take 7 (fun _ => trivial) (by simp only [List.getElem?_toArray, List.getElem?_cons_succ, List.getElem?_cons_zero]; rfl) (by kernel_rfl) (by exact fun _ _ _ h => h) (by rfl) (by first | exact SX.y_load rfl (by first | (simp; done) | fail) rfl (fun _ hk => hk.blk (by first | exact SX.in0 | exact SX.in1 | exact SX.in2 | exact SX.in3 | exact SX.in4) (by rfl)) | exact SX.y_load rfl (by first | (simp; done) | fail) rfl (fun _ hk => hk.old (by assumption) (by first | (simp; done) | fail) (by assumption)) | exact SX.y_loadr rfl (by first | (simp; done) | fail) rfl (by first | exact SX.in0 | exact SX.in1 | exact SX.in2 | exact SX.in3 | exact SX.in4) (by first | assumption | rfl)) (by exact ⟨_, by assumption, by simp⟩) ?_
        simp only [Act.put, List.setIfInBounds_toArray, List.set_cons_succ, List.set_cons_zero]
        refine SX.take 8 (fun _ => trivial) (by simp only [List.getElem?_toArray, List.getElem?_cons_succ, List.getElem?_cons_zero]; rfl) (by kernel_rfl) (by exact fun _ _ _ h => h) (by rfl) (by intro w' _; go_simp; (try go_bits); rfl) (by exact ⟨_, by assumption, by simp⟩) ?_
        simp only [Act.put, List.setIfInBounds_toArray, List.set_cons_succ, List.set_cons_zero]
        refine SX.done (by kernel_rfl) ?_
        gi_wp2
        · rename_i h
          go_ret
          have hne : x ≠ y := by simpa using h
          exact ⟨_, rfl, by simp [HNE.out hne], hsD⟩
        · rename_i h
          have he : x = y := by simpa using h
          go_roundw
          case rel => exact ⟨k + 1, by go_num, by omega, Lib.hid (by rw [HS.out, HT.out, hE.out, he]), hsD⟩
          case measure => simp [intOf]; omega
      · have hge : ¬ (k : Int) < n := by omega
        obtain rfl : k = n := by omega
        clear hx hy
        gi_wp2
        go_ret
        refine ⟨_, rfl, ?_, hs⟩
        have := hE.out
        rw [List.take_of_length_le (by rw [HX.out]; exact Nat.le_refl _), List.take_of_length_le (by rw [HY.out]; exact Nat.le_refl _)] at this
        simp [this]
  · have hne : ((n : Int) != m) = true := by simpa using (by omega : ¬ (n : Int) = m)
    have hxy : xs ≠ ys := fun e => hnm (by rw [← hlx, ← hly, e])
    have hs := SX.St.start w
    clear hx hy hlx hly hnm
    refine SX.enter Try.func20 rfl ?_
    simp only [Try.ntmps20, List.size_toArray, List.length_cons, List.length_nil, Nat.reduceAdd, Nat.reduceSub, Array.replicate_succ, Array.replicate_zero, List.push_toArray, List.append_toArray, List.nil_append, List.cons_append]
    have HXY := Lib.hid hxy
    clear hxy
    gi_wp2
    all_goals
      go_ret
      exact ⟨_, rfl, by simp [HXY.out], hs⟩
end Go.Proofs.Ythncbdoiilgnhaa
