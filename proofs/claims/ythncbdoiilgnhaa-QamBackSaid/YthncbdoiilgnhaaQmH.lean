/- qam.Demodulate: the soft values of points. -/
import Derived.Test.YthncbdoiilgnhaaQmG
namespace Go.Proofs.Ythncbdoiilgnhaa
open Go.RowKit
set_option linter.unusedSimpArgs false
set_option linter.unusedVariables false
attribute [local go_sem] Oper.semAt_some

/-- the soft values of a point, up to bit k of both coordinates -/
def ilv (n : Nat) (p : Int × Int) (k : Nat) : List Int := (List.range k).flatMap fun i => [sfv n p.1 i, sfv n p.2 i]
/-- the soft values of points -/
def dml (n : Nat) (ps : List (Int × Int)) : List Int := ps.flatMap fun p => ilv n p n
theorem ilv_length (n : Nat) (p : Int × Int) (k : Nat) : (ilv n p k).length = 2 * k := by
  unfold ilv
  induction k with
  | zero => rfl
  | succ k ih => rw [List.range_succ, List.flatMap_append, List.length_append, ih]; simp; omega
theorem dml_length (n : Nat) (ps : List (Int × Int)) : (dml n ps).length = ps.length * (2 * n) := by
  unfold dml
  induction ps with
  | nil => simp
  | cons a l ih => rw [List.flatMap_cons, List.length_append, ih, ilv_length, List.length_cons, Nat.add_mul]; omega
theorem ilv_succ (n : Nat) (p : Int × Int) (k : Nat) : ilv n p (k + 1) = ilv n p k ++ [sfv n p.1 k, sfv n p.2 k] := by simp [ilv, List.range_succ]
theorem dml_snoc (n : Nat) (ps : List (Int × Int)) (p : Int × Int) : dml n (ps ++ [p]) = dml n ps ++ ilv n p n := by simp [dml]
theorem take_pt {l : List (Int × Int)} {i : Nat} (h : i < l.length) : l.take (i + 1) = l.take i ++ [ptAt l (i : Nat)] := by
  rw [List.take_add_one]
  simp [ptAt, h]
theorem sfl_get (n : Nat) (y : Int) (k : Nat) (hk : k < n) : (ints .i64 (sfl n y))[k]? = some (.int .i64 (sfv n y k)) := by simp [ints, sfl, hk]
theorem ins_bd {p : Int × Int} (h : ins p = true) : -1048576 ≤ p.1 ∧ p.1 ≤ 1048576 ∧ -1048576 ≤ p.2 ∧ p.2 ≤ 1048576 := by
  simp [ins] at h
  omega

set_option maxRecDepth 100000 in
set_option maxHeartbeats 1000000 in
theorem demod_arg (A : Option Addr) (n c : Nat) (m : Int) (w : World) (hb : vm m = false) :
    Calls Try.prog 17 #[.int .i64 m, .slice A n c] w (SX.Ret fun v w' => v = .tuple #[.slice none 0 0, .int .i64 2] ∧ SX.St w [] w' []) := by
  have hs := SX.St.start w
  have hV := Lib.hid (valid_any m)
  rw [hb] at hV
  clear hb
  refine SX.enter Try.func17 rfl ?_
  simp only [Try.ntmps17, List.size_toArray, List.length_cons, List.length_nil, Nat.reduceAdd, Nat.reduceSub, Array.replicate_succ, Array.replicate_zero, List.push_toArray, List.append_toArray, List.nil_append, List.cons_append]
  gi_wp2_with (first
    | (refine SX.lsm rfl rfl ?_; first | (refine SX.load_blk rfl (by assumption) (by first | (simp; done) | fail) (by rfl) (by first | exact SX.at0 | exact SX.at1 | exact SX.at2 | exact SX.at3 | exact SX.at4 | exact SX.at5) (by rfl) ?_) | (refine SX.load_old rfl (by assumption) (by first | (simp; done) | fail) (by rfl) (by assumption) (by first | (simp; done) | fail) (by assumption) ?_) | (refine SX.store_blk rfl (by assumption) (by first | (simp; done) | fail) (by rfl) (by first | (go_simp; exact rfl) | fail) (by rfl) (by first | exact SX.at0 | exact SX.at1 | exact SX.at2 | exact SX.at3 | exact SX.at4 | exact SX.at5) (by first | (simp; done) | fail) ?_; intro w1 hs1; simp only [List.set_cons_zero, List.set_cons_succ, List.setIfInBounds_toArray] at hs1) | (refine SX.alc_ptr rfl (by assumption) (by first | (intro W; go_simp; exact rfl) | fail) ?_; intro g1 w1 hs1) | (refine SX.alc_slice rfl (by assumption) (by first | (intro W; go_simp; exact rfl) | fail) ?_; intro g1 w1 hs1))
    | (refine SX.lsc rfl rfl ?_
       refine SX.wp_calls (fun _ => trivial) rfl rfl (by rfl) Try.call25 (by go_simp; rfl) ?_; refine (SX.call (hV.out _)).mono ?_; rintro e w1 ⟨v, rfl, rfl, hs1⟩; have hs2 := hs.call hs1; refine ⟨_, rfl, ?_⟩))
  refine bodyPost_ret (results_tmp2 rfl _ _ _) rfl ⟨_, rfl, rfl, hs2⟩

set_option maxRecDepth 100000 in
set_option maxHeartbeats 1000000 in
theorem demod_range (A : Option Addr) (n c : Nat) (m : Int) (ps : List (Int × Int)) (w : World) (hr : Sl w A (pcells ps)) (hl : ps.length = n) (hn : n ≤ 9223372036854775807) (hm : vm m = true) (hb : ps.any (fun p => !ins p) = true) :
    Calls Try.prog 17 #[.int .i64 m, .slice A n c] w (SX.Ret fun v w' => v = .tuple #[.slice none 0 0, .int .i64 6] ∧ SX.St w [] w' []) := by
  have hs := SX.St.start w
  have hV := Lib.hid (valid_any m)
  rw [hm] at hV
  have HC := Lib.hid (fun W (hW : SX.St w [] W []) => containsFuncP A n c ps W (hr.st hW) hl hn 34 #[] Try.call34 (fun p => !ins p) (fun x _ W _ => outside_any x.1 x.2 W))
  rw [hb] at HC
  clear hb hm hl
  refine SX.enter Try.func17 rfl ?_
  simp only [Try.ntmps17, List.size_toArray, List.length_cons, List.length_nil, Nat.reduceAdd, Nat.reduceSub, Array.replicate_succ, Array.replicate_zero, List.push_toArray, List.append_toArray, List.nil_append, List.cons_append]
  gi_wp2_with (first
    | (refine SX.lsm rfl rfl ?_; first | (refine SX.load_blk rfl (by assumption) (by first | (simp; done) | fail) (by rfl) (by first | exact SX.at0 | exact SX.at1 | exact SX.at2 | exact SX.at3 | exact SX.at4 | exact SX.at5) (by rfl) ?_) | (refine SX.load_old rfl (by assumption) (by first | (simp; done) | fail) (by rfl) (by assumption) (by first | (simp; done) | fail) (by assumption) ?_) | (refine SX.store_blk rfl (by assumption) (by first | (simp; done) | fail) (by rfl) (by first | (go_simp; exact rfl) | fail) (by rfl) (by first | exact SX.at0 | exact SX.at1 | exact SX.at2 | exact SX.at3 | exact SX.at4 | exact SX.at5) (by first | (simp; done) | fail) ?_; intro w1 hs1; simp only [List.set_cons_zero, List.set_cons_succ, List.setIfInBounds_toArray] at hs1) | (refine SX.alc_ptr rfl (by assumption) (by first | (intro W; go_simp; exact rfl) | fail) ?_; intro g1 w1 hs1) | (refine SX.alc_slice rfl (by assumption) (by first | (intro W; go_simp; exact rfl) | fail) ?_; intro g1 w1 hs1))
    | (refine SX.lsc rfl rfl ?_
       first
         | (refine SX.wp_calls (fun _ => trivial) rfl rfl (by rfl) Try.call25 (by go_simp; rfl) ?_; refine (SX.call (hV.out _)).mono ?_; rintro e w1 ⟨v, rfl, rfl, hs1⟩; have hs2 := hs.call hs1; refine ⟨_, rfl, ?_⟩)
         | (refine SX.wp_calls (fun _ => trivial) rfl rfl (by rfl) Try.call33 (by go_simp; rfl) ?_; refine (SX.call (HC.out _ hs2)).mono ?_; rintro e w2 ⟨v, rfl, rfl, hs3⟩; have hs4 := hs2.call hs3; refine ⟨_, rfl, ?_⟩)))
  refine bodyPost_ret (results_tmp2 rfl _ _ _) rfl ⟨_, rfl, rfl, hs4⟩

set_option maxRecDepth 100000 in
set_option maxHeartbeats 2000000 in
theorem demod_ok (A : Option Addr) (np c n : Nat) (ps : List (Int × Int)) (w : World) (hr : Sl w A (pcells ps)) (hl : ps.length = np) (hnp : np ≤ 600) (hn : 1 ≤ n) (hn3 : n ≤ 3) (hi : ∀ p ∈ ps, ins p = true) :
    Calls Try.prog 17 #[.int .i64 ((2 * n : Nat) : Int), .slice A np c] w (SX.Ret fun v w' => ∃ sv, v = .tuple #[sv, .int .i64 0] ∧ SX.St w [] w' [SX.Ent.row sv 3 1 (np * (2 * n)) (ints .i64 (dml n ps))]) := by
  obtain ⟨i0, hi0, hzz0, hzz1, hzz2⟩ := info_parts info3
  have hv : vm ((2 * n : Nat) : Int) = true := by
    have : n = 1 ∨ n = 2 ∨ n = 3 := by omega
    rcases this with rfl | rfl | rfl <;> rfl
  have hany : ps.any (fun p => !ins p) = false := by
    rw [List.any_eq_false]
    intro x hx
    simp [hi x hx]
  generalize hm : 2 * n = m at *
  have hs := SX.St.start w
  have hV := Lib.hid (valid_any m)
  rw [hv] at hV
  have HC := Lib.hid (fun W (hW : SX.St w [] W []) => containsFuncP A np c ps W (hr.st hW) hl (by omega) 34 #[] Try.call34 (fun p => !ins p) (fun x _ W _ => outside_any x.1 x.2 W))
  rw [hany] at HC
  have HM := Lib.hid hm
  have HL := Lib.hid hl
  have HI := Lib.hid hi
  clear hany hm hl hv hi
  refine SX.enter Try.func17 rfl ?_
  simp only [Try.ntmps17, List.size_toArray, List.length_cons, List.length_nil, Nat.reduceAdd, Nat.reduceSub, Array.replicate_succ, Array.replicate_zero, List.push_toArray, List.append_toArray, List.nil_append, List.cons_append]
  gi_wp2_with (first
    | (refine SX.lsm rfl rfl ?_; first | (refine SX.load_blk rfl (by assumption) (by first | (simp; done) | fail) (by rfl) (by first | exact SX.at0 | exact SX.at1 | exact SX.at2 | exact SX.at3 | exact SX.at4 | exact SX.at5) (by rfl) ?_) | (refine SX.load_old rfl (by assumption) (by first | (simp; done) | fail) (by rfl) (by assumption) (by first | (simp; done) | fail) (by assumption) ?_) | (refine SX.store_blk rfl (by assumption) (by first | (simp; done) | fail) (by rfl) (by first | (go_simp; exact rfl) | fail) (by rfl) (by first | exact SX.at0 | exact SX.at1 | exact SX.at2 | exact SX.at3 | exact SX.at4 | exact SX.at5) (by first | (simp; done) | fail) ?_; intro w1 hs1; simp only [List.set_cons_zero, List.set_cons_succ, List.setIfInBounds_toArray] at hs1) | (refine SX.alc_ptr rfl (by assumption) (by first | (intro W; go_simp; exact rfl) | fail) ?_; intro g1 w1 hs1) | (refine SX.alc_slice rfl (by assumption) (by first | (intro W; go_simp; exact rfl) | fail) ?_; intro g1 w1 hs1))
    | (refine SX.lsc rfl rfl ?_
       first
         | (refine SX.wp_calls (fun _ => trivial) rfl rfl (by rfl) Try.call25 (by go_simp; rfl) ?_; refine (SX.call (hV.out _)).mono ?_; rintro e w1 ⟨v, rfl, rfl, hs1⟩; have hs2 := hs.call hs1; refine ⟨_, rfl, ?_⟩)
         | (refine SX.wp_calls (fun _ => trivial) rfl rfl (by rfl) Try.call33 (by go_simp; rfl) ?_; refine (SX.call (HC.out _ hs2)).mono ?_; rintro e w2 ⟨v, rfl, rfl, hs3⟩; have hs4 := hs2.call hs3; refine ⟨_, rfl, ?_⟩)))
  gi_loopw [6, 21] (fun v i wr => ∃ j : Nat, i = .int .i64 (j : Int) ∧ j ≤ np ∧ SX.St w [] wr [SX.Ent.row v 3 1 (j * m) (ints .i64 (dml n (ps.take j)))]) (fun _ i _ => np - (intOf i).toNat)
  case atStart => exact ⟨0, rfl, by omega, by simpa [dml, ints] using hs4.nil _ _⟩
  case round =>
    clear hs4 hs3 hs2 hs1 hs
    obtain ⟨j, rfl, hjn, hs⟩ := hrel
    by_cases hlt : j < np
    · have hlt' : (j : Int) < np := by omega
      obtain ⟨b, off, rfl, hb, hc⟩ := hr.pt (z := (j : Int)) (by omega) (by rw [HL.out]; exact hlt')
      have HCe := Lib.hid (fun k u hu => (hs.oldcell (p := ⟨b, off + (j : Int).toNat * 2 + k, none⟩) hb (by simp)).trans (hc k u hu))
      obtain ⟨hb1, hb2, hb3, hb4⟩ := ins_bd (HI.out _ (ptAt_mem (l := ps) (z := (j : Int)) (by omega) (by rw [HL.out]; exact hlt')))
      have HS : Hid (dml n (ps.take (j + 1)) = dml n (ps.take j) ++ ilv n (ptAt ps (j : Nat)) n) := by rw [take_pt (by rw [HL.out]; exact hlt), dml_snoc]; exact Lib.hid rfl
      clear hc hr
      obtain ⟨pt, HP⟩ : ∃ pt, Hid (pt = ptAt ps (j : Int)) := ⟨_, Lib.hid rfl⟩
      rw [← HP.out] at HS HCe hb1 hb2 hb3 hb4
      obtain ⟨px, py⟩ := pt
      simp only [] at HCe hb1 hb2 hb3 hb4
      gi_wp2_with (first
        | (refine SX.lsm rfl rfl ?_; first | (refine SX.load_blk rfl (by assumption) (by first | (simp; done) | fail) (by rfl) (by first | exact SX.at0 | exact SX.at1 | exact SX.at2 | exact SX.at3 | exact SX.at4 | exact SX.at5) (by rfl) ?_) | (refine SX.load_old rfl (by assumption) (by first | (simp; done) | fail) (by rfl) (by assumption) (by first | (simp; done) | fail) (by assumption) ?_) | (refine SX.store_blk rfl (by assumption) (by first | (simp; done) | fail) (by rfl) (by first | (go_simp; exact rfl) | fail) (by rfl) (by first | exact SX.at0 | exact SX.at1 | exact SX.at2 | exact SX.at3 | exact SX.at4 | exact SX.at5) (by first | (simp; done) | fail) ?_; intro w1 hs1; simp only [List.set_cons_zero, List.set_cons_succ, List.setIfInBounds_toArray] at hs1) | (refine SX.alc_ptr rfl (by assumption) (by first | (intro W; go_simp; exact rfl) | fail) ?_; intro g1 w1 hs1) | (refine SX.alc_slice rfl (by assumption) (by first | (intro W; go_simp; exact rfl) | fail) ?_; intro g1 w1 hs1) | (refine SX.store_agg rfl (by assumption) (by rfl) (by first | (go_simp; exact rfl) | fail) (by kernel_rfl) (by first | (simp [Value.oneCell']; done) | fail) (by first | exact SX.at0 | exact SX.at1 | exact SX.at2 | exact SX.at3 | exact SX.at4 | exact SX.at5) (by rfl) ?_; intro w1 hs1; simp only [List.set_cons_zero, List.set_cons_succ, List.setIfInBounds_toArray] at hs1) | (refine SX.load_aggB rfl (by assumption) (by first | (simp; done) | fail) (by rfl) (by first | exact SX.at0 | exact SX.at1 | exact SX.at2 | exact SX.at3 | exact SX.at4 | exact SX.at5) (by kernel_rfl) ?_))
        | (refine SX.lsm rfl rfl ?_; refine SX.load_agg _ rfl (by first | (simp; done) | fail) (by kernel_rfl) (by rfl) HCe.out ?_))
      have hq1 : (m : Int).tdiv 2 = n := by rw [← HM.out]; simp
      have hq2 : (m : Int) / 2 = n := by rw [← HM.out]; omega
      refine SX.region_begin (SX.Keep w [] [SX.Ent.blk g1 32 #[.int .i64 px, .int .i64 py]]) (fun _ => true) mixed ?_
      have hsD := SX.St.drew hs1
      generalize World.drew _ = wd at hsD ⊢
      refine SX.take 0 (fun _ => trivial) (by simp only [List.getElem?_toArray, List.getElem?_cons_succ, List.getElem?_cons_zero]; rfl) (by kernel_rfl) (by exact fun _ _ _ h => h) (by rfl) (by intro w' _; go_simp; (try go_bits); rfl) (by exact ⟨_, by assumption, by simp⟩) ?_
      simp only [Act.put, List.setIfInBounds_toArray, List.set_cons_succ, List.set_cons_zero]
      refine SX.take 1 (fun _ => trivial) (by simp only [List.getElem?_toArray, List.getElem?_cons_succ, List.getElem?_cons_zero]; rfl) (by kernel_rfl) (by exact fun _ _ _ h => h) (by rfl) (by intro w' _; go_simp; (try go_bits); rfl) (by exact ⟨_, by assumption, by simp⟩) ?_
      simp only [Act.put, List.setIfInBounds_toArray, List.set_cons_succ, List.set_cons_zero]
      refine SX.take 2 (fun _ => trivial) (by simp only [List.getElem?_toArray, List.getElem?_cons_succ, List.getElem?_cons_zero]; rfl) (by kernel_rfl) (by exact fun _ _ _ h => h) (by rfl) (by intro w' _; go_simp; (try go_bits); rfl) (by exact ⟨_, by assumption, by simp⟩) ?_
      simp only [Act.put, List.setIfInBounds_toArray, List.set_cons_succ, List.set_cons_zero]
      refine SX.take 3 (fun _ => trivial) (by simp only [List.getElem?_toArray, List.getElem?_cons_succ, List.getElem?_cons_zero]; rfl) (by kernel_rfl) (by exact fun _ _ _ h => h) (by rfl) (by first | exact SX.y_load rfl (by first | (simp; done) | fail) rfl (fun _ hk => hk.blk (by first | exact SX.in0 | exact SX.in1 | exact SX.in2 | exact SX.in3 | exact SX.in4) (by rfl)) | exact SX.y_load rfl (by first | (simp; done) | fail) rfl (fun _ hk => hk.old (by assumption) (by first | (simp; done) | fail) (by assumption)) | exact SX.y_loadr rfl (by first | (simp; done) | fail) rfl (by first | exact SX.in0 | exact SX.in1 | exact SX.in2 | exact SX.in3 | exact SX.in4) (by first | assumption | rfl)) (by exact ⟨_, by assumption, by simp⟩) ?_
      simp only [Act.put, List.setIfInBounds_toArray, List.set_cons_succ, List.set_cons_zero]
      refine SX.take 5 (fun _ => trivial) (by simp only [List.getElem?_toArray, List.getElem?_cons_succ, List.getElem?_cons_zero]; rfl) (by kernel_rfl) (by exact fun _ _ _ h => h) (by rfl) (by intro w' _; go_simp; (try go_bits); rfl) (by exact ⟨_, by assumption, by simp⟩) ?_
      simp only [Act.put, List.setIfInBounds_toArray, List.set_cons_succ, List.set_cons_zero]
      refine SX.take 6 (fun _ => trivial) (by simp only [List.getElem?_toArray, List.getElem?_cons_succ, List.getElem?_cons_zero]; rfl) (by kernel_rfl) (by exact fun _ _ _ h => h) (by rfl) (by intro w' _; go_simp; (try go_bits); rfl) (by exact ⟨_, by assumption, by simp⟩) ?_
      simp only [Act.put, List.setIfInBounds_toArray, List.set_cons_succ, List.set_cons_zero]
      refine SX.take 7 (fun _ => trivial) (by simp only [List.getElem?_toArray, List.getElem?_cons_succ, List.getElem?_cons_zero]; rfl) (by kernel_rfl) (by exact fun _ _ _ h => h) (by rfl) (by intro w' _; go_simp; (try go_bits); rfl) (by exact ⟨_, by assumption, by simp⟩) ?_
      simp only [Act.put, List.setIfInBounds_toArray, List.set_cons_succ, List.set_cons_zero]
      refine SX.take 8 (fun _ => trivial) (by simp only [List.getElem?_toArray, List.getElem?_cons_succ, List.getElem?_cons_zero]; rfl) (by kernel_rfl) (by exact fun _ _ _ h => h) (by rfl) (by first | exact SX.y_load rfl (by first | (simp; done) | fail) rfl (fun _ hk => hk.blk (by first | exact SX.in0 | exact SX.in1 | exact SX.in2 | exact SX.in3 | exact SX.in4) (by rfl)) | exact SX.y_load rfl (by first | (simp; done) | fail) rfl (fun _ hk => hk.old (by assumption) (by first | (simp; done) | fail) (by assumption)) | exact SX.y_loadr rfl (by first | (simp; done) | fail) rfl (by first | exact SX.in0 | exact SX.in1 | exact SX.in2 | exact SX.in3 | exact SX.in4) (by first | assumption | rfl)) (by exact ⟨_, by assumption, by simp⟩) ?_
      simp only [Act.put, List.setIfInBounds_toArray, List.set_cons_succ, List.set_cons_zero]
      refine SX.next 4 (by simp only [List.getElem?_toArray, List.getElem?_cons_succ, List.getElem?_cons_zero]; rfl) (by kernel_rfl) (by rfl) ?_
      refine SX.wp_calls (fun _ => trivial) rfl rfl (by rfl) Try.call36 (by go_simp; rfl) ?_
      refine (SX.call (softs_any n px _ hn hn3 hb1 hb2)).mono ?_
      rintro e y1 ⟨v, rfl, gi, rfl, hy1⟩
      have hz1 := hsD.call hy1
      simp only [List.cons_append, List.nil_append] at hz1
      refine ⟨_, rfl, ?_⟩
      refine ⟨fun _ => ⟨_, by assumption, by simp⟩, ?_⟩
      simp only [Act.put, List.setIfInBounds_toArray, List.set_cons_succ, List.set_cons_zero]
      refine SX.next 9 (by simp only [List.getElem?_toArray, List.getElem?_cons_succ, List.getElem?_cons_zero]; rfl) (by kernel_rfl) (by rfl) ?_
      refine SX.wp_calls (fun _ => trivial) rfl rfl (by rfl) Try.call36 (by go_simp; rfl) ?_
      refine (SX.call (softs_any n py _ hn hn3 hb3 hb4)).mono ?_
      rintro e y2 ⟨v, rfl, gq, rfl, hy2⟩
      have hz2 := hz1.call hy2
      simp only [List.cons_append, List.nil_append] at hz2
      refine ⟨_, rfl, ?_⟩
      refine ⟨fun _ => ⟨_, by assumption, by simp⟩, ?_⟩
      simp only [Act.put, List.setIfInBounds_toArray, List.set_cons_succ, List.set_cons_zero]
      refine SX.take 10 (fun _ => trivial) (by simp only [List.getElem?_toArray, List.getElem?_cons_succ, List.getElem?_cons_zero]; rfl) (by kernel_rfl) (by exact fun _ _ _ h => h) (by rfl) (by intro w' _; go_simp; (try go_bits); rfl) (by exact ⟨_, by assumption, by simp⟩) ?_
      simp only [Act.put, List.setIfInBounds_toArray, List.set_cons_succ, List.set_cons_zero]
      refine SX.take 11 (fun _ => trivial) (by simp only [List.getElem?_toArray, List.getElem?_cons_succ, List.getElem?_cons_zero]; rfl) (by kernel_rfl) (by exact fun _ _ _ h => h) (by rfl) (by intro w' _; go_simp; (try go_bits); rfl) (by exact ⟨_, by assumption, by simp⟩) ?_
      simp only [Act.put, List.setIfInBounds_toArray, List.set_cons_succ, List.set_cons_zero]
      refine SX.done (by kernel_rfl) ?_
      have hz3 : SX.St w [] y2 [SX.Ent.row u6 3 1 (j * m + 2 * 0) (ints .i64 (dml n (ps.take j) ++ ilv n (px, py) 0)), SX.Ent.row (.slice (some ⟨gi, 0, none⟩) n n) 3 1 n (ints .i64 (sfl n px)), SX.Ent.row (.slice (some ⟨gq, 0, none⟩) n n) 3 1 n (ints .i64 (sfl n py))] := by
        have : SX.St w [] y2 [_, _, _] := hz2.sel [3, 1, 0] (by decide)
        simpa [ilv] using this
      have hjm : j * m ≤ 3600 := by
        have h1 : j * m ≤ 600 * 6 := Nat.mul_le_mul (by omega) (by have := HM.out; omega)
        omega
      generalize hjm' : j * m = J at *
      have HJ := Lib.hid hjm'
      clear hq1 hq2 hz2 hz1 hsD hs1 hy1 hy2 hs HCe hjm'
      generalize dml n (ps.take j) = ds at *
      gi_wp2
      gi_loopw [6, 37] (fun v i wr => ∃ k : Nat, i = .int .i64 (k : Int) ∧ k ≤ n ∧ SX.St w [] wr [SX.Ent.row v 3 1 (J + 2 * k) (ints .i64 (ds ++ ilv n (px, py) k)), SX.Ent.row (.slice (some ⟨gi, 0, none⟩) n n) 3 1 n (ints .i64 (sfl n px)), SX.Ent.row (.slice (some ⟨gq, 0, none⟩) n n) 3 1 n (ints .i64 (sfl n py))]) (fun _ i _ => n - (intOf i).toNat)
      case atStart => exact ⟨0, rfl, by omega, hz3⟩
      case round =>
        clear hz3
        obtain ⟨k, rfl, hkn, hs⟩ := hrel
        by_cases hk : k < n
        · have hk' : (k : Int) < n := by omega
          have hgi := sfl_get n px k hk
          have hgq := sfl_get n py k hk
          have HI2 := Lib.hid (ilv_succ n (px, py) k)
          generalize sfv n px k = sx at *
          generalize sfv n py k = sy at *
          gi_wp2
          refine SX.region_begin (SX.Keep w [] [SX.Ent.row (.slice (some ⟨gi, 0, none⟩) n n) 3 1 n (ints .i64 (sfl n px)), SX.Ent.row (.slice (some ⟨gq, 0, none⟩) n n) 3 1 n (ints .i64 (sfl n py))]) (fun _ => true) mixed ?_
          have hsD := SX.St.drew hs
          generalize World.drew _ = wd at hsD ⊢
          refine SX.take 0 (fun _ => trivial) (by simp only [List.getElem?_toArray, List.getElem?_cons_succ, List.getElem?_cons_zero]; rfl) (by kernel_rfl) (by exact fun _ _ _ h => h) (by rfl) (by intro w' _; go_simp; (try go_bits); rfl) (by exact ⟨_, by assumption, by simp⟩) ?_
          simp only [Act.put, List.setIfInBounds_toArray, List.set_cons_succ, List.set_cons_zero]
          refine SX.take 1 (fun _ => trivial) (by simp only [List.getElem?_toArray, List.getElem?_cons_succ, List.getElem?_cons_zero]; rfl) (by kernel_rfl) (by exact fun _ _ _ h => h) (by rfl) (by intro w' _; go_simp; (try go_bits); rfl) (by exact ⟨_, by assumption, by simp⟩) ?_
          simp only [Act.put, List.setIfInBounds_toArray, List.set_cons_succ, List.set_cons_zero]
          refine SX.take 2 (fun _ => trivial) (by simp only [List.getElem?_toArray, List.getElem?_cons_succ, List.getElem?_cons_zero]; rfl) (by kernel_rfl) (by exact fun _ _ _ h => h) (by rfl) (by intro w' _; go_simp; (try go_bits); rfl) (by exact ⟨_, by assumption, by simp⟩) ?_
          simp only [Act.put, List.setIfInBounds_toArray, List.set_cons_succ, List.set_cons_zero]
          refine SX.take 3 (fun _ => trivial) (by simp only [List.getElem?_toArray, List.getElem?_cons_succ, List.getElem?_cons_zero]; rfl) (by kernel_rfl) (by exact fun _ _ _ h => h) (by rfl) (by intro w' _; go_simp; (try go_bits); rfl) (by exact ⟨_, by assumption, by simp⟩) ?_
          simp only [Act.put, List.setIfInBounds_toArray, List.set_cons_succ, List.set_cons_zero]
          refine SX.take 4 (fun _ => trivial) (by simp only [List.getElem?_toArray, List.getElem?_cons_succ, List.getElem?_cons_zero]; rfl) (by kernel_rfl) (by exact fun _ _ _ h => h) (by rfl) (by first | exact SX.y_load rfl (by first | (simp; done) | fail) rfl (fun _ hk => hk.blk (by first | exact SX.in0 | exact SX.in1 | exact SX.in2 | exact SX.in3 | exact SX.in4) (by rfl)) | exact SX.y_load rfl (by first | (simp; done) | fail) rfl (fun _ hk => hk.old (by assumption) (by first | (simp; done) | fail) (by assumption)) | exact SX.y_loadr rfl (by first | (simp; done) | fail) rfl (by first | exact SX.in0 | exact SX.in1 | exact SX.in2 | exact SX.in3 | exact SX.in4) (by first | assumption | rfl)) (by exact ⟨_, by assumption, by simp⟩) ?_
          simp only [Act.put, List.setIfInBounds_toArray, List.set_cons_succ, List.set_cons_zero]
          refine SX.take 5 (fun _ => trivial) (by simp only [List.getElem?_toArray, List.getElem?_cons_succ, List.getElem?_cons_zero]; rfl) (by kernel_rfl) (by exact fun _ _ _ h => h) (by rfl) (by intro w' _; go_simp; (try go_bits); rfl) (by exact ⟨_, by assumption, by simp⟩) ?_
          simp only [Act.put, List.setIfInBounds_toArray, List.set_cons_succ, List.set_cons_zero]
          refine SX.take 6 (fun _ => trivial) (by simp only [List.getElem?_toArray, List.getElem?_cons_succ, List.getElem?_cons_zero]; rfl) (by kernel_rfl) (by exact fun _ _ _ h => h) (by rfl) (by intro w' _; go_simp; (try go_bits); rfl) (by exact ⟨_, by assumption, by simp⟩) ?_
          simp only [Act.put, List.setIfInBounds_toArray, List.set_cons_succ, List.set_cons_zero]
          refine SX.take 7 (fun _ => trivial) (by simp only [List.getElem?_toArray, List.getElem?_cons_succ, List.getElem?_cons_zero]; rfl) (by kernel_rfl) (by exact fun _ _ _ h => h) (by rfl) (by intro w' _; go_simp; (try go_bits); rfl) (by exact ⟨_, by assumption, by simp⟩) ?_
          simp only [Act.put, List.setIfInBounds_toArray, List.set_cons_succ, List.set_cons_zero]
          refine SX.take 8 (fun _ => trivial) (by simp only [List.getElem?_toArray, List.getElem?_cons_succ, List.getElem?_cons_zero]; rfl) (by kernel_rfl) (by exact fun _ _ _ h => h) (by rfl) (by first | exact SX.y_load rfl (by first | (simp; done) | fail) rfl (fun _ hk => hk.blk (by first | exact SX.in0 | exact SX.in1 | exact SX.in2 | exact SX.in3 | exact SX.in4) (by rfl)) | exact SX.y_load rfl (by first | (simp; done) | fail) rfl (fun _ hk => hk.old (by assumption) (by first | (simp; done) | fail) (by assumption)) | exact SX.y_loadr rfl (by first | (simp; done) | fail) rfl (by first | exact SX.in0 | exact SX.in1 | exact SX.in2 | exact SX.in3 | exact SX.in4) (by first | assumption | rfl)) (by exact ⟨_, by assumption, by simp⟩) ?_
          simp only [Act.put, List.setIfInBounds_toArray, List.set_cons_succ, List.set_cons_zero]
          refine SX.next 9 (by simp only [List.getElem?_toArray, List.getElem?_cons_succ, List.getElem?_cons_zero]; rfl) (by kernel_rfl) (by rfl) ?_
          refine SX.alc_slice rfl (by assumption) (by intro W; go_simp; exact rfl) ?_
          intro g5 y5 hz5
          refine ⟨fun _ => ⟨_, by assumption, by simp⟩, ?_⟩
          simp only [Act.put, List.setIfInBounds_toArray, List.set_cons_succ, List.set_cons_zero]
          refine SX.next 10 (by simp only [List.getElem?_toArray, List.getElem?_cons_succ, List.getElem?_cons_zero]; rfl) (by kernel_rfl) (by rfl) ?_
          refine SX.append_blk (j := 1) (j' := 0) rfl hz5 Try.underlying38 hi0 hzz0 hzz1 hzz2 rfl (by decide) (by rfl) (by rfl) (by rfl) (by rfl) (by rfl) (by simp [Value.oneCell']) (by decide) (by unfold maxLen; omega) (by omega) ?_
          intro g6 cap6 y6 hz6
          simp only [List.set_cons_succ, List.set_cons_zero, List.eraseIdx_cons_succ, List.eraseIdx_cons_zero] at hz6
          refine ⟨fun _ => ⟨_, by assumption, by simp⟩, ?_⟩
          simp only [Act.put, List.setIfInBounds_toArray, List.set_cons_succ, List.set_cons_zero]
          refine SX.take 11 (fun _ => trivial) (by simp only [List.getElem?_toArray, List.getElem?_cons_succ, List.getElem?_cons_zero]; rfl) (by kernel_rfl) (by exact fun _ _ _ h => h) (by rfl) (by intro w' _; go_simp; (try go_bits); rfl) (by exact ⟨_, by assumption, by simp⟩) ?_
          simp only [Act.put, List.setIfInBounds_toArray, List.set_cons_succ, List.set_cons_zero]
          refine SX.done (by kernel_rfl) ?_
          gi_wp2
          go_roundw
          case rel =>
            refine ⟨k + 1, by go_num, by omega, ?_⟩
            rw [HI2.out, show J + 2 * (k + 1) = J + 2 * k + 2 from by omega, ← List.append_assoc]
            simpa [ints] using hz6
          case measure => simp [intOf]; omega
        · have hk' : ¬ (k : Int) < n := by omega
          obtain rfl : k = n := by omega
          gi_wp2
          go_roundw
          case rel =>
            refine ⟨j + 1, by go_num, by omega, ?_⟩
            rw [HS.out]
            have e : (j + 1) * m = J + 2 * k := by rw [Nat.add_mul, HJ.out, ← HM.out]; omega
            rw [e]
            exact hs.sub (List.Sublist.cons_cons _ (List.nil_sublist _))
          case measure => simp [intOf]; omega
    · have hge : ¬ (j : Int) < np := by omega
      obtain rfl : j = np := by omega
      rw [List.take_of_length_le (by rw [HL.out]; exact Nat.le_refl _)] at hs
      clear hr
      gi_wp2
      refine bodyPost_ret (results_tmp2 rfl _ _ _) rfl ⟨_, rfl, _, rfl, hs⟩
end Go.Proofs.Ythncbdoiilgnhaa
