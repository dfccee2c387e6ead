/- slices.Chunk over bytes. -/
import Derived.Test.YthncbdoiilgnhaaQmA
namespace Go.Proofs.Ythncbdoiilgnhaa
open Go.RowKit
set_option linter.unusedSimpArgs false
set_option linter.unusedVariables false

theorem range_prefix {j q : Nat} (h : j < q) : List.range (j + 1) <+: List.range q := by
  refine ⟨(List.range (q - (j + 1))).map (j + 1 + ·), ?_⟩
  rw [← List.range_add]
  congr 1
  omega

set_option maxRecDepth 100000 in
set_option maxHeartbeats 400000 in
theorem chunk_any (A : Option Addr) (n c : Nat) (m : Int) (hm : 1 ≤ m) (w : World) :
    Calls Try.prog 28 #[.slice A n c, .int .i64 m] w (SX.Ret fun v w' => ∃ g1 g2, v = .func (.func 42) #[] #[.pointer (some ⟨g1, 0, none⟩), .pointer (some ⟨g2, 0, none⟩)] ∧
      SX.St w [] w' [SX.Ent.blk g2 3 #[.int .i64 m], SX.Ent.blk g1 23 #[.slice A n c]]) := by
  refine SX.enter Try.func28 rfl ?_
  simp only [Try.ntmps28, List.size_toArray, List.length_cons, List.length_nil, Nat.reduceAdd, Nat.reduceSub, Array.replicate_succ, Array.replicate_zero, List.push_toArray, List.append_toArray, List.nil_append, List.cons_append]
  have hs := SX.St.start w
  gi_wp2_with (first | (refine SX.lsm rfl rfl ?_; first | (refine SX.load_blk rfl (by assumption) (by first | (simp; done) | fail) (by rfl) (by first | exact SX.at0 | exact SX.at1 | exact SX.at2 | exact SX.at3 | exact SX.at4 | exact SX.at5) (by rfl) ?_) | (refine SX.load_old rfl (by assumption) (by first | (simp; done) | fail) (by rfl) (by assumption) (by first | (simp; done) | fail) (by assumption) ?_) | (refine SX.store_blk rfl (by assumption) (by first | (simp; done) | fail) (by rfl) (by first | (go_simp; exact rfl) | fail) (by rfl) (by first | exact SX.at0 | exact SX.at1 | exact SX.at2 | exact SX.at3 | exact SX.at4 | exact SX.at5) (by first | (simp; done) | fail) ?_; intro w1 hs1; simp only [List.set_cons_zero, List.set_cons_succ, List.setIfInBounds_toArray] at hs1) | (refine SX.alc_ptr rfl (by assumption) (by first | (intro W; go_simp; exact rfl) | fail) ?_; intro g1 w1 hs1) | (refine SX.alc_slice rfl (by assumption) (by first | (intro W; go_simp; exact rfl) | fail) ?_; intro g1 w1 hs1)))
  go_ret
  exact ⟨_, rfl, _, _, rfl, hs1⟩

set_option maxRecDepth 100000 in
set_option maxHeartbeats 400000 in
theorem chunk_seq (A : Option Addr) (b off n c q g1 g2 : Nat) (m : Nat) (hm : 1 ≤ m) (hm6 : m ≤ 6) (hn : n = q * m) (hA : 0 < n → A = some ⟨b, off, none⟩) (hnc : n ≤ c) (hn6 : n ≤ 600) (hc : (c : Int) ≤ 9223372036854775807) :
    SX.SeqC Try.prog 42 #[.pointer (some ⟨g1, 0, none⟩), .pointer (some ⟨g2, 0, none⟩)] (fun (j : Nat) args Lx => Lx = [] ∧ args = #[.slice (some ⟨b, off + j * m, none⟩) m m])
      [SX.Ent.blk g2 3 #[.int .i64 m], SX.Ent.blk g1 23 #[.slice A n c]] (fun _ _ => True) (List.range q) := by
  intro l w0 M I Ix W L0 _ hY h0 hs
  refine SX.enter Try.func42 rfl ?_
  simp only [Try.ntmps42, List.size_toArray, List.length_cons, List.length_nil, Nat.reduceAdd, Nat.reduceSub, Array.replicate_succ, Array.replicate_zero, List.push_toArray, List.append_toArray, List.nil_append, List.cons_append]
  have HY := Lib.hid hY
  have HN := Lib.hid hn
  clear hY hn
  gi_wp2
  gi_loopw [4] (fun i wr => ∃ (j : Nat) (z : Int), i = .int .i64 z ∧ Hid (z = j * m) ∧ 0 ≤ z ∧ z ≤ n ∧ j ≤ q ∧ ∃ L, I (List.range j) L ∧ SX.St w0 M wr (L ++ [SX.Ent.blk g2 3 #[.int .i64 m], SX.Ent.blk g1 23 #[.slice A n c]])) (fun i _ => n - (intOf i).toNat)
  case atStart => exact ⟨0, 0, rfl, Lib.hid (by simp), by omega, by omega, by omega, L0, h0, hs⟩
  case round =>
    clear hs h0
    obtain ⟨j, z, rfl, hz, hz0, hzn, hjq, L, hi, hs0⟩ := hrel
    have hs := hs0.perm (List.perm_append_comm (l₁ := [SX.Ent.blk g2 3 #[.int .i64 m], SX.Ent.blk g1 23 #[.slice A n c]]) (l₂ := L))
    simp only [List.cons_append, List.nil_append] at hs
    by_cases hlt : z < n
    · obtain rfl := hA (by omega)
      gi_wp2_with (first | (refine SX.lsm rfl rfl ?_; first | (refine SX.load_blk rfl (by assumption) (by first | (simp; done) | fail) (by rfl) (by first | exact SX.at0 | exact SX.at1 | exact SX.at2 | exact SX.at3 | exact SX.at4 | exact SX.at5) (by rfl) ?_) | (refine SX.load_old rfl (by assumption) (by first | (simp; done) | fail) (by rfl) (by assumption) (by first | (simp; done) | fail) (by assumption) ?_) | (refine SX.store_blk rfl (by assumption) (by first | (simp; done) | fail) (by rfl) (by first | (go_simp; exact rfl) | fail) (by rfl) (by first | exact SX.at0 | exact SX.at1 | exact SX.at2 | exact SX.at3 | exact SX.at4 | exact SX.at5) (by first | (simp; done) | fail) ?_; intro w1 hs1; simp only [List.set_cons_zero, List.set_cons_succ, List.setIfInBounds_toArray] at hs1) | (refine SX.alc_ptr rfl (by assumption) (by first | (intro W; go_simp; exact rfl) | fail) ?_; intro g1 w1 hs1) | (refine SX.alc_slice rfl (by assumption) (by first | (intro W; go_simp; exact rfl) | fail) ?_; intro g1 w1 hs1)))
      have hj' : j < q := by
        rcases Nat.lt_or_ge j q with h | h
        · exact h
        · exfalso
          have e : j = q := by omega
          have h1 := hz.out
          have h2 := HN.out
          rw [e] at h1
          rw [h2] at hlt
          simp at hlt
          omega
      have hzm : z + m ≤ n := by
        have h1 := hz.out
        have h2 := HN.out
        have h3 : (j + 1) * m ≤ q * m := Nat.mul_le_mul_right m hj'
        have h4 : ((j + 1) * m : Nat) = j * m + m := by rw [Nat.add_mul, Nat.one_mul]
        have h5 : ((j * m : Nat) : Int) = j * m := by simp
        omega
      have hz1 : z ≤ (n : Int) := hzn
      have hz2 : (z.toNat : Int) = z := by omega
      have hc1 : (n : Int) ≤ c := by omega
      have f1 : ¬ c = z.toNat := by omega
      have f2 : ¬ (n - z.toNat < m) := by omega
      refine SX.region_begin (SX.Keep w0 M [SX.Ent.blk g2 3 #[.int .i64 m], SX.Ent.blk g1 23 #[.slice (some ⟨b, off, none⟩) n c]]) (fun _ => true) mixed ?_
      have hsD := SX.St.drew hs
      generalize World.drew _ = wd at hsD ⊢
      refine SX.take 0 (fun _ => trivial) (by simp only [List.getElem?_toArray, List.getElem?_cons_succ, List.getElem?_cons_zero]; rfl) (by kernel_rfl) (by exact fun _ _ _ h => h) (by rfl) (by first | exact SX.y_load rfl (by first | (simp; done) | fail) rfl (fun _ hk => hk.blk (by first | exact SX.in0 | exact SX.in1 | exact SX.in2 | exact SX.in3 | exact SX.in4) (by rfl)) | exact SX.y_load rfl (by first | (simp; done) | fail) rfl (fun _ hk => hk.old (by assumption) (by first | (simp; done) | fail) (by assumption)) | exact SX.y_loadr rfl (by first | (simp; done) | fail) rfl (by first | exact SX.in0 | exact SX.in1 | exact SX.in2 | exact SX.in3 | exact SX.in4) (by first | assumption | rfl)) (by exact ⟨_, by assumption, by simp⟩) ?_
      simp only [Act.put, List.setIfInBounds_toArray, List.set_cons_succ, List.set_cons_zero]
      refine SX.take 1 (fun _ => trivial) (by simp only [List.getElem?_toArray, List.getElem?_cons_succ, List.getElem?_cons_zero]; rfl) (by kernel_rfl) (by exact fun _ _ _ h => h) (by rfl) (by first | exact SX.y_load rfl (by first | (simp; done) | fail) rfl (fun _ hk => hk.blk (by first | exact SX.in0 | exact SX.in1 | exact SX.in2 | exact SX.in3 | exact SX.in4) (by rfl)) | exact SX.y_load rfl (by first | (simp; done) | fail) rfl (fun _ hk => hk.old (by assumption) (by first | (simp; done) | fail) (by assumption)) | exact SX.y_loadr rfl (by first | (simp; done) | fail) rfl (by first | exact SX.in0 | exact SX.in1 | exact SX.in2 | exact SX.in3 | exact SX.in4) (by first | assumption | rfl)) (by exact ⟨_, by assumption, by simp⟩) ?_
      simp only [Act.put, List.setIfInBounds_toArray, List.set_cons_succ, List.set_cons_zero]
      refine SX.take 2 (fun _ => trivial) (by simp only [List.getElem?_toArray, List.getElem?_cons_succ, List.getElem?_cons_zero]; rfl) (by kernel_rfl) (by exact fun _ _ _ h => h) (by rfl) (by intro w' _; go_simp; (try go_bits); rfl) (by exact ⟨_, by assumption, by simp⟩) ?_
      simp only [Act.put, List.setIfInBounds_toArray, List.set_cons_succ, List.set_cons_zero]
      refine SX.take 3 (fun _ => trivial) (by simp only [List.getElem?_toArray, List.getElem?_cons_succ, List.getElem?_cons_zero]; rfl) (by kernel_rfl) (by exact fun _ _ _ h => h) (by rfl) (by intro w' _; go_simp; (try go_bits); rfl) (by exact ⟨_, by assumption, by simp⟩) ?_
      simp only [Act.put, List.setIfInBounds_toArray, List.set_cons_succ, List.set_cons_zero]
      refine SX.take 4 (fun _ => trivial) (by simp only [List.getElem?_toArray, List.getElem?_cons_succ, List.getElem?_cons_zero]; rfl) (by kernel_rfl) (by exact fun _ _ _ h => h) (by rfl) (by intro w' _; go_simp; (try go_bits); rfl) (by exact ⟨_, by assumption, by simp⟩) ?_
      simp only [Act.put, List.setIfInBounds_toArray, List.set_cons_succ, List.set_cons_zero]
      refine SX.take 5 (fun _ => trivial) (by simp only [List.getElem?_toArray, List.getElem?_cons_succ, List.getElem?_cons_zero]; rfl) (by kernel_rfl) (by exact fun _ _ _ h => h) (by rfl) (by intro w' _; go_simp; (try go_bits); rfl) (by exact ⟨_, by assumption, by simp⟩) ?_
      simp only [Act.put, List.setIfInBounds_toArray, List.set_cons_succ, List.set_cons_zero]
      refine SX.take 6 (fun _ => trivial) (by simp only [List.getElem?_toArray, List.getElem?_cons_succ, List.getElem?_cons_zero]; rfl) (by kernel_rfl) (by exact fun _ _ _ h => h) (by rfl) (by intro w' _; go_simp; (try go_bits); rfl) (by exact ⟨_, by assumption, by simp⟩) ?_
      simp only [Act.put, List.setIfInBounds_toArray, List.set_cons_succ, List.set_cons_zero]
      refine SX.done (by kernel_rfl) ?_
      have hsE := hsD.perm (List.perm_append_comm (l₁ := L) (l₂ := [SX.Ent.blk g2 3 #[.int .i64 m], SX.Ent.blk g1 23 #[.slice (some ⟨b, off, none⟩) n c]]))
      have hYj := Lib.hid (HY.out _ (List.range j) j #[.slice (some ⟨b, off + z.toNat, none⟩) ((z + m).toNat - z.toNat) ((z + m).toNat - z.toNat)] wd L [] hi (by
          rw [← List.range_succ]
          exact range_prefix hj') ⟨rfl, by
          have h1 : z.toNat = j * m := by
            have := hz.out
            have h5 : ((j * m : Nat) : Int) = j * m := by simp
            omega
          have h2 : (z + m).toNat - z.toNat = m := by omega
          rw [h1] at h2 ⊢
          rw [h2]⟩ (by exact hsE))
      clear hsE
      gi_wp2_with (first | (refine SX.lsm rfl rfl ?_; first | (refine SX.load_blk rfl (by assumption) (by first | (simp; done) | fail) (by rfl) (by first | exact SX.at0 | exact SX.at1 | exact SX.at2 | exact SX.at3 | exact SX.at4 | exact SX.at5) (by rfl) ?_) | (refine SX.load_old rfl (by assumption) (by first | (simp; done) | fail) (by rfl) (by assumption) (by first | (simp; done) | fail) (by assumption) ?_) | (refine SX.store_blk rfl (by assumption) (by first | (simp; done) | fail) (by rfl) (by first | (go_simp; exact rfl) | fail) (by rfl) (by first | exact SX.at0 | exact SX.at1 | exact SX.at2 | exact SX.at3 | exact SX.at4 | exact SX.at5) (by first | (simp; done) | fail) ?_; intro w1 hs1; simp only [List.set_cons_zero, List.set_cons_succ, List.setIfInBounds_toArray] at hs1) | (refine SX.alc_ptr rfl (by assumption) (by first | (intro W; go_simp; exact rfl) | fail) ?_; intro g1 w1 hs1) | (refine SX.alc_slice rfl (by assumption) (by first | (intro W; go_simp; exact rfl) | fail) ?_; intro g1 w1 hs1)) | (refine SX.lsc rfl rfl (SX.wp_yield rfl (by rfl) (by go_simp) hYj.out ?_); rintro e W3 (⟨rfl, L3, hi3, hs3⟩ | ⟨rfl, L3, hi3, hs3⟩) <;> refine ⟨_, rfl, ?_⟩; have hs4 := hs3.perm (List.perm_append_comm (l₁ := [SX.Ent.blk g2 3 #[.int .i64 m], SX.Ent.blk g1 23 #[.slice (some ⟨b, off, none⟩) n c]]) (l₂ := L3)); simp only [List.cons_append, List.nil_append] at hs4))
      · go_roundw
        case rel => exact ⟨j + 1, z + m, by go_num, Lib.hid (by have := hz.out; rw [this]; simp [Int.add_mul]), by omega, by omega, by omega, L3, by rw [List.range_succ]; exact hi3, hs3⟩
        case measure => simp [intOf]; omega
      · refine bodyPost_ret (results_none rfl _ _ _) rfl ?_
        exact ⟨⟨_, rfl⟩, L3, .inr hi3, hs3⟩
    · gi_wp2_with (first | (refine SX.lsm rfl rfl ?_; first | (refine SX.load_blk rfl (by assumption) (by first | (simp; done) | fail) (by rfl) (by first | exact SX.at0 | exact SX.at1 | exact SX.at2 | exact SX.at3 | exact SX.at4 | exact SX.at5) (by rfl) ?_) | (refine SX.load_old rfl (by assumption) (by first | (simp; done) | fail) (by rfl) (by assumption) (by first | (simp; done) | fail) (by assumption) ?_) | (refine SX.store_blk rfl (by assumption) (by first | (simp; done) | fail) (by rfl) (by first | (go_simp; exact rfl) | fail) (by rfl) (by first | exact SX.at0 | exact SX.at1 | exact SX.at2 | exact SX.at3 | exact SX.at4 | exact SX.at5) (by first | (simp; done) | fail) ?_; intro w1 hs1; simp only [List.set_cons_zero, List.set_cons_succ, List.setIfInBounds_toArray] at hs1) | (refine SX.alc_ptr rfl (by assumption) (by first | (intro W; go_simp; exact rfl) | fail) ?_; intro g1 w1 hs1) | (refine SX.alc_slice rfl (by assumption) (by first | (intro W; go_simp; exact rfl) | fail) ?_; intro g1 w1 hs1)))
      refine bodyPost_end (results_none rfl _ _ _) rfl ?_
      have e : j = q := by
        rcases Nat.lt_or_ge j q with h | h
        · exfalso
          have h1 := hz.out
          have h2 := HN.out
          have h3 : (j + 1) * m ≤ q * m := Nat.mul_le_mul_right m h
          have h4 : ((j + 1) * m : Nat) = j * m + m := by rw [Nat.add_mul, Nat.one_mul]
          have h5 : ((j * m : Nat) : Int) = j * m := by simp
          omega
        · omega
      subst e
      exact ⟨⟨_, rfl⟩, L, .inl hi, hs0⟩
end Go.Proofs.Ythncbdoiilgnhaa
