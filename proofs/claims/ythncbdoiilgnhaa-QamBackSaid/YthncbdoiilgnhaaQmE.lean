/- qam.groups. -/
import Derived.Test.YthncbdoiilgnhaaQmD
namespace Go.Proofs.Ythncbdoiilgnhaa
open Go.RowKit
set_option linter.unusedSimpArgs false
set_option linter.unusedVariables false

theorem info3 : (Try.prog.info? 3).map (fun i => (i.zero, i.size, i.bytes)) = some (some (.int .i64 0), 1, 8) := by kernel_rfl

/-- bit i of v -/
def bitOf (v i : Nat) : Int := ((v / 2 ^ i % 2 : Nat) : Int)
/-- the group of n bits with number v -/
def grp (n v : Nat) : List Int := (List.range n).map (bitOf v)
/-- the same, as far as it is filled -/
def gfill (n v j : Nat) : List Int := (List.range n).map fun i => if i < j then bitOf v i else 0

theorem gfill_zero (n v : Nat) : ints .u8 (gfill n v 0) = List.replicate n (.int .u8 0) := by
  apply List.ext_getElem?
  intro i
  simp [ints, gfill, List.getElem?_replicate, List.getElem?_range]
  by_cases h : i < n <;> simp [h]
theorem gfill_full (n v : Nat) : gfill n v n = grp n v := by
  unfold gfill grp
  refine List.map_congr_left fun i hi => ?_
  rw [if_pos (by simpa using hi)]
theorem gfill_succ (n v j : Nat) (hj : j < n) : (ints .u8 (gfill n v j)).set j (.int .u8 (bitOf v j)) = ints .u8 (gfill n v (j + 1)) := by
  apply List.ext_getElem?
  intro i
  simp only [ints, gfill, List.getElem?_set, List.length_map, List.length_range, List.getElem?_map]
  by_cases h : j = i
  · subst h
    simp [hj]
  · rw [if_neg h]
    by_cases hi : i < n
    · simp only [List.getElem?_range hi, Option.map_some]
      congr 2
      by_cases h2 : i < j
      · rw [if_pos h2, if_pos (by omega)]
      · rw [if_neg h2, if_neg (by omega)]
    · rw [List.getElem?_eq_none (by simp; omega)]
      simp
theorem gfill_length (n v j : Nat) : (ints .u8 (gfill n v j)).length = n := by simp [ints, gfill]

theorem bit_eq (v j : Nat) (hv : v < 256) : bits .and .i64 ((v : Int) / 2 ^ j) 1 % 256 = bitOf v j := by
  have h1 : (v : Int) / 2 ^ j = ((v / 2 ^ j : Nat) : Int) := by simp
  have h2 : v / 2 ^ j ≤ v := Nat.div_le_self _ _
  rw [h1, show (1 : Int) = ((1 : Nat) : Int) from rfl, i64_and_nat _ _ (by omega) (by omega), Nat.and_one_is_mod]
  unfold bitOf
  omega

theorem groups_any (n : Int) (w : World) :
    Calls Try.prog 39 #[.int .i64 n] w (SX.Ret fun v w' => ∃ g, v = .func (.func 52) #[] #[.pointer (some ⟨g, 0, none⟩)] ∧ SX.St w [] w' [SX.Ent.blk g 3 #[.int .i64 n]]) := by
  refine SX.enter Try.func39 rfl ?_
  simp only [Try.ntmps39, List.size_toArray, List.length_cons, List.length_nil, Nat.reduceAdd, Nat.reduceSub, Array.replicate_succ, Array.replicate_zero, List.push_toArray, List.append_toArray, List.nil_append, List.cons_append]
  have hs := SX.St.start w
  gi_wp2_with (first | (refine SX.lsm rfl rfl ?_; first | (refine SX.load_blk rfl (by assumption) (by first | (simp; done) | fail) (by rfl) (by first | exact SX.at0 | exact SX.at1 | exact SX.at2 | exact SX.at3 | exact SX.at4 | exact SX.at5) (by rfl) ?_) | (refine SX.load_old rfl (by assumption) (by first | (simp; done) | fail) (by rfl) (by assumption) (by first | (simp; done) | fail) (by assumption) ?_) | (refine SX.store_blk rfl (by assumption) (by first | (simp; done) | fail) (by rfl) (by first | (go_simp; exact rfl) | fail) (by rfl) (by first | exact SX.at0 | exact SX.at1 | exact SX.at2 | exact SX.at3 | exact SX.at4 | exact SX.at5) (by first | (simp; done) | fail) ?_; intro w1 hs1; simp only [List.set_cons_zero, List.set_cons_succ, List.setIfInBounds_toArray] at hs1) | (refine SX.alc_ptr rfl (by assumption) (by first | (intro W; go_simp; exact rfl) | fail) ?_; intro g1 w1 hs1) | (refine SX.alc_slice rfl (by assumption) (by first | (intro W; go_simp; exact rfl) | fail) ?_; intro g1 w1 hs1)))
  go_ret
  exact ⟨_, rfl, _, rfl, hs1⟩

def GrA (n : Nat) (v : Nat) (args : Array Value) (Lx : List SX.Ent) : Prop :=
  ∃ g, args = #[.slice (some ⟨g, 0, none⟩) n n] ∧ Lx = [SX.Ent.row (.slice (some ⟨g, 0, none⟩) n n) 5 1 n (ints .u8 (grp n v))]

set_option maxRecDepth 100000 in
set_option maxHeartbeats 400000 in
theorem groups_seq (n g : Nat) (hn : 1 ≤ n) (hn3 : n ≤ 3) :
    SX.SeqC Try.prog 52 #[.pointer (some ⟨g, 0, none⟩)] (GrA n) [SX.Ent.blk g 3 #[.int .i64 n]] (fun _ _ => True) (List.range (2 ^ n)) := by
  obtain ⟨i0, hi0, hzz0, hzz1, hzz2⟩ := info_parts info5
  intro l w0 M I Ix W L0 _ hY h0 hs
  refine SX.enter Try.func52 rfl ?_
  simp only [Try.ntmps52, List.size_toArray, List.length_cons, List.length_nil, Nat.reduceAdd, Nat.reduceSub, Array.replicate_succ, Array.replicate_zero, List.push_toArray, List.append_toArray, List.nil_append, List.cons_append]
  obtain ⟨N, hN⟩ : ∃ N : Nat, N = 2 ^ n := ⟨_, rfl⟩
  rw [← hN] at hY ⊢
  have hN8 : 2 ≤ N ∧ N ≤ 8 := by
    have : n = 1 ∨ n = 2 ∨ n = 3 := by omega
    rcases this with rfl | rfl | rfl <;> simp [hN]
  have hsh : wrap64 ((2 : Int) ^ n) = (N : Int) := by
    have : n = 1 ∨ n = 2 ∨ n = 3 := by omega
    rcases this with rfl | rfl | rfl <;> simp [hN, wrap64]
  have HN := Lib.hid hN
  have HY := Lib.hid hY
  have HS := Lib.hid hsh
  clear hY hN hsh
  obtain ⟨hN2, hN8⟩ := hN8
  have hs1 := hs.rot
  simp only [List.cons_append, List.nil_append] at hs1
  gi_wp2_with (first | (refine SX.lsm rfl rfl ?_; first | (refine SX.load_blk rfl (by assumption) (by first | (simp; done) | fail) (by rfl) (by first | exact SX.at0 | exact SX.at1 | exact SX.at2 | exact SX.at3 | exact SX.at4 | exact SX.at5) (by rfl) ?_) | (refine SX.load_old rfl (by assumption) (by first | (simp; done) | fail) (by rfl) (by assumption) (by first | (simp; done) | fail) (by assumption) ?_) | (refine SX.store_blk rfl (by assumption) (by first | (simp; done) | fail) (by rfl) (by first | (go_simp; exact rfl) | fail) (by rfl) (by first | exact SX.at0 | exact SX.at1 | exact SX.at2 | exact SX.at3 | exact SX.at4 | exact SX.at5) (by first | (simp; done) | fail) ?_; intro w1 hs1; simp only [List.set_cons_zero, List.set_cons_succ, List.setIfInBounds_toArray] at hs1) | (refine SX.alc_ptr rfl (by assumption) (by first | (intro W; go_simp; exact rfl) | fail) ?_; intro g1 w1 hs1) | (refine SX.alc_slice rfl (by assumption) (by first | (intro W; go_simp; exact rfl) | fail) ?_; intro g1 w1 hs1)))
  gi_loopw [8] (fun i wr => ∃ v : Nat, i = .int .i64 (v : Int) ∧ v ≤ N ∧ ∃ L, I (List.range v) L ∧ SX.St w0 M wr (L ++ [SX.Ent.blk g 3 #[.int .i64 n]])) (fun i _ => N - (intOf i).toNat)
  case atStart => exact ⟨0, rfl, by omega, L0, h0, hs⟩
  case round =>
    clear hs h0 hs1
    obtain ⟨v, rfl, hvN, L, hi, hs0⟩ := hrel
    have hs := hs0.rot
    simp only [List.cons_append, List.nil_append] at hs
    by_cases hlt : v < N
    · have hlt' : (v : Int) < wrap64 ((2 : Int) ^ n) := by rw [HS.out]; omega
      gi_wp2_with (first
        | (refine SX.lsm rfl rfl ?_; first | (refine SX.load_blk rfl (by assumption) (by first | (simp; done) | fail) (by rfl) (by first | exact SX.at0 | exact SX.at1 | exact SX.at2 | exact SX.at3 | exact SX.at4 | exact SX.at5) (by rfl) ?_) | (refine SX.load_old rfl (by assumption) (by first | (simp; done) | fail) (by rfl) (by assumption) (by first | (simp; done) | fail) (by assumption) ?_) | (refine SX.store_blk rfl (by assumption) (by first | (simp; done) | fail) (by rfl) (by first | (go_simp; exact rfl) | fail) (by rfl) (by first | exact SX.at0 | exact SX.at1 | exact SX.at2 | exact SX.at3 | exact SX.at4 | exact SX.at5) (by first | (simp; done) | fail) ?_; intro w1 hs1; simp only [List.set_cons_zero, List.set_cons_succ, List.setIfInBounds_toArray] at hs1) | (refine SX.alc_ptr rfl (by assumption) (by first | (intro W; go_simp; exact rfl) | fail) ?_; intro g1 w1 hs1) | (refine SX.alc_slice rfl (by assumption) (by first | (intro W; go_simp; exact rfl) | fail) ?_; intro g1 w1 hs1))
        | (refine SX.lsm rfl rfl ?_; refine SX.mk_row rfl (by assumption) Try.underlying23 hi0 hzz0 hzz1 hzz2 (by rfl) (by rfl) (by omega) (by unfold maxLen; omega) ?_; intro g2 w2 hs2; simp only [Value.cells, Nat.mul_one, SX.madeCells_one] at hs2; rw [← gfill_zero n v] at hs2))
      obtain ⟨wo, rfl⟩ : ∃ wo : World, wo = wr := ⟨_, rfl⟩
      gi_loopw [5, 15] (fun _ i wr => ∃ j : Nat, i = .int .i64 (j : Int) ∧ j ≤ n ∧ SX.St w0 M wr (SX.Ent.row (.slice (some ⟨g2, 0, none⟩) n n) 5 1 n (ints .u8 (gfill n v j)) :: SX.Ent.blk g 3 #[.int .i64 n] :: L)) (fun _ i _ => n - (intOf i).toNat)
      case atStart => exact ⟨0, rfl, by omega, hs2⟩
      case round =>
        clear hs2
        obtain ⟨j, rfl, hjn, hs3⟩ := hrel
        by_cases hj : j < n
        · have hj' : (j : Int) < n := by omega
          have hlen := gfill_length n v j
          gi_wp2_with (first | (refine SX.lsm rfl rfl ?_; first | (refine SX.load_blk rfl (by assumption) (by first | (simp; done) | fail) (by rfl) (by first | exact SX.at0 | exact SX.at1 | exact SX.at2 | exact SX.at3 | exact SX.at4 | exact SX.at5) (by rfl) ?_) | (refine SX.load_old rfl (by assumption) (by first | (simp; done) | fail) (by rfl) (by assumption) (by first | (simp; done) | fail) (by assumption) ?_) | (refine SX.store_blk rfl (by assumption) (by first | (simp; done) | fail) (by rfl) (by first | (go_simp; exact rfl) | fail) (by rfl) (by first | exact SX.at0 | exact SX.at1 | exact SX.at2 | exact SX.at3 | exact SX.at4 | exact SX.at5) (by first | (simp; done) | fail) ?_; intro w1 hs1; simp only [List.set_cons_zero, List.set_cons_succ, List.setIfInBounds_toArray] at hs1) | (refine SX.alc_ptr rfl (by assumption) (by first | (intro W; go_simp; exact rfl) | fail) ?_; intro g1 w1 hs1) | (refine SX.alc_slice rfl (by assumption) (by first | (intro W; go_simp; exact rfl) | fail) ?_; intro g1 w1 hs1)) | (refine SX.lsm rfl rfl ?_; (refine SX.store_row rfl (by assumption) (by first | (simp; done) | fail) (by rfl) (by first | (go_simp; exact rfl) | fail) (by rfl) (by first | exact SX.at0 | exact SX.at1 | exact SX.at2 | exact SX.at3 | exact SX.at4 | exact SX.at5) (by omega) ?_; intro w1 hs1; simp only [List.set_cons_zero, List.set_cons_succ, List.setIfInBounds_toArray] at hs1)))
          rw [bit_eq v j (by omega), gfill_succ n v j hj] at hs1
          go_roundw
          case rel => exact ⟨j + 1, by go_num, by omega, hs1⟩
          case measure => simp [intOf]; omega
        · have hj' : ¬ (j : Int) < n := by omega
          obtain rfl : j = n := by omega
          rw [gfill_full] at hs3
          have hY := Lib.hid (HY.out [SX.Ent.blk g 3 #[.int .i64 j]] (List.range v) v #[.slice (some ⟨g2, 0, none⟩) j j] wr L _ hi (by rw [← List.range_succ]; exact range_prefix hlt) ⟨g2, rfl, rfl⟩ (by
            refine hs3.perm ?_
            simp only [List.cons_append, List.nil_append]
            exact List.Perm.cons _ (List.perm_append_comm (l₁ := L) (l₂ := [_]))))
          gi_wp2_with (first | (refine SX.lsm rfl rfl ?_; first | (refine SX.load_blk rfl (by assumption) (by first | (simp; done) | fail) (by rfl) (by first | exact SX.at0 | exact SX.at1 | exact SX.at2 | exact SX.at3 | exact SX.at4 | exact SX.at5) (by rfl) ?_) | (refine SX.load_old rfl (by assumption) (by first | (simp; done) | fail) (by rfl) (by assumption) (by first | (simp; done) | fail) (by assumption) ?_) | (refine SX.store_blk rfl (by assumption) (by first | (simp; done) | fail) (by rfl) (by first | (go_simp; exact rfl) | fail) (by rfl) (by first | exact SX.at0 | exact SX.at1 | exact SX.at2 | exact SX.at3 | exact SX.at4 | exact SX.at5) (by first | (simp; done) | fail) ?_; intro w1 hs1; simp only [List.set_cons_zero, List.set_cons_succ, List.setIfInBounds_toArray] at hs1) | (refine SX.alc_ptr rfl (by assumption) (by first | (intro W; go_simp; exact rfl) | fail) ?_; intro g1 w1 hs1) | (refine SX.alc_slice rfl (by assumption) (by first | (intro W; go_simp; exact rfl) | fail) ?_; intro g1 w1 hs1)) | (refine SX.lsc rfl rfl (SX.wp_yield rfl (by rfl) (by go_simp) hY.out ?_); rintro e W3 (⟨rfl, L3, hi3, hs4⟩ | ⟨rfl, L3, hi3, hs4⟩) <;> refine ⟨_, rfl, ?_⟩))
          · go_roundw
            case rel => exact ⟨v + 1, by go_num, by omega, L3, by rw [List.range_succ]; exact hi3, hs4⟩
            case measure => simp [intOf]; omega
          · refine bodyPost_ret (results_none rfl _ _ _) rfl ?_
            exact ⟨⟨_, rfl⟩, L3, .inr hi3, hs4⟩
    · have hge : ¬ (v : Int) < wrap64 ((2 : Int) ^ n) := by rw [HS.out]; omega
      gi_wp2_with (first | (refine SX.lsm rfl rfl ?_; first | (refine SX.load_blk rfl (by assumption) (by first | (simp; done) | fail) (by rfl) (by first | exact SX.at0 | exact SX.at1 | exact SX.at2 | exact SX.at3 | exact SX.at4 | exact SX.at5) (by rfl) ?_) | (refine SX.load_old rfl (by assumption) (by first | (simp; done) | fail) (by rfl) (by assumption) (by first | (simp; done) | fail) (by assumption) ?_) | (refine SX.store_blk rfl (by assumption) (by first | (simp; done) | fail) (by rfl) (by first | (go_simp; exact rfl) | fail) (by rfl) (by first | exact SX.at0 | exact SX.at1 | exact SX.at2 | exact SX.at3 | exact SX.at4 | exact SX.at5) (by first | (simp; done) | fail) ?_; intro w1 hs1; simp only [List.set_cons_zero, List.set_cons_succ, List.setIfInBounds_toArray] at hs1) | (refine SX.alc_ptr rfl (by assumption) (by first | (intro W; go_simp; exact rfl) | fail) ?_; intro g1 w1 hs1) | (refine SX.alc_slice rfl (by assumption) (by first | (intro W; go_simp; exact rfl) | fail) ?_; intro g1 w1 hs1)))
      refine bodyPost_end (results_none rfl _ _ _) rfl ?_
      obtain rfl : v = N := by omega
      exact ⟨⟨_, rfl⟩, L, .inl hi, hs0⟩
end Go.Proofs.Ythncbdoiilgnhaa
