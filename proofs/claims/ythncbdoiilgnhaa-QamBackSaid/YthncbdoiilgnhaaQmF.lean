/- qam.softs and what it calls. -/
import Derived.Test.YthncbdoiilgnhaaQmE
import Derived.Test.YthncbdoiilgnhaaSxMore
namespace Go.Proofs.Ythncbdoiilgnhaa
open Go.RowKit
set_option linter.unusedSimpArgs false
set_option linter.unusedVariables false
attribute [local go_sem] Oper.semAt_some

/-- the least of x and the elements -/
def lst (x : Int) (l : List Int) : Int := l.foldl min x
theorem lst_snoc (x : Int) (l : List Int) (y : Int) : lst x (l ++ [y]) = min (lst x l) y := by simp [lst]

theorem take_elt {l : List Int} {i : Nat} (h : i < l.length) : l.take (i + 1) = l.take i ++ [elt l (i : Nat)] := by
  rw [List.take_add_one]
  simp [elt, h]

set_option maxRecDepth 100000 in
set_option maxHeartbeats 400000 in
theorem least_any (x : Int) (A : Option Addr) (n c : Nat) (l : List Int) (w : World) (hr : Sl w A (ints .i64 l)) (hl : l.length = n) (hn : n ≤ 9223372036854775807) :
    Calls Try.prog 45 #[.int .i64 x, .slice A n c] w (SX.Ret fun v w' => v = .int .i64 (lst x l) ∧ SX.St w [] w' []) := by
  have HL := Lib.hid hl
  clear hl
  refine SX.enter Try.func45 rfl ?_
  simp only [Try.ntmps45, List.size_toArray, List.length_cons, List.length_nil, Nat.reduceAdd, Nat.reduceSub, Array.replicate_succ, Array.replicate_zero, List.push_toArray, List.append_toArray, List.nil_append, List.cons_append]
  gi_wp2
  gi_loopw [0, 9] (fun m i wr => ∃ k : Nat, i = .int .i64 (k : Int) ∧ k ≤ n ∧ m = .int .i64 (lst x (l.take k)) ∧ SX.St w [] wr []) (fun _ i _ => n - (intOf i).toNat)
  case atStart => exact ⟨0, rfl, by omega, rfl, SX.St.start w⟩
  case round =>
    obtain ⟨k, rfl, hkn, rfl, hs⟩ := hrel
    by_cases hlt : k < n
    · have hlt' : (k : Int) < n := by omega
      obtain ⟨b, off, rfl, hb, hc⟩ := hr.at (i := k) (by omega) (by rw [HL.out]; exact hlt')
      clear hr
      have HS : Hid (lst x (l.take (k + 1)) = min (lst x (l.take k)) (elt l (k : Nat))) := by rw [take_elt (by rw [HL.out]; exact hlt), lst_snoc]; exact Lib.hid rfl
      generalize lst x (l.take k) = y at *
      generalize elt l (k : Nat) = z at *
      gi_wp2_with (first | (refine SX.lsm rfl rfl ?_; first | (refine SX.load_blk rfl (by assumption) (by first | (simp; done) | fail) (by rfl) (by first | exact SX.at0 | exact SX.at1 | exact SX.at2 | exact SX.at3 | exact SX.at4 | exact SX.at5) (by rfl) ?_) | (refine SX.load_old rfl (by assumption) (by first | (simp; done) | fail) (by rfl) (by assumption) (by first | (simp; done) | fail) (by assumption) ?_) | (refine SX.store_blk rfl (by assumption) (by first | (simp; done) | fail) (by rfl) (by first | (go_simp; exact rfl) | fail) (by rfl) (by first | exact SX.at0 | exact SX.at1 | exact SX.at2 | exact SX.at3 | exact SX.at4 | exact SX.at5) (by first | (simp; done) | fail) ?_; intro w1 hs1; simp only [List.set_cons_zero, List.set_cons_succ, List.setIfInBounds_toArray] at hs1) | (refine SX.alc_ptr rfl (by assumption) (by first | (intro W; go_simp; exact rfl) | fail) ?_; intro g1 w1 hs1) | (refine SX.alc_slice rfl (by assumption) (by first | (intro W; go_simp; exact rfl) | fail) ?_; intro g1 w1 hs1)))
      go_roundw
      case rel => exact ⟨k + 1, by go_num, by omega, by rw [HS.out]; congr 1; omega, hs⟩
      case measure => simp [intOf]; omega
    · have hge : ¬ (k : Int) < n := by omega
      obtain rfl : k = n := by omega
      clear hr
      gi_wp2
      go_ret
      exact ⟨_, rfl, by rw [List.take_of_length_le (by rw [HL.out]; exact Nat.le_refl _)]; rfl, hs⟩

/-- the nearest soft value -/
def clampv (v : Int) : Int := max (-127) (min 127 v)

set_option maxRecDepth 100000 in
set_option maxHeartbeats 400000 in
theorem bounds_any (w : World) : Calls Try.prog 55 #[] w (SX.Ret fun v w' => v = .agg #[.int .i64 (-127), .int .i64 127] ∧ SX.St w [] w' []) := by
  refine SX.enter Try.func55 rfl ?_
  simp only [Try.ntmps55, List.size_toArray, List.length_cons, List.length_nil, Nat.reduceAdd, Nat.reduceSub, Array.replicate_succ, Array.replicate_zero, List.push_toArray, List.append_toArray, List.nil_append, List.cons_append]
  have hs := SX.St.start w
  gi_wp2_with (first | (refine SX.lsm rfl rfl ?_; first | (refine SX.load_blk rfl (by assumption) (by first | (simp; done) | fail) (by rfl) (by first | exact SX.at0 | exact SX.at1 | exact SX.at2 | exact SX.at3 | exact SX.at4 | exact SX.at5) (by rfl) ?_) | (refine SX.load_old rfl (by assumption) (by first | (simp; done) | fail) (by rfl) (by assumption) (by first | (simp; done) | fail) (by assumption) ?_) | (refine SX.store_blk rfl (by assumption) (by first | (simp; done) | fail) (by rfl) (by first | (go_simp; exact rfl) | fail) (by rfl) (by first | exact SX.at0 | exact SX.at1 | exact SX.at2 | exact SX.at3 | exact SX.at4 | exact SX.at5) (by first | (simp; done) | fail) ?_; intro w1 hs1; simp only [List.set_cons_zero, List.set_cons_succ, List.setIfInBounds_toArray] at hs1) | (refine SX.alc_ptr rfl (by assumption) (by first | (intro W; go_simp; exact rfl) | fail) ?_; intro g1 w1 hs1) | (refine SX.alc_slice rfl (by assumption) (by first | (intro W; go_simp; exact rfl) | fail) ?_; intro g1 w1 hs1) | (refine SX.store_agg rfl (by assumption) (by rfl) (by first | (go_simp; exact rfl) | fail) (by kernel_rfl) (by first | (simp [Value.oneCell']; done) | fail) (by first | exact SX.at0 | exact SX.at1 | exact SX.at2 | exact SX.at3 | exact SX.at4 | exact SX.at5) (by rfl) ?_; intro w1 hs1; simp only [List.set_cons_zero, List.set_cons_succ, List.setIfInBounds_toArray] at hs1) | (refine SX.load_aggB rfl (by assumption) (by first | (simp; done) | fail) (by rfl) (by first | exact SX.at0 | exact SX.at1 | exact SX.at2 | exact SX.at3 | exact SX.at4 | exact SX.at5) (by kernel_rfl) ?_)))
  refine bodyPost_ret (results_cell_row rfl _ _ _ _ _ _ _ rfl (hs1.blk (j := 0) rfl) (by rfl) rfl (by kernel_rfl)) rfl ?_
  exact ⟨_, rfl, rfl, hs1.tl⟩
set_option maxRecDepth 100000 in
set_option maxHeartbeats 400000 in
theorem clamp_any (x : Int) (w : World) : Calls Try.prog 46 #[.int .i64 x] w (SX.Ret fun v w' => v = .int .i64 (clampv x) ∧ SX.St w [] w' []) := by
  refine SX.enter Try.func46 rfl ?_
  simp only [Try.ntmps46, List.size_toArray, List.length_cons, List.length_nil, Nat.reduceAdd, Nat.reduceSub, Array.replicate_succ, Array.replicate_zero, List.push_toArray, List.append_toArray, List.nil_append, List.cons_append]
  have hs := SX.St.start w
  gi_wp2_with (first
    | (refine SX.lsm rfl rfl ?_; first | (refine SX.load_blk rfl (by assumption) (by first | (simp; done) | fail) (by rfl) (by first | exact SX.at0 | exact SX.at1 | exact SX.at2 | exact SX.at3 | exact SX.at4 | exact SX.at5) (by rfl) ?_) | (refine SX.load_old rfl (by assumption) (by first | (simp; done) | fail) (by rfl) (by assumption) (by first | (simp; done) | fail) (by assumption) ?_) | (refine SX.store_blk rfl (by assumption) (by first | (simp; done) | fail) (by rfl) (by first | (go_simp; exact rfl) | fail) (by rfl) (by first | exact SX.at0 | exact SX.at1 | exact SX.at2 | exact SX.at3 | exact SX.at4 | exact SX.at5) (by first | (simp; done) | fail) ?_; intro w1 hs1; simp only [List.set_cons_zero, List.set_cons_succ, List.setIfInBounds_toArray] at hs1) | (refine SX.alc_ptr rfl (by assumption) (by first | (intro W; go_simp; exact rfl) | fail) ?_; intro g1 w1 hs1) | (refine SX.alc_slice rfl (by assumption) (by first | (intro W; go_simp; exact rfl) | fail) ?_; intro g1 w1 hs1) | (refine SX.store_agg rfl (by assumption) (by rfl) (by first | (go_simp; exact rfl) | fail) (by kernel_rfl) (by first | (simp [Value.oneCell']; done) | fail) (by first | exact SX.at0 | exact SX.at1 | exact SX.at2 | exact SX.at3 | exact SX.at4 | exact SX.at5) (by rfl) ?_; intro w1 hs1; simp only [List.set_cons_zero, List.set_cons_succ, List.setIfInBounds_toArray] at hs1) | (refine SX.load_aggB rfl (by assumption) (by first | (simp; done) | fail) (by rfl) (by first | exact SX.at0 | exact SX.at1 | exact SX.at2 | exact SX.at3 | exact SX.at4 | exact SX.at5) (by kernel_rfl) ?_))
    | (refine SX.lsc rfl rfl ?_; refine SX.wp_calls (fun _ => trivial) rfl rfl (by rfl) Try.call55 (by go_simp; rfl) ?_; refine (SX.call (bounds_any _)).mono ?_; rintro e w1 ⟨v, rfl, rfl, hs1⟩; have hs2 := hs.call hs1; refine ⟨_, rfl, ?_⟩))
  all_goals
    go_ret
    refine ⟨_, rfl, ?_, hs1.tl⟩
    refine congrArg (Value.int .i64) ?_
    unfold clampv
    rename_i h9
    split at h9 <;> omega

/-- the squares of the distances to the levels whose bit i is v -/
def sq (n : Nat) (y : Int) (g : Nat) : Int := (y - 16 * lev (grp n g)) * (y - 16 * lev (grp n g))
def sqs (n : Nat) (y : Int) (i : Nat) (v : Int) (pre : List Nat) : List Int := (pre.filter fun g => bitOf g i == v).map (sq n y)
def dst (n : Nat) (y : Int) (i : Nat) (v : Int) : Int := lst ((sqs n y i v (List.range (2 ^ n))).headD 0) (sqs n y i v (List.range (2 ^ n))).tail

theorem sqs_snoc (n : Nat) (y : Int) (i : Nat) (v : Int) (pre : List Nat) (x : Nat) : sqs n y i v (pre ++ [x]) = if (bitOf x i == v) = true then sqs n y i v pre ++ [sq n y x] else sqs n y i v pre := by
  unfold sqs
  rw [List.filter_append]
  by_cases h : (bitOf x i == v) = true
  · simp [h]
  · simp [h]
theorem sqs_le (n : Nat) (y : Int) (i : Nat) (v : Int) (pre : List Nat) : (sqs n y i v pre).length ≤ pre.length := by
  unfold sqs
  rw [List.length_map]
  exact List.length_filter_le _ _

theorem mul_self_nonneg' (d : Int) : 0 ≤ d * d := by
  rcases Int.le_total 0 d with h | h
  · exact Int.mul_nonneg h h
  · exact Int.mul_nonneg_of_nonpos_of_nonpos h h
theorem mul_self_le' {d b : Int} (h1 : -b ≤ d) (h2 : d ≤ b) : d * d ≤ b * b := by
  have hb : 0 ≤ b := by omega
  have h3 : d.natAbs ≤ b.natAbs := by omega
  have h4 : (d.natAbs * d.natAbs : Nat) ≤ b.natAbs * b.natAbs := Nat.mul_le_mul h3 h3
  rw [← Int.natAbs_mul_self (a := d), ← Int.natAbs_mul_self (a := b)]
  exact Int.ofNat_le.2 h4

theorem bitOf_bd (v i : Nat) : bitOf v i = 0 ∨ bitOf v i = 1 := by unfold bitOf; omega

theorem sqs_some (n : Nat) (y : Int) (i : Nat) (v : Int) (hn : 1 ≤ n) (hn3 : n ≤ 3) (hi : i < n) (hv : v = 0 ∨ v = 1) : ∃ x r, sqs n y i v (List.range (2 ^ n)) = x :: r := by
  have hne : ((List.range (2 ^ n)).filter fun g => bitOf g i == v) ≠ [] := by
    have h3 : n = 1 ∨ n = 2 ∨ n = 3 := by omega
    rcases h3 with rfl | rfl | rfl <;> rcases hv with rfl | rfl <;> (have h4 : i = 0 ∨ i = 1 ∨ i = 2 := by omega) <;> rcases h4 with rfl | rfl | rfl <;> first | omega | decide
  unfold sqs
  revert hne
  generalize (List.range (2 ^ n)).filter (fun g => bitOf g i == v) = l
  intro hne
  cases l with
  | nil => exact absurd rfl hne
  | cons a l => exact ⟨_, _, rfl⟩

/-- between two rounds -/
def SfI (g6 gv n : Nat) (y : Int) (i : Nat) (v : Int) (pre : List Nat) (L : List SX.Ent) : Prop :=
  ∃ sv, L = [SX.Ent.row sv 3 1 (sqs n y i v pre).length (ints .i64 (sqs n y i v pre)), SX.Ent.blk g6 38 #[sv], SX.Ent.blk gv 5 #[.int .u8 v]]

theorem grp_length (n v : Nat) : (grp n v).length = n := by simp [grp]
theorem grp_bits (n v : Nat) : ∀ b ∈ grp n v, b = 0 ∨ b = 1 := by
  intro b hb
  simp only [grp, List.mem_map] at hb
  obtain ⟨j, _, rfl⟩ := hb
  exact bitOf_bd v j

set_option maxRecDepth 100000 in
set_option maxHeartbeats 1000000 in
theorem dist_any (n i : Nat) (y v : Int) (gn gi gy : Nat) (w : World) (hn : 1 ≤ n) (hn3 : n ≤ 3) (hi : i < n) (hy1 : -1048576 ≤ y) (hy2 : y ≤ 1048576) (hv : v = 0 ∨ v = 1)
    (hgn : gn < w.heap.size) (hgi : gi < w.heap.size) (hgy : gy < w.heap.size) (hcn : w.cell? ⟨gn, 0, none⟩ = some (.int .i64 (n : Int))) (hci : w.cell? ⟨gi, 0, none⟩ = some (.int .i64 (i : Int))) (hcy : w.cell? ⟨gy, 0, none⟩ = some (.int .i64 y)) :
    Calls Try.prog 44 #[.int .u8 v, .pointer (some ⟨gn, 0, none⟩), .pointer (some ⟨gi, 0, none⟩), .pointer (some ⟨gy, 0, none⟩)] w (SX.Ret fun r w' => r = .int .i64 (dst n y i v) ∧ SX.St w [] w' []) := by
  obtain ⟨i0, hi0, hzz0, hzz1, hzz2⟩ := info_parts info3
  have HV := Lib.hid hv
  clear hv
  refine SX.enterM Try.func44 rfl ?_
  simp only [Try.ntmps44, List.size_toArray, List.length_cons, List.length_nil, Nat.reduceAdd, Nat.reduceSub, Array.replicate_succ, Array.replicate_zero, List.push_toArray, List.append_toArray, List.nil_append, List.cons_append]
  have hs := SX.St.start w
  have HG := Lib.hid (fun W => groups_any (n : Int) W)
  gi_wp2_with (first
    | (refine SX.lsm rfl rfl ?_; first | (refine SX.load_blk rfl (by assumption) (by first | (simp; done) | fail) (by rfl) (by first | exact SX.at0 | exact SX.at1 | exact SX.at2 | exact SX.at3 | exact SX.at4 | exact SX.at5) (by rfl) ?_) | (refine SX.load_old rfl (by assumption) (by first | (simp; done) | fail) (by rfl) (by assumption) (by first | (simp; done) | fail) (by assumption) ?_) | (refine SX.store_blk rfl (by assumption) (by first | (simp; done) | fail) (by rfl) (by first | (go_simp; exact rfl) | fail) (by rfl) (by first | exact SX.at0 | exact SX.at1 | exact SX.at2 | exact SX.at3 | exact SX.at4 | exact SX.at5) (by first | (simp; done) | fail) ?_; intro w1 hs1; simp only [List.set_cons_zero, List.set_cons_succ, List.setIfInBounds_toArray] at hs1) | (refine SX.alc_ptr rfl (by assumption) (by first | (intro W; go_simp; exact rfl) | fail) ?_; intro g1 w1 hs1) | (refine SX.alc_slice rfl (by assumption) (by first | (intro W; go_simp; exact rfl) | fail) ?_; intro g1 w1 hs1) | (refine SX.store_agg rfl (by assumption) (by rfl) (by first | (go_simp; exact rfl) | fail) (by kernel_rfl) (by first | (simp [Value.oneCell']; done) | fail) (by first | exact SX.at0 | exact SX.at1 | exact SX.at2 | exact SX.at3 | exact SX.at4 | exact SX.at5) (by rfl) ?_; intro w1 hs1; simp only [List.set_cons_zero, List.set_cons_succ, List.setIfInBounds_toArray] at hs1) | (refine SX.load_aggB rfl (by assumption) (by first | (simp; done) | fail) (by rfl) (by first | exact SX.at0 | exact SX.at1 | exact SX.at2 | exact SX.at3 | exact SX.at4 | exact SX.at5) (by kernel_rfl) ?_))
    | (refine SX.lsc rfl rfl ?_
       refine SX.wp_calls (fun _ => trivial) rfl rfl (by rfl) Try.call39 (by go_simp; rfl) ?_; refine (SX.call (HG.out _)).mono ?_; rintro e w5 ⟨v5, rfl, g5, rfl, hs5⟩; have hs6 := hs1.call hs5; refine ⟨_, rfl, ?_⟩))
  rename_i gv wv hv g0 wg hg wh hh K1 a1
  clear hv hg hh
  have hs7 := ((hs6.front (j := 2) rfl).asRow (k := 0) (size := 1) rfl (by decide)).perm (List.Perm.cons _ (List.perm_append_comm (l₁ := [_, _]) (l₂ := [_])))
  simp only [Act.put, List.setIfInBounds_toArray, List.set_cons_succ, List.set_cons_zero]
  simp only [List.cons_append, List.nil_append] at hs7
  have HN8 : Hid (2 ^ n ≤ 8) := by
    have : n = 1 ∨ n = 2 ∨ n = 3 := by omega
    rcases this with rfl | rfl | rfl <;> exact Lib.hid (by decide)
  refine SX.rangeFunc (groups_seq n g5 hn hn3) rfl Try.call52 (L0 := [_, _, _]) hs7 trivial (by rintro x args Lx ⟨g, rfl, -⟩; rfl) (SfI g1 _ n y i v) (fun _ _ => False) ⟨_, rfl⟩ ?round ?done ?stop
  case round =>
    rintro l Z pre x args W L Lx ⟨sv, rfl⟩ hpre ⟨g8, rfl, rfl⟩ hst
    obtain ⟨rfl, hxq⟩ := prefix_range hpre
    gi_wp2
    refine ⟨[_, _, _, _], hst, fun W2 Z2 hs => ?_⟩
    simp only [List.cons_append, List.nil_append] at hs
    clear hst hs6 hs5 hs7 hs1
    have hlen := sqs_le n y i v (List.range x)
    rw [List.length_range] at hlen
    have hx8 : x < 8 := by have := HN8.out; omega
    have HQ := Lib.hid (sqs_snoc n y i v (List.range x) x)
    have hbit : (ints .u8 (grp n x))[((i : Int)).toNat]? = some (.int .u8 (bitOf x i)) := by simp [ints, grp, hi]
    generalize sqs n y i v (List.range x) = qs at *
    gi_wp2
    refine SX.region_begin (SX.Keep w [] [SX.Ent.row (.slice (some ⟨g8, 0, none⟩) n n) 5 1 n (ints .u8 (grp n x)), SX.Ent.blk gv 5 #[.int .u8 v]]) (fun _ => true) mixed ?_
    have hsD := SX.St.drew hs
    generalize World.drew _ = wd at hsD ⊢
    refine SX.take 0 (fun _ => trivial) (by simp only [List.getElem?_toArray, List.getElem?_cons_succ, List.getElem?_cons_zero]; rfl) (by kernel_rfl) (by exact fun _ _ _ h => h) (by rfl) (by intro w' _; go_simp; (try go_bits); rfl) (by exact ⟨_, by assumption, by simp⟩) ?_
    simp only [Act.put, List.setIfInBounds_toArray, List.set_cons_succ, List.set_cons_zero]
    refine SX.take 1 (fun _ => trivial) (by simp only [List.getElem?_toArray, List.getElem?_cons_succ, List.getElem?_cons_zero]; rfl) (by kernel_rfl) (by exact fun _ _ _ h => h) (by rfl) (by first | exact SX.y_load rfl (by first | (simp; done) | fail) rfl (fun _ hk => hk.blk (by first | exact SX.in0 | exact SX.in1 | exact SX.in2 | exact SX.in3 | exact SX.in4) (by rfl)) | exact SX.y_load rfl (by first | (simp; done) | fail) rfl (fun _ hk => hk.old (by assumption) (by first | (simp; done) | fail) (by assumption)) | exact SX.y_loadr rfl (by first | (simp; done) | fail) rfl (by first | exact SX.in0 | exact SX.in1 | exact SX.in2 | exact SX.in3 | exact SX.in4) (by first | assumption | rfl)) (by exact ⟨_, by assumption, by simp⟩) ?_
    simp only [Act.put, List.setIfInBounds_toArray, List.set_cons_succ, List.set_cons_zero]
    refine SX.take 2 (fun _ => trivial) (by simp only [List.getElem?_toArray, List.getElem?_cons_succ, List.getElem?_cons_zero]; rfl) (by kernel_rfl) (by exact fun _ _ _ h => h) (by rfl) (by intro w' _; go_simp; (try go_bits); rfl) (by exact ⟨_, by assumption, by simp⟩) ?_
    simp only [Act.put, List.setIfInBounds_toArray, List.set_cons_succ, List.set_cons_zero]
    refine SX.take 3 (fun _ => trivial) (by simp only [List.getElem?_toArray, List.getElem?_cons_succ, List.getElem?_cons_zero]; rfl) (by kernel_rfl) (by exact fun _ _ _ h => h) (by rfl) (by first | exact SX.y_load rfl (by first | (simp; done) | fail) rfl (fun _ hk => hk.blk (by first | exact SX.in0 | exact SX.in1 | exact SX.in2 | exact SX.in3 | exact SX.in4) (by rfl)) | exact SX.y_load rfl (by first | (simp; done) | fail) rfl (fun _ hk => hk.old (by assumption) (by first | (simp; done) | fail) (by assumption)) | exact SX.y_loadr rfl (by first | (simp; done) | fail) rfl (by first | exact SX.in0 | exact SX.in1 | exact SX.in2 | exact SX.in3 | exact SX.in4) (by first | assumption | rfl)) (by exact ⟨_, by assumption, by simp⟩) ?_
    simp only [Act.put, List.setIfInBounds_toArray, List.set_cons_succ, List.set_cons_zero]
    refine SX.take 4 (fun _ => trivial) (by simp only [List.getElem?_toArray, List.getElem?_cons_succ, List.getElem?_cons_zero]; rfl) (by kernel_rfl) (by exact fun _ _ _ h => h) (by rfl) (by first | exact SX.y_load rfl (by first | (simp; done) | fail) rfl (fun _ hk => hk.blk (by first | exact SX.in0 | exact SX.in1 | exact SX.in2 | exact SX.in3 | exact SX.in4) (by rfl)) | exact SX.y_load rfl (by first | (simp; done) | fail) rfl (fun _ hk => hk.old (by assumption) (by first | (simp; done) | fail) (by assumption)) | exact SX.y_loadr rfl (by first | (simp; done) | fail) rfl (by first | exact SX.in0 | exact SX.in1 | exact SX.in2 | exact SX.in3 | exact SX.in4) (by first | assumption | rfl)) (by exact ⟨_, by assumption, by simp⟩) ?_
    simp only [Act.put, List.setIfInBounds_toArray, List.set_cons_succ, List.set_cons_zero]
    refine SX.take 5 (fun _ => trivial) (by simp only [List.getElem?_toArray, List.getElem?_cons_succ, List.getElem?_cons_zero]; rfl) (by kernel_rfl) (by exact fun _ _ _ h => h) (by rfl) (by intro w' _; go_simp; (try go_bits); rfl) (by exact ⟨_, by assumption, by simp⟩) ?_
    simp only [Act.put, List.setIfInBounds_toArray, List.set_cons_succ, List.set_cons_zero]
    refine SX.done (by kernel_rfl) ?_
    have hLv := fun W A c (hr : Sl W A (ints .u8 (grp n x))) (hc : n ≤ c) => level_any (grp n x) A c n W hr (grp_length n x) hn3 hc (grp_bits n x)
    have hd := lev_bd (grp n x) (grp_bits n x)
    rw [grp_length] at hd
    have HSQ : Hid (sq n y x = (y - 16 * lev (grp n x)) * (y - 16 * lev (grp n x))) := Lib.hid rfl
    have hLB : -8 < lev (grp n x) ∧ lev (grp n x) < 8 := by
      have : n = 1 ∨ n = 2 ∨ n = 3 := by omega
      rcases this with h | h | h <;> (rw [h] at hd ⊢; simp at hd; omega)
    clear hd
    generalize lev (grp n x) = lv at *
    obtain ⟨hl1, hl2⟩ := hLB
    have HLv := Lib.hid hLv
    clear hLv hs
    gi_wp2
    · rename_i h K2 a2
      have HB := Lib.hid h
      clear h
      refine SX.region_begin (SX.Keep w [] []) (fun _ => true) mixed ?_
      have hsD := SX.St.drew hsD
      generalize World.drew _ = wd at hsD ⊢
      refine SX.take 0 (fun _ => trivial) (by simp only [List.getElem?_toArray, List.getElem?_cons_succ, List.getElem?_cons_zero]; rfl) (by kernel_rfl) (by exact fun _ _ _ h => h) (by rfl) (by first | exact SX.y_load rfl (by first | (simp; done) | fail) rfl (fun _ hk => hk.blk (by first | exact SX.in0 | exact SX.in1 | exact SX.in2 | exact SX.in3 | exact SX.in4) (by rfl)) | exact SX.y_load rfl (by first | (simp; done) | fail) rfl (fun _ hk => hk.old (by assumption) (by first | (simp; done) | fail) (by assumption)) | exact SX.y_loadr rfl (by first | (simp; done) | fail) rfl (by first | exact SX.in0 | exact SX.in1 | exact SX.in2 | exact SX.in3 | exact SX.in4) (by first | assumption | rfl)) (by exact ⟨_, by assumption, by simp⟩) ?_
      simp only [Act.put, List.setIfInBounds_toArray, List.set_cons_succ, List.set_cons_zero]
      refine SX.take 1 (fun _ => trivial) (by simp only [List.getElem?_toArray, List.getElem?_cons_succ, List.getElem?_cons_zero]; rfl) (by kernel_rfl) (by exact fun _ _ _ h => h) (by rfl) (by intro w' _; go_simp; (try go_bits); rfl) (by exact ⟨_, by assumption, by simp⟩) ?_
      simp only [Act.put, List.setIfInBounds_toArray, List.set_cons_succ, List.set_cons_zero]
      refine SX.next 2 (by simp only [List.getElem?_toArray, List.getElem?_cons_succ, List.getElem?_cons_zero]; rfl) (by kernel_rfl) (by rfl) ?_
      refine SX.wp_calls (fun _ => trivial) rfl rfl (by rfl) Try.call29 (by go_simp; rfl) ?_
      refine (SX.callR (HLv.out _ _ _ (row_sl hsD SX.at0) (Nat.le_refl _))).mono ?_
      rintro e y1 ⟨v1, rfl, rfl, hy1⟩
      have hz1 := hsD.call hy1
      simp only [List.cons_append, List.nil_append] at hz1
      refine ⟨_, rfl, ?_⟩
      refine ⟨fun _ => ⟨_, by assumption, by simp⟩, ?_⟩
      simp only [Act.put, List.setIfInBounds_toArray, List.set_cons_succ, List.set_cons_zero]
      refine SX.take 3 (fun _ => trivial) (by simp only [List.getElem?_toArray, List.getElem?_cons_succ, List.getElem?_cons_zero]; rfl) (by kernel_rfl) (by exact fun _ _ _ h => h) (by rfl) (by intro w' _; go_simp; (try go_bits); rfl) (by exact ⟨_, by assumption, by simp⟩) ?_
      simp only [Act.put, List.setIfInBounds_toArray, List.set_cons_succ, List.set_cons_zero]
      refine SX.take 4 (fun _ => trivial) (by simp only [List.getElem?_toArray, List.getElem?_cons_succ, List.getElem?_cons_zero]; rfl) (by kernel_rfl) (by exact fun _ _ _ h => h) (by rfl) (by intro w' _; go_simp; (try go_bits); rfl) (by exact ⟨_, by assumption, by simp⟩) ?_
      simp only [Act.put, List.setIfInBounds_toArray, List.set_cons_succ, List.set_cons_zero]
      refine SX.take 5 (fun _ => trivial) (by simp only [List.getElem?_toArray, List.getElem?_cons_succ, List.getElem?_cons_zero]; rfl) (by kernel_rfl) (by exact fun _ _ _ h => h) (by rfl) (by intro w' _; go_simp; (try go_bits); rfl) (by exact ⟨_, by assumption, by simp⟩) ?_
      simp only [Act.put, List.setIfInBounds_toArray, List.set_cons_succ, List.set_cons_zero]
      refine SX.done (by kernel_rfl) ?_
      have hdd : 0 ≤ (y - 16 * lv) * (y - 16 * lv) ∧ (y - 16 * lv) * (y - 16 * lv) ≤ 1048704 * 1048704 := by
        have h1 : -1048704 ≤ y - 16 * lv := by omega
        have h2 : y - 16 * lv ≤ 1048704 := by omega
        generalize y - 16 * lv = d at *
        constructor
        · exact mul_self_nonneg' d
        · exact mul_self_le' h1 h2
      gi_wp2_with (first
        | (refine SX.lsm rfl rfl ?_; first | (refine SX.load_blk rfl (by assumption) (by first | (simp; done) | fail) (by rfl) (by first | exact SX.at0 | exact SX.at1 | exact SX.at2 | exact SX.at3 | exact SX.at4 | exact SX.at5) (by rfl) ?_) | (refine SX.load_old rfl (by assumption) (by first | (simp; done) | fail) (by rfl) (by assumption) (by first | (simp; done) | fail) (by assumption) ?_) | (refine SX.store_blk rfl (by assumption) (by first | (simp; done) | fail) (by rfl) (by first | (go_simp; exact rfl) | fail) (by rfl) (by first | exact SX.at0 | exact SX.at1 | exact SX.at2 | exact SX.at3 | exact SX.at4 | exact SX.at5) (by first | (simp; done) | fail) ?_; intro w1 hs1; simp only [List.set_cons_zero, List.set_cons_succ, List.setIfInBounds_toArray] at hs1) | (refine SX.alc_ptr rfl (by assumption) (by first | (intro W; go_simp; exact rfl) | fail) ?_; intro g1 w1 hs1) | (refine SX.alc_slice rfl (by assumption) (by first | (intro W; go_simp; exact rfl) | fail) ?_; intro g1 w1 hs1) | (refine SX.store_agg rfl (by assumption) (by rfl) (by first | (go_simp; exact rfl) | fail) (by kernel_rfl) (by first | (simp [Value.oneCell']; done) | fail) (by first | exact SX.at0 | exact SX.at1 | exact SX.at2 | exact SX.at3 | exact SX.at4 | exact SX.at5) (by rfl) ?_; intro w1 hs1; simp only [List.set_cons_zero, List.set_cons_succ, List.setIfInBounds_toArray] at hs1) | (refine SX.load_aggB rfl (by assumption) (by first | (simp; done) | fail) (by rfl) (by first | exact SX.at0 | exact SX.at1 | exact SX.at2 | exact SX.at3 | exact SX.at4 | exact SX.at5) (by kernel_rfl) ?_))
        | (refine SX.lsa rfl rfl (SX.append_blk rfl (by assumption) Try.underlying38 hi0 hzz0 hzz1 hzz2 rfl (by decide) (by rfl) (by rfl) (by first | exact SX.at0 | exact SX.at1 | exact SX.at2 | exact SX.at3 | exact SX.at4 | exact SX.at5) SX.at0 (by rfl) (by simp [Value.oneCell']) (by decide) (by unfold maxLen; omega) (by omega) ?_); intro g2 cap2 w2 hs2; simp only [List.set_cons_succ, List.set_cons_zero, List.eraseIdx_cons_succ, List.eraseIdx_cons_zero] at hs2))
      refine ⟨_, ⟨.slice (some ⟨g2, 0, none⟩) (qs.length + 1) cap2, rfl⟩, ?_⟩
      rw [HQ.out, if_pos HB.out]
      simp only [ints, List.map_append, List.map_cons, List.map_nil, List.length_append, List.length_cons, List.length_nil, HSQ.out, List.cons_append, List.nil_append]
      exact hs1.tl
    · rename_i h
      refine ⟨_, ⟨sv, rfl⟩, ?_⟩
      rw [HQ.out, if_neg (by rw [h]; simp)]
      exact hsD.tl
  case done =>
    rintro D W L ⟨sv, rfl⟩ hst
    obtain ⟨x0, r, hxr⟩ := sqs_some n y i v hn hn3 hi HV.out
    have hlen := sqs_le n y i v (List.range (2 ^ n))
    rw [List.length_range] at hlen
    have hr8 : r.length + 1 ≤ 8 := by rw [hxr] at hlen; simp only [List.length_cons] at hlen; have := HN8.out; omega
    have HD : Hid (dst n y i v = lst x0 r) := by unfold dst; rw [hxr]; exact Lib.hid rfl
    rw [hxr] at hst
    clear hxr hlen hs6 hs5 hs7 hs1
    simp only [List.cons_append, List.nil_append, List.length_cons] at hst
    obtain ⟨gr, cr, rfl, hcr, hcm⟩ := row_form (j := 0) hst rfl (by omega)
    have hnc' : ((r.length + 1 : Nat) : Int) ≤ cr := by omega
    have hc2 : ¬ cr = 0 := by omega
    have h1r : (1 : Int) ≤ (r.length : Int) + 1 := by omega
    have h00 : (ints .i64 (x0 :: r))[0]? = some (.int .i64 x0) := rfl
    gi_wp2
    refine SX.region_begin (SX.Keep w [] [SX.Ent.row (.slice (some ⟨gr, 0, none⟩) (r.length + 1) cr) 3 1 (r.length + 1) (ints .i64 (x0 :: r)), SX.Ent.blk g1 38 #[.slice (some ⟨gr, 0, none⟩) (r.length + 1) cr]]) (fun _ => true) mixed ?_
    have hsD := SX.St.drew hst
    generalize World.drew _ = wd at hsD ⊢
    refine SX.take 0 (fun _ => trivial) (by simp only [List.getElem?_toArray, List.getElem?_cons_succ, List.getElem?_cons_zero]; rfl) (by kernel_rfl) (by exact fun _ _ _ h => h) (by rfl) (by first | exact SX.y_load rfl (by first | (simp; done) | fail) rfl (fun _ hk => hk.blk (by first | exact SX.in0 | exact SX.in1 | exact SX.in2 | exact SX.in3 | exact SX.in4) (by rfl)) | exact SX.y_load rfl (by first | (simp; done) | fail) rfl (fun _ hk => hk.old (by assumption) (by first | (simp; done) | fail) (by assumption)) | exact SX.y_loadr rfl (by first | (simp; done) | fail) rfl (by first | exact SX.in0 | exact SX.in1 | exact SX.in2 | exact SX.in3 | exact SX.in4) (by first | assumption | rfl)) (by exact ⟨_, by assumption, by simp⟩) ?_
    simp only [Act.put, List.setIfInBounds_toArray, List.set_cons_succ, List.set_cons_zero]
    refine SX.take 1 (fun _ => trivial) (by simp only [List.getElem?_toArray, List.getElem?_cons_succ, List.getElem?_cons_zero]; rfl) (by kernel_rfl) (by exact fun _ _ _ h => h) (by rfl) (by intro w' _; go_simp; (try go_bits); rfl) (by exact ⟨_, by assumption, by simp⟩) ?_
    simp only [Act.put, List.setIfInBounds_toArray, List.set_cons_succ, List.set_cons_zero]
    refine SX.take 2 (fun _ => trivial) (by simp only [List.getElem?_toArray, List.getElem?_cons_succ, List.getElem?_cons_zero]; rfl) (by kernel_rfl) (by exact fun _ _ _ h => h) (by rfl) (by first | exact SX.y_load rfl (by first | (simp; done) | fail) rfl (fun _ hk => hk.blk (by first | exact SX.in0 | exact SX.in1 | exact SX.in2 | exact SX.in3 | exact SX.in4) (by rfl)) | exact SX.y_load rfl (by first | (simp; done) | fail) rfl (fun _ hk => hk.old (by assumption) (by first | (simp; done) | fail) (by assumption)) | exact SX.y_loadr rfl (by first | (simp; done) | fail) rfl (by first | exact SX.in0 | exact SX.in1 | exact SX.in2 | exact SX.in3 | exact SX.in4) (by first | assumption | rfl)) (by exact ⟨_, by assumption, by simp⟩) ?_
    simp only [Act.put, List.setIfInBounds_toArray, List.set_cons_succ, List.set_cons_zero]
    refine SX.take 3 (fun _ => trivial) (by simp only [List.getElem?_toArray, List.getElem?_cons_succ, List.getElem?_cons_zero]; rfl) (by kernel_rfl) (by exact fun _ _ _ h => h) (by rfl) (by first | exact SX.y_load rfl (by first | (simp; done) | fail) rfl (fun _ hk => hk.blk (by first | exact SX.in0 | exact SX.in1 | exact SX.in2 | exact SX.in3 | exact SX.in4) (by rfl)) | exact SX.y_load rfl (by first | (simp; done) | fail) rfl (fun _ hk => hk.old (by assumption) (by first | (simp; done) | fail) (by assumption)) | exact SX.y_loadr rfl (by first | (simp; done) | fail) rfl (by first | exact SX.in0 | exact SX.in1 | exact SX.in2 | exact SX.in3 | exact SX.in4) (by first | assumption | rfl)) (by exact ⟨_, by assumption, by simp⟩) ?_
    simp only [Act.put, List.setIfInBounds_toArray, List.set_cons_succ, List.set_cons_zero]
    refine SX.take 4 (fun _ => trivial) (by simp only [List.getElem?_toArray, List.getElem?_cons_succ, List.getElem?_cons_zero]; rfl) (by kernel_rfl) (by exact fun _ _ _ h => h) (by rfl) (by intro w' _; go_simp; (try go_bits); rfl) (by exact ⟨_, by assumption, by simp⟩) ?_
    simp only [Act.put, List.setIfInBounds_toArray, List.set_cons_succ, List.set_cons_zero]
    refine SX.next 5 (by simp only [List.getElem?_toArray, List.getElem?_cons_succ, List.getElem?_cons_zero]; rfl) (by kernel_rfl) (by rfl) ?_
    refine SX.wp_calls (fun _ => trivial) rfl rfl (by rfl) Try.call45 (by go_simp; rfl) ?_
    refine (SX.call (least_any x0 _ r.length _ r _ ((row_sl hsD SX.at0).tail hcr) rfl (by omega))).mono ?_
    rintro e y1 ⟨v1, rfl, rfl, hy1⟩
    have hz1 := hsD.call hy1
    simp only [List.cons_append, List.nil_append] at hz1
    refine ⟨_, rfl, ?_⟩
    refine ⟨fun _ => ⟨_, by assumption, by simp⟩, ?_⟩
    simp only [Act.put, List.setIfInBounds_toArray, List.set_cons_succ, List.set_cons_zero]
    refine SX.take 6 (fun _ => trivial) (by simp only [List.getElem?_toArray, List.getElem?_cons_succ, List.getElem?_cons_zero]; rfl) (by kernel_rfl) (by exact fun _ _ _ h => h) (by rfl) (by intro w' _; go_simp; (try go_bits); rfl) (by exact ⟨_, by assumption, by simp⟩) ?_
    simp only [Act.put, List.setIfInBounds_toArray, List.set_cons_succ, List.set_cons_zero]
    refine SX.done (by kernel_rfl) ?_
    gi_wp2
    all_goals refine SX.leave1 (L1 := [_, _, _]) hz1 rfl (fun w => results_tmp rfl _ _ _) (fun w' h' => ⟨_, rfl, by rw [HD.out]; rfl, h'.sub (List.nil_sublist _)⟩)
  case stop =>
    rintro D cc W L h
    exact h.elim

theorem dst_bd (n i : Nat) (y v : Int) (hn : 1 ≤ n) (hn3 : n ≤ 3) (hi : i < n) (hy1 : -1048576 ≤ y) (hy2 : y ≤ 1048576) (hv : v = 0 ∨ v = 1) : 0 ≤ dst n y i v ∧ dst n y i v ≤ 1048704 * 1048704 := by
  have hall : ∀ z ∈ sqs n y i v (List.range (2 ^ n)), 0 ≤ z ∧ z ≤ 1048704 * 1048704 := by
    intro z hz
    simp only [sqs, List.mem_map] at hz
    obtain ⟨g, _, rfl⟩ := hz
    have hd := lev_bd (grp n g) (grp_bits n g)
    rw [grp_length] at hd
    have hLB : -8 < lev (grp n g) ∧ lev (grp n g) < 8 := by
      have : n = 1 ∨ n = 2 ∨ n = 3 := by omega
      rcases this with h | h | h <;> (rw [h] at hd ⊢; simp at hd; omega)
    exact ⟨mul_self_nonneg' _, mul_self_le' (by omega) (by omega)⟩
  obtain ⟨x, r, hx⟩ := sqs_some n y i v hn hn3 hi hv
  have hl : ∀ (l : List Int) (x : Int), (0 ≤ x ∧ x ≤ 1048704 * 1048704) → (∀ z ∈ l, 0 ≤ z ∧ z ≤ 1048704 * 1048704) → 0 ≤ lst x l ∧ lst x l ≤ 1048704 * 1048704 := by
    intro l
    induction l with
    | nil => intro x h _; exact h
    | cons a l ih => intro x h h2; exact ih (min x a) (by have := h2 a (by simp); omega) (fun z hz => h2 z (by simp [hz]))
  unfold dst
  rw [hx] at hall ⊢
  exact hl r x (hall x (by simp)) (fun z hz => hall z (by simp [hz]))

/-- the soft value of bit i -/
def sfv (n : Nat) (y : Int) (i : Nat) : Int := clampv ((dst n y i 1 - dst n y i 0).tdiv 64)
def sfl (n : Nat) (y : Int) : List Int := (List.range n).map (sfv n y)
def sfill (n : Nat) (y : Int) (j : Nat) : List Int := (List.range n).map fun i => if i < j then sfv n y i else 0
theorem sfill_zero (n : Nat) (y : Int) : ints .i64 (sfill n y 0) = List.replicate n (.int .i64 0) := by
  apply List.ext_getElem?
  intro i
  simp [ints, sfill, List.getElem?_replicate, List.getElem?_range]
  by_cases h : i < n <;> simp [h]
theorem sfill_full (n : Nat) (y : Int) : sfill n y n = sfl n y := by
  unfold sfill sfl
  refine List.map_congr_left fun i hi => ?_
  rw [if_pos (by simpa using hi)]
theorem sfill_succ (n : Nat) (y : Int) (j : Nat) (hj : j < n) : (ints .i64 (sfill n y j)).set j (.int .i64 (sfv n y j)) = ints .i64 (sfill n y (j + 1)) := by
  apply List.ext_getElem?
  intro i
  simp only [ints, sfill, List.getElem?_set, List.length_map, List.length_range, List.getElem?_map]
  by_cases h : j = i
  · subst h
    simp [hj]
  · rw [if_neg h]
    by_cases hi : i < n
    · simp only [List.getElem?_range hi, Option.map_some]
      congr 2
      by_cases h2 : i < j
      · rw [if_pos h2, if_pos (by omega)]
      · rw [if_neg h2, if_neg (by omega)]
    · rw [List.getElem?_eq_none (by simp; omega)]
      simp
theorem sfill_length (n : Nat) (y : Int) (j : Nat) : (ints .i64 (sfill n y j)).length = n := by simp [ints, sfill]

set_option maxRecDepth 100000 in
set_option maxHeartbeats 1000000 in
theorem softs_any (n : Nat) (y : Int) (w : World) (hn : 1 ≤ n) (hn3 : n ≤ 3) (hy1 : -1048576 ≤ y) (hy2 : y ≤ 1048576) :
    Calls Try.prog 36 #[.int .i64 (n : Int), .int .i64 y] w (SX.Ret fun v w' => ∃ g, v = .slice (some ⟨g, 0, none⟩) n n ∧ SX.St w [] w' [SX.Ent.row (.slice (some ⟨g, 0, none⟩) n n) 3 1 n (ints .i64 (sfl n y))]) := by
  obtain ⟨i0, hi0, hzz0, hzz1, hzz2⟩ := info_parts info3
  refine SX.enter Try.func36 rfl ?_
  simp only [Try.ntmps36, List.size_toArray, List.length_cons, List.length_nil, Nat.reduceAdd, Nat.reduceSub, Array.replicate_succ, Array.replicate_zero, List.push_toArray, List.append_toArray, List.nil_append, List.cons_append]
  have hs := SX.St.start w
  gi_wp2_with (first
    | (refine SX.lsm rfl rfl ?_; first | (refine SX.load_blk rfl (by assumption) (by first | (simp; done) | fail) (by rfl) (by first | exact SX.at0 | exact SX.at1 | exact SX.at2 | exact SX.at3 | exact SX.at4 | exact SX.at5) (by rfl) ?_) | (refine SX.load_old rfl (by assumption) (by first | (simp; done) | fail) (by rfl) (by assumption) (by first | (simp; done) | fail) (by assumption) ?_) | (refine SX.store_blk rfl (by assumption) (by first | (simp; done) | fail) (by rfl) (by first | (go_simp; exact rfl) | fail) (by rfl) (by first | exact SX.at0 | exact SX.at1 | exact SX.at2 | exact SX.at3 | exact SX.at4 | exact SX.at5) (by first | (simp; done) | fail) ?_; intro w1 hs1; simp only [List.set_cons_zero, List.set_cons_succ, List.setIfInBounds_toArray] at hs1) | (refine SX.alc_ptr rfl (by assumption) (by first | (intro W; go_simp; exact rfl) | fail) ?_; intro g1 w1 hs1) | (refine SX.alc_slice rfl (by assumption) (by first | (intro W; go_simp; exact rfl) | fail) ?_; intro g1 w1 hs1) | (refine SX.store_agg rfl (by assumption) (by rfl) (by first | (go_simp; exact rfl) | fail) (by kernel_rfl) (by first | (simp [Value.oneCell']; done) | fail) (by first | exact SX.at0 | exact SX.at1 | exact SX.at2 | exact SX.at3 | exact SX.at4 | exact SX.at5) (by rfl) ?_; intro w1 hs1; simp only [List.set_cons_zero, List.set_cons_succ, List.setIfInBounds_toArray] at hs1) | (refine SX.load_aggB rfl (by assumption) (by first | (simp; done) | fail) (by rfl) (by first | exact SX.at0 | exact SX.at1 | exact SX.at2 | exact SX.at3 | exact SX.at4 | exact SX.at5) (by kernel_rfl) ?_))
    | (refine SX.lsm rfl rfl ?_; refine SX.mk_row rfl (by assumption) Try.underlying38 hi0 hzz0 hzz1 hzz2 (by rfl) (by rfl) (by omega) (by unfold maxLen; omega) ?_; intro g2 w2 hs2; simp only [Value.cells, Nat.mul_one, SX.madeCells_one] at hs2; rw [← sfill_zero n y] at hs2))
  rename_i gn wn hwn K0 a0
  clear hs1 hwn hs
  obtain ⟨gy, rfl⟩ : ∃ gy, gy = g1 := ⟨_, rfl⟩
  gi_loopw [6, 7, 12] (fun _ _ i wr => ∃ k : Nat, i = .int .i64 (k : Int) ∧ k ≤ n ∧ ∃ R, SX.St w [] wr (SX.Ent.row (.slice (some ⟨g2, 0, none⟩) n n) 3 1 n (ints .i64 (sfill n y k)) :: SX.Ent.blk gy 3 #[.int .i64 y] :: SX.Ent.blk gn 3 #[.int .i64 (n : Int)] :: R)) (fun _ _ i _ => n - (intOf i).toNat)
  case atStart => exact ⟨0, rfl, by omega, [], hs2⟩
  case round =>
    clear hs2
    obtain ⟨k, rfl, hkn, R, hs⟩ := hrel
    by_cases hlt : k < n
    · have hlt' : (k : Int) < n := by omega
      have hlen := sfill_length n y k
      have hd1 := dst_bd n k y 1 hn hn3 hlt hy1 hy2 (by simp)
      have hd0 := dst_bd n k y 0 hn hn3 hlt hy1 hy2 (by simp)
      have HS : Hid (sfv n y k = clampv ((dst n y k 1 - dst n y k 0).tdiv 64)) := Lib.hid rfl
      have HD := fun v hv gn gi gy W h1 h2 h3 c1 c2 c3 => dist_any n k y v gn gi gy W hn hn3 hlt hy1 hy2 hv h1 h2 h3 c1 c2 c3
      have HF := Lib.hid (sfill_succ n y k hlt)
      have HD1 := Lib.hid (HD 1 (by simp))
      have HD0 := Lib.hid (HD 0 (by simp))
      clear HD
      generalize dst n y k 1 = d1 at *
      generalize dst n y k 0 = d0 at *
      obtain ⟨h11, h12⟩ := hd1
      obtain ⟨h01, h02⟩ := hd0
      gi_wp2_with (first | (refine SX.lsm rfl rfl ?_; first | (refine SX.load_blk rfl (by assumption) (by first | (simp; done) | fail) (by rfl) (by first | exact SX.at0 | exact SX.at1 | exact SX.at2 | exact SX.at3 | exact SX.at4 | exact SX.at5) (by rfl) ?_) | (refine SX.load_old rfl (by assumption) (by first | (simp; done) | fail) (by rfl) (by assumption) (by first | (simp; done) | fail) (by assumption) ?_) | (refine SX.store_blk rfl (by assumption) (by first | (simp; done) | fail) (by rfl) (by first | (go_simp; exact rfl) | fail) (by rfl) (by first | exact SX.at0 | exact SX.at1 | exact SX.at2 | exact SX.at3 | exact SX.at4 | exact SX.at5) (by first | (simp; done) | fail) ?_; intro w1 hs1; simp only [List.set_cons_zero, List.set_cons_succ, List.setIfInBounds_toArray] at hs1) | (refine SX.alc_ptr rfl (by assumption) (by first | (intro W; go_simp; exact rfl) | fail) ?_; intro g1 w1 hs1) | (refine SX.alc_slice rfl (by assumption) (by first | (intro W; go_simp; exact rfl) | fail) ?_; intro g1 w1 hs1) | (refine SX.store_agg rfl (by assumption) (by rfl) (by first | (go_simp; exact rfl) | fail) (by kernel_rfl) (by first | (simp [Value.oneCell']; done) | fail) (by first | exact SX.at0 | exact SX.at1 | exact SX.at2 | exact SX.at3 | exact SX.at4 | exact SX.at5) (by rfl) ?_; intro w1 hs1; simp only [List.set_cons_zero, List.set_cons_succ, List.setIfInBounds_toArray] at hs1) | (refine SX.load_aggB rfl (by assumption) (by first | (simp; done) | fail) (by rfl) (by first | exact SX.at0 | exact SX.at1 | exact SX.at2 | exact SX.at3 | exact SX.at4 | exact SX.at5) (by kernel_rfl) ?_)))
      obtain ⟨gi, rfl⟩ : ∃ gi, gi = g1 := ⟨_, rfl⟩
      refine SX.region_begin (SX.Keep w [] [SX.Ent.blk gi 3 #[.int .i64 (k : Int)]]) (fun j => j != 10) mixed ?_
      have hsD := SX.St.drew hs1
      generalize World.drew _ = wd at hsD ⊢
      refine SX.take 0 (fun _ => trivial) (by simp only [List.getElem?_toArray, List.getElem?_cons_succ, List.getElem?_cons_zero]; rfl) (by kernel_rfl) (by exact fun _ _ _ h => h) (by rfl) (by intro w' _; go_simp; (try go_bits); rfl) (by exact ⟨_, by assumption, by simp⟩) ?_
      simp only [Act.put, List.setIfInBounds_toArray, List.set_cons_succ, List.set_cons_zero]
      refine SX.take 1 (fun _ => trivial) (by simp only [List.getElem?_toArray, List.getElem?_cons_succ, List.getElem?_cons_zero]; rfl) (by kernel_rfl) (by exact fun _ _ _ h => h) (by rfl) (by first | exact SX.y_load rfl (by first | (simp; done) | fail) rfl (fun _ hk => hk.blk (by first | exact SX.in0 | exact SX.in1 | exact SX.in2 | exact SX.in3 | exact SX.in4) (by rfl)) | exact SX.y_load rfl (by first | (simp; done) | fail) rfl (fun _ hk => hk.old (by assumption) (by first | (simp; done) | fail) (by assumption)) | exact SX.y_loadr rfl (by first | (simp; done) | fail) rfl (by first | exact SX.in0 | exact SX.in1 | exact SX.in2 | exact SX.in3 | exact SX.in4) (by first | assumption | rfl)) (by exact ⟨_, by assumption, by simp⟩) ?_
      simp only [Act.put, List.setIfInBounds_toArray, List.set_cons_succ, List.set_cons_zero]
      refine SX.take 2 (fun _ => trivial) (by simp only [List.getElem?_toArray, List.getElem?_cons_succ, List.getElem?_cons_zero]; rfl) (by kernel_rfl) (by exact fun _ _ _ h => h) (by rfl) (by intro w' _; go_simp; (try go_bits); rfl) (by exact ⟨_, by assumption, by simp⟩) ?_
      simp only [Act.put, List.setIfInBounds_toArray, List.set_cons_succ, List.set_cons_zero]
      refine SX.take 4 (fun _ => trivial) (by simp only [List.getElem?_toArray, List.getElem?_cons_succ, List.getElem?_cons_zero]; rfl) (by kernel_rfl) (by exact fun _ _ _ h => h) (by rfl) (by intro w' _; go_simp; (try go_bits); rfl) (by exact ⟨_, by assumption, by simp⟩) ?_
      simp only [Act.put, List.setIfInBounds_toArray, List.set_cons_succ, List.set_cons_zero]
      refine SX.next 3 (by simp only [List.getElem?_toArray, List.getElem?_cons_succ, List.getElem?_cons_zero]; rfl) (by kernel_rfl) (by rfl) ?_
      refine SX.wp_calls (fun _ => trivial) rfl rfl (by rfl) Try.call44 (by go_simp; rfl) ?_
      refine (SX.call (HD1.out _ _ _ _ (hsD.cellOf SX.at3 (i := 0) rfl).1 (hsD.cellOf SX.at0 (i := 0) rfl).1 (hsD.cellOf SX.at2 (i := 0) rfl).1 (hsD.cellOf SX.at3 rfl).2 (hsD.cellOf SX.at0 rfl).2 (hsD.cellOf SX.at2 rfl).2)).mono ?_
      rintro e y1 ⟨v1, rfl, rfl, hy1⟩
      have hz1 := hsD.call hy1
      simp only [List.cons_append, List.nil_append] at hz1
      refine ⟨_, rfl, ?_⟩
      refine ⟨fun _ => ⟨_, by assumption, by simp⟩, ?_⟩
      simp only [Act.put, List.setIfInBounds_toArray, List.set_cons_succ, List.set_cons_zero]
      refine SX.next 5 (by simp only [List.getElem?_toArray, List.getElem?_cons_succ, List.getElem?_cons_zero]; rfl) (by kernel_rfl) (by rfl) ?_
      refine SX.wp_calls (fun _ => trivial) rfl rfl (by rfl) Try.call44 (by go_simp; rfl) ?_
      refine (SX.call (HD0.out _ _ _ _ (hz1.cellOf SX.at3 (i := 0) rfl).1 (hz1.cellOf SX.at0 (i := 0) rfl).1 (hz1.cellOf SX.at2 (i := 0) rfl).1 (hz1.cellOf SX.at3 rfl).2 (hz1.cellOf SX.at0 rfl).2 (hz1.cellOf SX.at2 rfl).2)).mono ?_
      rintro e y2 ⟨v2, rfl, rfl, hy2⟩
      have hz2 := hz1.call hy2
      simp only [List.cons_append, List.nil_append] at hz2
      refine ⟨_, rfl, ?_⟩
      refine ⟨fun _ => ⟨_, by assumption, by simp⟩, ?_⟩
      simp only [Act.put, List.setIfInBounds_toArray, List.set_cons_succ, List.set_cons_zero]
      refine SX.take 6 (fun _ => trivial) (by simp only [List.getElem?_toArray, List.getElem?_cons_succ, List.getElem?_cons_zero]; rfl) (by kernel_rfl) (by exact fun _ _ _ h => h) (by rfl) (by intro w' _; go_simp; (try go_bits); rfl) (by exact ⟨_, by assumption, by simp⟩) ?_
      simp only [Act.put, List.setIfInBounds_toArray, List.set_cons_succ, List.set_cons_zero]
      refine SX.take 7 (fun _ => trivial) (by simp only [List.getElem?_toArray, List.getElem?_cons_succ, List.getElem?_cons_zero]; rfl) (by kernel_rfl) (by exact fun _ _ _ h => h) (by rfl) (by intro w' _; go_simp; (try go_bits); rfl) (by exact ⟨_, by assumption, by simp⟩) ?_
      simp only [Act.put, List.setIfInBounds_toArray, List.set_cons_succ, List.set_cons_zero]
      refine SX.next 8 (by simp only [List.getElem?_toArray, List.getElem?_cons_succ, List.getElem?_cons_zero]; rfl) (by kernel_rfl) (by rfl) ?_
      refine SX.wp_calls (fun _ => trivial) rfl rfl (by rfl) Try.call46 (by go_simp; rfl) ?_
      refine (SX.call (clamp_any ((d1 - d0).tdiv 64) _)).mono ?_
      rintro e y3 ⟨v3, rfl, rfl, hy3⟩
      have hz3 := hz2.call hy3
      simp only [List.cons_append, List.nil_append] at hz3
      refine ⟨_, rfl, ?_⟩
      refine ⟨fun _ => ⟨_, by assumption, by simp⟩, ?_⟩
      simp only [Act.put, List.setIfInBounds_toArray, List.set_cons_succ, List.set_cons_zero]
      refine SX.take 9 (fun _ => trivial) (by simp only [List.getElem?_toArray, List.getElem?_cons_succ, List.getElem?_cons_zero]; rfl) (by kernel_rfl) (by exact fun _ _ _ h => h) (by rfl) (by intro w' _; go_simp; (try go_bits); rfl) (by exact ⟨_, by assumption, by simp⟩) ?_
      simp only [Act.put, List.setIfInBounds_toArray, List.set_cons_succ, List.set_cons_zero]
      refine SX.next 10 (by simp only [List.getElem?_toArray, List.getElem?_cons_succ, List.getElem?_cons_zero]; rfl) (by kernel_rfl) (by rfl) ?_
      (refine SX.store_row rfl (by assumption) (by first | (simp; done) | fail) (by rfl) (by first | (go_simp; exact rfl) | fail) (by rfl) (by first | exact SX.at0 | exact SX.at1 | exact SX.at2 | exact SX.at3 | exact SX.at4 | exact SX.at5) (by omega) ?_; intro w1 hs1; simp only [List.set_cons_zero, List.set_cons_succ, List.setIfInBounds_toArray] at hs1)
      refine ⟨fun h => absurd h (by decide), ?_⟩
      simp only [Act.put, List.setIfInBounds_toArray, List.set_cons_succ, List.set_cons_zero]
      refine SX.done (by kernel_rfl) ?_
      rw [← HS.out, HF.out] at hs1
      gi_wp2
      go_roundw
      case rel => exact ⟨k + 1, by go_num, by omega, _, hs1.perm (List.perm_middle (l₁ := [_, _, _]))⟩
      case measure => simp [intOf]; omega
    · have hge : ¬ (k : Int) < n := by omega
      obtain rfl : k = n := by omega
      rw [sfill_full] at hs
      gi_wp2
      go_ret
      exact ⟨_, rfl, g2, rfl, hs.sub (List.Sublist.cons_cons _ (List.nil_sublist _))⟩
end Go.Proofs.Ythncbdoiilgnhaa