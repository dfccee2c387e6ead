/- qam.Modulate. -/
import Derived.Test.YthncbdoiilgnhaaQmB
import Derived.Test.YthncbdoiilgnhaaQmC
namespace Go.Proofs.Ythncbdoiilgnhaa
open Go.RowKit
attribute [local go_sem] Oper.semAt_some
set_option linter.unusedSimpArgs false
set_option linter.unusedVariables false

theorem info32 : (Try.prog.info? 32).map (fun i => (i.zero, i.size, i.bytes)) = some (some (.agg #[.int .i64 0, .int .i64 0]), 2, 16) := by kernel_rfl

/-- is it a modulation -/
def vm (m : Int) : Bool := m == 2 || m == 4 || m == 6

set_option maxRecDepth 100000 in
set_option maxHeartbeats 400000 in
theorem valid_any (m : Int) (w : World) : Calls Try.prog 25 #[.int .i64 m] w (SX.Ret fun v w' => v = .bool (vm m) ∧ SX.St w [] w' []) := by
  have hs := SX.St.start w
  by_cases h2 : m = 2
  · subst h2
    refine SX.enter Try.func25 rfl ?_
    simp only [Try.ntmps25, List.size_toArray, List.length_cons, List.length_nil, Nat.reduceAdd, Nat.reduceSub, Array.replicate_succ, Array.replicate_zero, List.push_toArray, List.append_toArray, List.nil_append, List.cons_append]
    gi_wp2
    go_ret
    exact ⟨_, rfl, rfl, hs⟩
  by_cases h4 : m = 4
  · subst h4
    refine SX.enter Try.func25 rfl ?_
    simp only [Try.ntmps25, List.size_toArray, List.length_cons, List.length_nil, Nat.reduceAdd, Nat.reduceSub, Array.replicate_succ, Array.replicate_zero, List.push_toArray, List.append_toArray, List.nil_append, List.cons_append]
    gi_wp2
    go_ret
    exact ⟨_, rfl, rfl, hs⟩
  by_cases h6 : m = 6
  · subst h6
    refine SX.enter Try.func25 rfl ?_
    simp only [Try.ntmps25, List.size_toArray, List.length_cons, List.length_nil, Nat.reduceAdd, Nat.reduceSub, Array.replicate_succ, Array.replicate_zero, List.push_toArray, List.append_toArray, List.nil_append, List.cons_append]
    gi_wp2
    go_ret
    exact ⟨_, rfl, rfl, hs⟩
  have hv : vm m = false := by simp [vm, h2, h4, h6]
  rw [hv]
  have e2 : (m == 2) = false := by simpa using h2
  have e4 : (m == 4) = false := by simpa using h4
  have e6 : (m == 6) = false := by simpa using h6
  clear h2 h4 h6 hv
  refine SX.enter Try.func25 rfl ?_
  simp only [Try.ntmps25, List.size_toArray, List.length_cons, List.length_nil, Nat.reduceAdd, Nat.reduceSub, Array.replicate_succ, Array.replicate_zero, List.push_toArray, List.append_toArray, List.nil_append, List.cons_append]
  gi_wp2
  go_ret
  exact ⟨_, rfl, rfl, hs⟩

/-- the cells of points -/
def pcells (l : List (Int × Int)) : List Value := l.flatMap fun p => [.int .i64 p.1, .int .i64 p.2]
theorem pcells_snoc (l : List (Int × Int)) (p : Int × Int) : pcells (l ++ [p]) = pcells l ++ [.int .i64 p.1, .int .i64 p.2] := by simp [pcells]
theorem pcells_length (l : List (Int × Int)) : (pcells l).length = l.length * 2 := by
  induction l with
  | nil => rfl
  | cons a l ih => simp [pcells] at ih ⊢; omega

/-- the point of group j of bs, with groups of 2 k bits -/
def mpt (k : Nat) (bs : List Int) (j : Nat) : Int × Int := (16 * lev (evn bs (j * (2 * k)) k), 16 * lev (evn bs (j * (2 * k) + 1) k))

theorem elt_chunk {bs : List Int} {s m : Nat} {i : Nat} (hi : i < m) : elt ((bs.drop s).take m) (i : Nat) = elt bs (s + i : Nat) := by
  simp only [elt, Int.toNat_natCast, List.getD_eq_getElem?_getD, List.getElem?_take, hi, if_true, List.getElem?_drop]

theorem evn_chunk {bs : List Int} {s k f : Nat} (hf : f ≤ 1) : evn ((bs.drop s).take (2 * k)) f k = evn bs (s + f) k := by
  unfold evn
  refine List.map_congr_left fun j hj => ?_
  have : j < k := by simpa using hj
  rw [elt_chunk (by omega)]
  congr 1
  omega

theorem evn_bits {bs : List Int} {s k : Nat} (hb : ∀ b ∈ bs, b = 0 ∨ b = 1) : ∀ b ∈ evn bs s k, b = 0 ∨ b = 1 := by
  intro b h
  obtain ⟨j, _, rfl⟩ := List.mem_map.1 h
  by_cases hj : s + 2 * j < bs.length
  · exact hb _ (elt_mem (by omega) (by omega))
  · left
    simp [elt]
    rw [List.getElem?_eq_none (by omega)]
    rfl

theorem Sl.sub {w : World} {b off s m : Nat} {k : IntKind} {l : List Int} (h : Sl w (some ⟨b, off, none⟩) (ints k l)) : Sl w (some ⟨b, off + s, none⟩) (ints k ((l.drop s).take m)) := by
  intro hp
  simp [ints] at hp
  obtain ⟨b', off', he, hb, hc⟩ := h (by simp [ints]; omega)
  obtain ⟨rfl, rfl⟩ : b' = b ∧ off' = off := by simpa [eq_comm] using he
  refine ⟨b', off' + s, rfl, hb, fun j u hu => ?_⟩
  rw [show off' + s + j = off' + (s + j) from by omega]
  refine hc _ _ ?_
  simp only [ints, List.getElem?_map, List.getElem?_take, List.getElem?_drop] at hu ⊢
  split at hu
  · exact hu
  · simp at hu

/-- what holds between two rounds -/
def MdI (g6 k : Nat) (bs : List Int) (pre : List Nat) (L : List SX.Ent) : Prop :=
  ∃ sv, L = [SX.Ent.row sv 32 2 pre.length (pcells (pre.map (mpt k bs))), SX.Ent.blk g6 25 #[sv]]

set_option maxRecDepth 100000 in
set_option maxHeartbeats 1000000 in
theorem modulate_ok (A : Option Addr) (n c k q : Nat) (bs : List Int) (w : World) (hr : Sl w A (ints .u8 bs)) (hl : bs.length = n) (hn : n = q * (2 * k)) (hk : 1 ≤ k) (hk3 : k ≤ 3) (hn6 : n ≤ 600) (hnc : n ≤ c) (hc : (c : Int) ≤ 9223372036854775807) (hb : ∀ b ∈ bs, b = 0 ∨ b = 1) :
    Calls Try.prog 11 #[.int .i64 ((2 * k : Nat) : Int), .slice A n c] w (SX.Ret fun v w' => ∃ sv, v = .tuple #[sv, .int .i64 0] ∧ SX.St w [] w' [SX.Ent.row sv 32 2 q (pcells ((List.range q).map (mpt k bs)))]) := by
  obtain ⟨i0, hi0, hzz0, hzz1, hzz2⟩ := info_parts info32
  have hv : vm ((2 * k : Nat) : Int) = true := by
    have : k = 1 ∨ k = 2 ∨ k = 3 := by omega
    rcases this with rfl | rfl | rfl <;> rfl
  have hany : bs.any (fun x => decide (1 < x)) = false := by
    rw [List.any_eq_false]
    intro x hx
    rcases hb x hx with rfl | rfl <;> simp
  have hmod : (((n : Int) % ((2 * k : Nat) : Int)) != 0) = false := by
    rw [hn]; simp
  have hmne : ¬ ((2 * k : Nat) : Int) = 0 := by omega
  generalize hm : 2 * k = m at *
  have hV := Lib.hid (valid_any (m : Int))
  rw [hv] at hV
  have HM := Lib.hid hm
  have HN := Lib.hid hn
  have HL := Lib.hid hl
  have HA := Lib.hid hany
  clear hm hn hl hany hv
  refine SX.enterM Try.func11 rfl ?_
  simp only [Try.ntmps11, List.size_toArray, List.length_cons, List.length_nil, Nat.reduceAdd, Nat.reduceSub, Array.replicate_succ, Array.replicate_zero, List.push_toArray, List.append_toArray, List.nil_append, List.cons_append]
  have hs := SX.St.start w
  have HC := Lib.hid (fun W (hW : SX.St w [] W []) => containsFunc8 A n c bs W (hr.st hW) HL.out (by omega) 27 #[] Try.call27 (fun x => decide (1 < x)) (fun x _ W _ => big_any x W))
  have HK := Lib.hid (fun W => chunk_any A n c (m : Int) (by have := HM.out; omega) W)
  gi_wp2_with (first
    | (refine SX.lsm rfl rfl ?_; first | (refine SX.load_blk rfl (by assumption) (by first | (simp; done) | fail) (by rfl) (by first | exact SX.at0 | exact SX.at1 | exact SX.at2 | exact SX.at3 | exact SX.at4 | exact SX.at5) (by rfl) ?_) | (refine SX.load_old rfl (by assumption) (by first | (simp; done) | fail) (by rfl) (by assumption) (by first | (simp; done) | fail) (by assumption) ?_) | (refine SX.store_blk rfl (by assumption) (by first | (simp; done) | fail) (by rfl) (by first | (go_simp; exact rfl) | fail) (by rfl) (by first | exact SX.at0 | exact SX.at1 | exact SX.at2 | exact SX.at3 | exact SX.at4 | exact SX.at5) (by first | (simp; done) | fail) ?_; intro w1 hs1; simp only [List.set_cons_zero, List.set_cons_succ, List.setIfInBounds_toArray] at hs1) | (refine SX.alc_ptr rfl (by assumption) (by first | (intro W; go_simp; exact rfl) | fail) ?_; intro g1 w1 hs1) | (refine SX.alc_slice rfl (by assumption) (by first | (intro W; go_simp; exact rfl) | fail) ?_; intro g1 w1 hs1))
    | (refine SX.lsc rfl rfl ?_
       first
         | (refine SX.wp_calls (fun _ => trivial) rfl rfl (by rfl) Try.call25 (by go_simp; rfl) ?_; refine (SX.call (hV.out _)).mono ?_; rintro e w1 ⟨v, rfl, rfl, hs1⟩; have hs2 := hs.call hs1; refine ⟨_, rfl, ?_⟩)
         | (refine SX.wp_calls (fun _ => trivial) rfl rfl (by rfl) Try.call26 (by go_simp; rfl) ?_; refine (SX.call (HC.out _ hs2)).mono ?_; rw [HA.out]; rintro e w2 ⟨v, rfl, rfl, hs3⟩; have hs4 := hs2.call hs3; refine ⟨_, rfl, ?_⟩)
         | (refine SX.wp_calls (fun _ => trivial) rfl rfl (by rfl) Try.call28 (by go_simp; rfl) ?_; refine (SX.call (HK.out _)).mono ?_; rintro e w3 ⟨v, rfl, ga, gb, rfl, hs5⟩; have hs6 := hs1.call hs5; refine ⟨_, rfl, ?_⟩)))
  simp only [Act.put, List.setIfInBounds_toArray, List.set_cons_succ, List.set_cons_zero]
  simp only [List.cons_append, List.nil_append, List.append_nil] at hs6
  have hs7 := (SX.St.rot (L1 := [_, _]) hs6).nil 32 2
  obtain ⟨b, off, hA⟩ : ∃ b off, 0 < n → A = some ⟨b, off, none⟩ := by
    by_cases h : 0 < n
    · obtain ⟨b, off, h1, _⟩ := hr.at (i := 0) (by omega) (by rw [HL.out]; omega)
      exact ⟨b, off, fun _ => h1⟩
    · exact ⟨0, 0, fun h' => absurd h' h⟩
  have hm1 : 1 ≤ m ∧ m ≤ 6 := by have := HM.out; omega
  refine SX.rangeFunc (chunk_seq A b off n c q ga gb m hm1.1 hm1.2 HN.out hA hnc hn6 hc) rfl Try.call42 (L0 := [_, _]) hs7 trivial (by rintro x args Lx ⟨-, rfl⟩; rfl) (MdI g1 k bs) (fun _ _ => False) ⟨_, rfl⟩ ?round ?done ?stop
  case round =>
    rintro l Z pre x args W L Lx ⟨sv, rfl⟩ hpre ⟨rfl, rfl⟩ hst
    obtain ⟨rfl, hxq⟩ := prefix_range hpre
    gi_wp2
    refine ⟨_, hst, fun W2 Z2 hs => ?_⟩
    simp only [List.cons_append, List.nil_append, List.length_range] at hs
    clear hst hs6 hs5 hs4 hs3 hs7 hs2 hs1 hV HC HK
    have hmk : m = 2 * k := HM.out.symm
    have hxm : (x + 1) * m ≤ n := by rw [HN.out]; exact Nat.mul_le_mul_right m hxq
    have hxm2 : (x + 1) * m = x * m + m := by rw [Nat.add_mul, Nat.one_mul]
    have hn0 : 0 < n := by omega
    obtain rfl := hA hn0
    have hch := hr.sub (s := x * m) (m := m)
    have hchl : ((bs.drop (x * m)).take m).length = m := by simp; rw [HL.out]; omega
    have e0 : evn ((bs.drop (x * m)).take m) 0 k = evn bs (x * (2 * k)) k := by rw [hmk]; exact evn_chunk (by omega)
    have e1 : evn ((bs.drop (x * m)).take m) 1 k = evn bs (x * (2 * k) + 1) k := by rw [hmk]; exact evn_chunk (by omega)
    have hp0 := fun W L (hW : SX.St w [] W L) => part_any _ m m _ 0 k W (hch.st hW) hchl hmk hk (by omega) (by omega)
    have hp1 := fun W L (hW : SX.St w [] W L) => part_any _ m m _ 1 k W (hch.st hW) hchl hmk hk (by omega) (by omega)
    rw [e0] at hp0
    rw [e1] at hp1
    have hd0 := lev_bd (evn bs (x * (2 * k)) k) (evn_bits hb)
    have hd1 := lev_bd (evn bs (x * (2 * k) + 1) k) (evn_bits hb)
    rw [evn_length] at hd0 hd1
    have h2k : (2 : Int) ^ k ≤ 8 := by
      have : k = 1 ∨ k = 2 ∨ k = 3 := by omega
      rcases this with rfl | rfl | rfl <;> decide
    have hl0 := fun A c W (hr : Sl W A (ints .u8 (evn bs (x * (2 * k)) k))) (hc : k ≤ c) => level_any (evn bs (x * (2 * k)) k) A c k W hr (evn_length _ _ _) hk3 hc (evn_bits hb)
    have hl1 := fun A c W (hr : Sl W A (ints .u8 (evn bs (x * (2 * k) + 1) k))) (hc : k ≤ c) => level_any (evn bs (x * (2 * k) + 1) k) A c k W hr (evn_length _ _ _) hk3 hc (evn_bits hb)
    have hpt : Hid (pcells ((List.range x ++ [x]).map (mpt k bs)) = pcells ((List.range x).map (mpt k bs)) ++ [.int .i64 (16 * lev (evn bs (x * (2 * k)) k)), .int .i64 (16 * lev (evn bs (x * (2 * k) + 1) k))]) := by
      rw [List.map_append, List.map_cons, List.map_nil, pcells_snoc]; exact Lib.hid rfl
    generalize hE0 : evn bs (x * (2 * k)) k = E0 at *
    generalize hE1 : evn bs (x * (2 * k) + 1) k = E1 at *
    generalize hI : lev E0 = vI at *
    generalize hQ : lev E1 = vQ at *
    have HP0 := Lib.hid hp0
    have HP1 := Lib.hid hp1
    have HL0 := Lib.hid hl0
    have HL1 := Lib.hid hl1
    obtain ⟨d1, d2⟩ := hd0
    obtain ⟨d3, d4⟩ := hd1
    have b1 : -8 < vI := by omega
    have b2 : vI < 8 := by omega
    have b3 : -8 < vQ := by omega
    have b4 : vQ < 8 := by omega
    have hx600 : x ≤ 600 := by
      have : x * 1 ≤ x * m := Nat.mul_le_mul_left x hm1.1
      omega
    clear hp0 hp1 hl0 hl1 hE0 hE1 hI hQ e0 e1 hchl hch hmk hxm2 d1 d2 d3 d4 h2k hA
    gi_wp2
    refine SX.region_begin (SX.Keep w [] [SX.Ent.blk g1 25 #[sv]]) (fun j => j != 12) mixed ?_
    have hsD := SX.St.drew hs
    generalize World.drew _ = wd at hsD ⊢
    refine SX.take 0 (fun _ => trivial) (by simp only [List.getElem?_toArray, List.getElem?_cons_succ, List.getElem?_cons_zero]; rfl) (by kernel_rfl) (by exact fun _ _ _ h => h) (by rfl) (by first | exact SX.y_load rfl (by first | (simp; done) | fail) rfl (fun _ hk => hk.blk (by first | exact SX.in0 | exact SX.in1 | exact SX.in2 | exact SX.in3 | exact SX.in4) (by rfl)) | exact SX.y_load rfl (by first | (simp; done) | fail) rfl (fun _ hk => hk.old (by assumption) (by first | (simp; done) | fail) (by assumption)) | exact SX.y_loadr rfl (by first | (simp; done) | fail) rfl (by first | exact SX.in0 | exact SX.in1 | exact SX.in2 | exact SX.in3 | exact SX.in4) (by first | assumption | rfl)) (by exact ⟨_, by assumption, by simp⟩) ?_
    simp only [Act.put, List.setIfInBounds_toArray, List.set_cons_succ, List.set_cons_zero]
    refine SX.take 1 (fun _ => trivial) (by simp only [List.getElem?_toArray, List.getElem?_cons_succ, List.getElem?_cons_zero]; rfl) (by kernel_rfl) (by exact fun _ _ _ h => h) (by rfl) (by intro w' _; go_simp; (try go_bits); rfl) (by exact ⟨_, by assumption, by simp⟩) ?_
    simp only [Act.put, List.setIfInBounds_toArray, List.set_cons_succ, List.set_cons_zero]
    refine SX.take 5 (fun _ => trivial) (by simp only [List.getElem?_toArray, List.getElem?_cons_succ, List.getElem?_cons_zero]; rfl) (by kernel_rfl) (by exact fun _ _ _ h => h) (by rfl) (by intro w' _; go_simp; (try go_bits); rfl) (by exact ⟨_, by assumption, by simp⟩) ?_
    simp only [Act.put, List.setIfInBounds_toArray, List.set_cons_succ, List.set_cons_zero]
    refine SX.next 2 (by simp only [List.getElem?_toArray, List.getElem?_cons_succ, List.getElem?_cons_zero]; rfl) (by kernel_rfl) (by rfl) ?_
    refine SX.wp_calls (fun _ => trivial) rfl rfl (by rfl) Try.call30 (by go_simp; rfl) ?_
    refine (SX.callR (HP0.out _ _ hsD)).mono ?_
    rintro e y1 ⟨v, rfl, ga, capa, rfl, hca, hcm, hy1⟩
    have hz1 := hsD.call hy1
    simp only [List.cons_append, List.nil_append] at hz1
    refine ⟨_, rfl, ?_⟩
    refine ⟨fun _ => ⟨_, by assumption, by simp⟩, ?_⟩
    simp only [Act.put, List.setIfInBounds_toArray, List.set_cons_succ, List.set_cons_zero]
    refine SX.next 3 (by simp only [List.getElem?_toArray, List.getElem?_cons_succ, List.getElem?_cons_zero]; rfl) (by kernel_rfl) (by rfl) ?_
    refine SX.wp_calls (fun _ => trivial) rfl rfl (by rfl) Try.call29 (by go_simp; rfl) ?_
    refine (SX.callR (HL0.out _ _ _ (row_sl hz1 SX.at0) hca)).mono ?_
    rintro e y2 ⟨v, rfl, rfl, hy2⟩
    have hz2 := hz1.call hy2
    simp only [List.cons_append, List.nil_append] at hz2
    refine ⟨_, rfl, ?_⟩
    refine ⟨fun _ => ⟨_, by assumption, by simp⟩, ?_⟩
    simp only [Act.put, List.setIfInBounds_toArray, List.set_cons_succ, List.set_cons_zero]
    refine SX.take 4 (fun _ => trivial) (by simp only [List.getElem?_toArray, List.getElem?_cons_succ, List.getElem?_cons_zero]; rfl) (by kernel_rfl) (by exact fun _ _ _ h => h) (by rfl) (by intro w' _; go_simp; (try go_bits); rfl) (by exact ⟨_, by assumption, by simp⟩) ?_
    simp only [Act.put, List.setIfInBounds_toArray, List.set_cons_succ, List.set_cons_zero]
    refine SX.next 6 (by simp only [List.getElem?_toArray, List.getElem?_cons_succ, List.getElem?_cons_zero]; rfl) (by kernel_rfl) (by rfl) ?_
    refine SX.wp_calls (fun _ => trivial) rfl rfl (by rfl) Try.call30 (by go_simp; rfl) ?_
    refine (SX.callR (HP1.out _ _ hz2)).mono ?_
    rintro e y3 ⟨v, rfl, gb, capb, rfl, hcb, hcn, hy3⟩
    have hz3 := hz2.call hy3
    simp only [List.cons_append, List.nil_append] at hz3
    refine ⟨_, rfl, ?_⟩
    refine ⟨fun _ => ⟨_, by assumption, by simp⟩, ?_⟩
    simp only [Act.put, List.setIfInBounds_toArray, List.set_cons_succ, List.set_cons_zero]
    refine SX.next 7 (by simp only [List.getElem?_toArray, List.getElem?_cons_succ, List.getElem?_cons_zero]; rfl) (by kernel_rfl) (by rfl) ?_
    refine SX.wp_calls (fun _ => trivial) rfl rfl (by rfl) Try.call29 (by go_simp; rfl) ?_
    refine (SX.callR (HL1.out _ _ _ (row_sl hz3 SX.at0) hcb)).mono ?_
    rintro e y4 ⟨v, rfl, rfl, hy4⟩
    have hz4 := hz3.call hy4
    simp only [List.cons_append, List.nil_append] at hz4
    refine ⟨_, rfl, ?_⟩
    refine ⟨fun _ => ⟨_, by assumption, by simp⟩, ?_⟩
    simp only [Act.put, List.setIfInBounds_toArray, List.set_cons_succ, List.set_cons_zero]
    refine SX.take 8 (fun _ => trivial) (by simp only [List.getElem?_toArray, List.getElem?_cons_succ, List.getElem?_cons_zero]; rfl) (by kernel_rfl) (by exact fun _ _ _ h => h) (by rfl) (by intro w' _; go_simp; (try go_bits); rfl) (by exact ⟨_, by assumption, by simp⟩) ?_
    simp only [Act.put, List.setIfInBounds_toArray, List.set_cons_succ, List.set_cons_zero]
    refine SX.take 9 (fun _ => trivial) (by simp only [List.getElem?_toArray, List.getElem?_cons_succ, List.getElem?_cons_zero]; rfl) (by kernel_rfl) (by exact fun _ _ _ h => h) (by rfl) (by intro w' _; go_simp; (try go_bits); rfl) (by exact ⟨_, by assumption, by simp⟩) ?_
    simp only [Act.put, List.setIfInBounds_toArray, List.set_cons_succ, List.set_cons_zero]
    refine SX.next 10 (by simp only [List.getElem?_toArray, List.getElem?_cons_succ, List.getElem?_cons_zero]; rfl) (by kernel_rfl) (by rfl) ?_
    refine SX.alc_slice rfl (by assumption) (by intro W; go_simp; exact rfl) ?_
    intro g5 y5 hz5
    refine ⟨fun _ => ⟨_, by assumption, by simp⟩, ?_⟩
    simp only [Act.put, List.setIfInBounds_toArray, List.set_cons_succ, List.set_cons_zero]
    refine SX.next 11 (by simp only [List.getElem?_toArray, List.getElem?_cons_succ, List.getElem?_cons_zero]; rfl) (by kernel_rfl) (by rfl) ?_
    refine SX.append_blk (j := 3) (j' := 0) rfl hz5 Try.underlying25 hi0 hzz0 hzz1 hzz2 rfl (by decide) (by rfl) (by rfl) (by rfl) (by rfl) (by rfl) (by simp [Value.oneCell']) (by decide) (by unfold maxLen; omega) (by omega) ?_
    intro g6 cap6 y6 hz6
    simp only [List.set_cons_succ, List.set_cons_zero, List.eraseIdx_cons_succ, List.eraseIdx_cons_zero] at hz6
    refine ⟨fun _ => ⟨_, by assumption, by simp⟩, ?_⟩
    simp only [Act.put, List.setIfInBounds_toArray, List.set_cons_succ, List.set_cons_zero]
    refine SX.next 12 (by simp only [List.getElem?_toArray, List.getElem?_cons_succ, List.getElem?_cons_zero]; rfl) (by kernel_rfl) (by rfl) ?_
    (refine SX.store_blk rfl (by assumption) (by first | (simp; done) | fail) (by rfl) (by first | (go_simp; exact rfl) | fail) (by rfl) (by first | exact SX.at0 | exact SX.at1 | exact SX.at2 | exact SX.at3 | exact SX.at4 | exact SX.at5) (by first | (simp; done) | fail) ?_; intro w1 hs1; simp only [List.set_cons_zero, List.set_cons_succ, List.setIfInBounds_toArray] at hs1)
    refine ⟨fun h => absurd h (by decide), ?_⟩
    simp only [Act.put, List.setIfInBounds_toArray, List.set_cons_succ, List.set_cons_zero]
    refine SX.done (by kernel_rfl) ?_
    gi_wp2
    refine ⟨_, ⟨.slice (some ⟨g6, 0, none⟩) (x + 1) cap6, rfl⟩, ?_⟩
    rw [hpt.out]
    simp only [List.length_append, List.length_range, List.length_cons, List.length_nil, List.cons_append, List.nil_append]
    exact hs1.tl.tl
  case done =>
    rintro D W L ⟨sv, rfl⟩ hst
    simp only [List.cons_append, List.nil_append, List.length_range] at hst
    gi_wp2_with (first | (refine SX.lsm rfl rfl ?_; first | (refine SX.load_blk rfl (by assumption) (by first | (simp; done) | fail) (by rfl) (by first | exact SX.at0 | exact SX.at1 | exact SX.at2 | exact SX.at3 | exact SX.at4 | exact SX.at5) (by rfl) ?_) | (refine SX.load_old rfl (by assumption) (by first | (simp; done) | fail) (by rfl) (by assumption) (by first | (simp; done) | fail) (by assumption) ?_) | (refine SX.store_blk rfl (by assumption) (by first | (simp; done) | fail) (by rfl) (by first | (go_simp; exact rfl) | fail) (by rfl) (by first | exact SX.at0 | exact SX.at1 | exact SX.at2 | exact SX.at3 | exact SX.at4 | exact SX.at5) (by first | (simp; done) | fail) ?_; intro w1 hs1; simp only [List.set_cons_zero, List.set_cons_succ, List.setIfInBounds_toArray] at hs1) | (refine SX.alc_ptr rfl (by assumption) (by first | (intro W; go_simp; exact rfl) | fail) ?_; intro g1 w1 hs1) | (refine SX.alc_slice rfl (by assumption) (by first | (intro W; go_simp; exact rfl) | fail) ?_; intro g1 w1 hs1)))
    refine SX.leave1 (L1 := [_, _]) hst rfl (v := .tuple #[sv, .int .i64 0]) (fun w => results_tmp2 (t := 4) (u := 5) rfl _ _ _) (fun w' h' => ⟨_, rfl, sv, rfl, ?_⟩)
    exact h'.sub (List.Sublist.cons_cons _ (List.nil_sublist _))
  case stop =>
    rintro D cc W L h
    exact h.elim

set_option maxRecDepth 100000 in
set_option maxHeartbeats 1000000 in
theorem modulate_arg (A : Option Addr) (n c : Nat) (m : Int) (w : World) (hb : vm m = false ∨ (m ≠ 0 ∧ (n : Int).tmod m ≠ 0)) (hn6 : n ≤ 600) :
    Calls Try.prog 11 #[.int .i64 m, .slice A n c] w (SX.Ret fun v w' => v = .tuple #[.slice none 0 0, .int .i64 2] ∧ SX.St w [] w' []) := by
  have hs := SX.St.start w
  by_cases hv : vm m = false
  · have hV := Lib.hid (valid_any m)
    rw [hv] at hV
    clear hb hv
    refine SX.enterM Try.func11 rfl ?_
    simp only [Try.ntmps11, List.size_toArray, List.length_cons, List.length_nil, Nat.reduceAdd, Nat.reduceSub, Array.replicate_succ, Array.replicate_zero, List.push_toArray, List.append_toArray, List.nil_append, List.cons_append]
    gi_wp2_with (first
      | (refine SX.lsm rfl rfl ?_; first | (refine SX.load_blk rfl (by assumption) (by first | (simp; done) | fail) (by rfl) (by first | exact SX.at0 | exact SX.at1 | exact SX.at2 | exact SX.at3 | exact SX.at4 | exact SX.at5) (by rfl) ?_) | (refine SX.load_old rfl (by assumption) (by first | (simp; done) | fail) (by rfl) (by assumption) (by first | (simp; done) | fail) (by assumption) ?_) | (refine SX.store_blk rfl (by assumption) (by first | (simp; done) | fail) (by rfl) (by first | (go_simp; exact rfl) | fail) (by rfl) (by first | exact SX.at0 | exact SX.at1 | exact SX.at2 | exact SX.at3 | exact SX.at4 | exact SX.at5) (by first | (simp; done) | fail) ?_; intro w1 hs1; simp only [List.set_cons_zero, List.set_cons_succ, List.setIfInBounds_toArray] at hs1) | (refine SX.alc_ptr rfl (by assumption) (by first | (intro W; go_simp; exact rfl) | fail) ?_; intro g1 w1 hs1) | (refine SX.alc_slice rfl (by assumption) (by first | (intro W; go_simp; exact rfl) | fail) ?_; intro g1 w1 hs1))
      | (refine SX.lsc rfl rfl ?_
         refine SX.wp_calls (fun _ => trivial) rfl rfl (by rfl) Try.call25 (by go_simp; rfl) ?_; refine (SX.call (hV.out _)).mono ?_; rintro e w1 ⟨v, rfl, rfl, hs1⟩; have hs2 := hs.call hs1; refine ⟨_, rfl, ?_⟩))
    exact SX.leave0 rfl (results_tmp2 rfl _ _ _) ⟨_, rfl, rfl, hs2⟩
  · have hv' : vm m = true := by simpa using hv
    have hm : m = 2 ∨ m = 4 ∨ m = 6 := by simp [vm] at hv'; omega
    have hmod : (((n : Int) % m) != 0) = true := by
      rcases hb with h | ⟨_, h⟩
      · exact absurd h hv
      · have : (n : Int).tmod m = (n : Int) % m := by
          rw [Int.tmod_eq_emod_of_nonneg (by omega)]
        rw [this] at h
        simpa using h
    have hm0 : ¬ m = 0 := by omega
    have hV := Lib.hid (valid_any m)
    rw [hv'] at hV
    have hm1 : 0 < m := by omega
    have hm2 : m ≤ 6 := by omega
    clear hb hv hv' hm
    refine SX.enterM Try.func11 rfl ?_
    simp only [Try.ntmps11, List.size_toArray, List.length_cons, List.length_nil, Nat.reduceAdd, Nat.reduceSub, Array.replicate_succ, Array.replicate_zero, List.push_toArray, List.append_toArray, List.nil_append, List.cons_append]
    gi_wp2_with (first
      | (refine SX.lsm rfl rfl ?_; first | (refine SX.load_blk rfl (by assumption) (by first | (simp; done) | fail) (by rfl) (by first | exact SX.at0 | exact SX.at1 | exact SX.at2 | exact SX.at3 | exact SX.at4 | exact SX.at5) (by rfl) ?_) | (refine SX.load_old rfl (by assumption) (by first | (simp; done) | fail) (by rfl) (by assumption) (by first | (simp; done) | fail) (by assumption) ?_) | (refine SX.store_blk rfl (by assumption) (by first | (simp; done) | fail) (by rfl) (by first | (go_simp; exact rfl) | fail) (by rfl) (by first | exact SX.at0 | exact SX.at1 | exact SX.at2 | exact SX.at3 | exact SX.at4 | exact SX.at5) (by first | (simp; done) | fail) ?_; intro w1 hs1; simp only [List.set_cons_zero, List.set_cons_succ, List.setIfInBounds_toArray] at hs1) | (refine SX.alc_ptr rfl (by assumption) (by first | (intro W; go_simp; exact rfl) | fail) ?_; intro g1 w1 hs1) | (refine SX.alc_slice rfl (by assumption) (by first | (intro W; go_simp; exact rfl) | fail) ?_; intro g1 w1 hs1))
      | (refine SX.lsc rfl rfl ?_
         refine SX.wp_calls (fun _ => trivial) rfl rfl (by rfl) Try.call25 (by go_simp; rfl) ?_; refine (SX.call (hV.out _)).mono ?_; rintro e w1 ⟨v, rfl, rfl, hs1⟩; have hs2 := hs.call hs1; refine ⟨_, rfl, ?_⟩))
    exact SX.leave0 rfl (results_tmp2 rfl _ _ _) ⟨_, rfl, rfl, hs2⟩

set_option maxRecDepth 100000 in
set_option maxHeartbeats 1000000 in
theorem modulate_bit (A : Option Addr) (n c k q : Nat) (bs : List Int) (w : World) (hr : Sl w A (ints .u8 bs)) (hl : bs.length = n) (hn : n = q * (2 * k)) (hk : 1 ≤ k) (hk3 : k ≤ 3) (hn6 : n ≤ 600) (hb : bs.any (fun x => decide (1 < x)) = true) :
    Calls Try.prog 11 #[.int .i64 ((2 * k : Nat) : Int), .slice A n c] w (SX.Ret fun v w' => v = .tuple #[.slice none 0 0, .int .i64 3] ∧ SX.St w [] w' []) := by
  have hs := SX.St.start w
  have hv : vm ((2 * k : Nat) : Int) = true := by
    have : k = 1 ∨ k = 2 ∨ k = 3 := by omega
    rcases this with rfl | rfl | rfl <;> rfl
  have hmod : (((n : Int) % ((2 * k : Nat) : Int)) != 0) = false := by
    rw [hn]; simp
  have hmne : ¬ ((2 * k : Nat) : Int) = 0 := by omega
  generalize hm : 2 * k = m at *
  have hV := Lib.hid (valid_any (m : Int))
  rw [hv] at hV
  have HC := Lib.hid (fun W (hW : SX.St w [] W []) => containsFunc8 A n c bs W (hr.st hW) hl (by omega) 27 #[] Try.call27 (fun x => decide (1 < x)) (fun x _ W _ => big_any x W))
  rw [hb] at HC
  clear hm hn hl hb hv
  refine SX.enterM Try.func11 rfl ?_
  simp only [Try.ntmps11, List.size_toArray, List.length_cons, List.length_nil, Nat.reduceAdd, Nat.reduceSub, Array.replicate_succ, Array.replicate_zero, List.push_toArray, List.append_toArray, List.nil_append, List.cons_append]
  gi_wp2_with (first
    | (refine SX.lsm rfl rfl ?_; first | (refine SX.load_blk rfl (by assumption) (by first | (simp; done) | fail) (by rfl) (by first | exact SX.at0 | exact SX.at1 | exact SX.at2 | exact SX.at3 | exact SX.at4 | exact SX.at5) (by rfl) ?_) | (refine SX.load_old rfl (by assumption) (by first | (simp; done) | fail) (by rfl) (by assumption) (by first | (simp; done) | fail) (by assumption) ?_) | (refine SX.store_blk rfl (by assumption) (by first | (simp; done) | fail) (by rfl) (by first | (go_simp; exact rfl) | fail) (by rfl) (by first | exact SX.at0 | exact SX.at1 | exact SX.at2 | exact SX.at3 | exact SX.at4 | exact SX.at5) (by first | (simp; done) | fail) ?_; intro w1 hs1; simp only [List.set_cons_zero, List.set_cons_succ, List.setIfInBounds_toArray] at hs1) | (refine SX.alc_ptr rfl (by assumption) (by first | (intro W; go_simp; exact rfl) | fail) ?_; intro g1 w1 hs1) | (refine SX.alc_slice rfl (by assumption) (by first | (intro W; go_simp; exact rfl) | fail) ?_; intro g1 w1 hs1))
    | (refine SX.lsc rfl rfl ?_
       first
         | (refine SX.wp_calls (fun _ => trivial) rfl rfl (by rfl) Try.call25 (by go_simp; rfl) ?_; refine (SX.call (hV.out _)).mono ?_; rintro e w1 ⟨v, rfl, rfl, hs1⟩; have hs2 := hs.call hs1; refine ⟨_, rfl, ?_⟩)
         | (refine SX.wp_calls (fun _ => trivial) rfl rfl (by rfl) Try.call26 (by go_simp; rfl) ?_; refine (SX.call (HC.out _ hs2)).mono ?_; rintro e w2 ⟨v, rfl, rfl, hs3⟩; have hs4 := hs2.call hs3; refine ⟨_, rfl, ?_⟩)))
  exact SX.leave0 rfl (results_tmp2 rfl _ _ _) ⟨_, rfl, rfl, hs4⟩
end Go.Proofs.Ythncbdoiilgnhaa
