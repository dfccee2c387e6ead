/- Part 4 of the proofs that lead to the statement. -/
import Derived.Test.YteabcdmgklhijaaY3
/- Control elements: rows' readers; identities. -/
namespace Go.Proofs.Yteabcdmgklhijaa
open Go.RowKit
set_option linter.unusedSimpArgs false
set_option linter.unusedVariables false
--newlaws

theorem _root_.Go.Proofs.Yteabcdmgklhijaa.SX.St.blkSl {w0 w : World} {M : List Nat} {L : List SX.Ent} {g T : Nat} {cs : Array Value} (hs : SX.St w0 M w L) (hm : SX.Ent.blk g T cs ∈ L) : Sl w (some ⟨g, 0, none⟩) cs.toList := fun hp => by
  have hr : w.heap[g]? = some (.cells cs T (0, 0)) := hs.ok _ hm
  refine ⟨g, 0, rfl, SX.lt_of_some hr, fun i u hu => ?_⟩
  rw [Nat.zero_add]
  exact (SX.cell_blk hr i).trans (by simpa using hu)
theorem rd_report {W : World} {cs : List Value} (z : Rd Try.prog W 28 cs) : ∃ r : RepV, cs = r.cells := by
  obtain ⟨hl, hf⟩ := Rd.field Try.underlying28 z
  have c6 : Try.prog.cellsOf 28 = 6 := by kernel_rfl
  have c1 : Try.prog.cellsOf 3 = 1 := by kernel_rfl
  have c4 : Try.prog.cellsOf 26 = 4 := by kernel_rfl
  have cb : Try.prog.cellsOf 4 = 1 := by kernel_rfl
  rw [c6] at hl
  obtain ⟨x0, x1, x2, x3, x4, x5, rfl⟩ := list6 hl
  obtain ⟨b, hb⟩ := Rd.bool Try.underlying4 (hf 0 _ rfl)
  obtain ⟨g, hg, wg⟩ := Rd.int Try.underlying3 (hf 1 _ rfl)
  obtain ⟨hl4, ha⟩ := Rd.array Try.underlying26 (hf 2 _ rfl)
  obtain ⟨a, ha0, wa⟩ := Rd.int Try.underlying3 (ha 0 (by omega))
  obtain ⟨b1, hb1, wb⟩ := Rd.int Try.underlying3 (ha 1 (by omega))
  obtain ⟨c, hc1, wc⟩ := Rd.int Try.underlying3 (ha 2 (by omega))
  obtain ⟨d, hd1, wd⟩ := Rd.int Try.underlying3 (ha 3 (by omega))
  simp [c1, c4, cb] at hb hg ha0 hb1 hc1 hd1
  subst hb hg ha0 hb1 hc1 hd1
  exact ⟨⟨b, g, a, b1, c, d⟩, rfl⟩
theorem controlReports_rd (cs0 : Array Value) (w : World) (z0 : Rd Try.prog w 28 (Value.agg cs0).cells.toList) :
    Calls Try.prog 4 #[.agg cs0] w fun e w' => e = .returned (.bool true) ∧ Below w.heap.size w w' := by
  obtain ⟨r, hr⟩ := rd_report z0
  have e : cs0 = r.cells.toArray := by rw [← hr]; simp [Value.cells]
  rw [e]
  refine (controlReports_walk r w).mono ?_
  rintro e w' ⟨v, rfl, rfl, h⟩
  exact ⟨rfl, h.below⟩

set_option maxRecDepth 100000 in
/-- the document's identity -/
theorem rencid_bad (lc : Int) (id : Nat) (w : World) (hid : id < 18446744073709551616) (hh : ¬ (isId lc ∧ id / 2 ^ (8 * wid lc).toNat = 0)) :
    Calls Try.prog 20 #[.int .i64 lc, .int .u64 (id : Int)] w (SX.Ret fun v w' => v = .tuple #[.agg #[.int .i64 0, .slice none 0 0], .int .i64 2] ∧ SX.St w [] w' []) := by
  have hs := SX.St.start w
  by_cases h28 : lc = 28
  · subst h28
    have h1 : ¬ id / 2 ^ 48 = 0 := fun e => hh ⟨.inr rfl, e⟩
    have h2 : (id : Int).fdiv (2 ^ (min (8 * 6 : Int).toNat IntKind.u64.bits)) = ((id / 2 ^ 48 : Nat) : Int) := by
      rw [Z.shrl (c := 281474976710656) (by decide)]
      rfl
    refine Z.enter Try.func20 rfl Try.ntmps20 rfl rfl ?_
    refine Z.seq ?_
    refine Z.region ?_
    refine Z.le rfl trivial ?_
    refine Z.ZO.alloc rfl rfl (by rfl) Try.zeroValue31 rfl hs ?_
    clear hs; intro g4 w4 hs
    refine Z.lb 1 rfl ?_
    refine Z.lnil ?_
    refine Z.only [0, 1, 4] rfl ?_
    refine Z.nthen ?_
    refine Z.seq ?_
    refine Z.region ?_
    refine Z.lb 1 rfl ?_
    refine Z.lnil ?_
    refine Z.only [0, 1, 4, 6] rfl ?_
    refine Z.nthen ?_
    refine Z.seq ?_
    refine Z.seq ?_
    refine Z.region ?_
    refine Z.lb 2 rfl ?_
    refine Z.lnil ?_
    refine Z.only [0, 1, 4, 6, 10] rfl ?_
    refine Z.nthen ?_
    refine Z.cond rfl (fun hc2 => ?_) (fun h => absurd h (by simp))
    refine Z.region ?_
    refine Z.lb 1 rfl ?_
    refine Z.lnil ?_
    refine Z.only [0, 1, 4, 6] rfl ?_
    refine Z.nthen ?_
    refine Z.seq ?_
    refine Z.seq ?_
    refine Z.region ?_
    refine Z.lb 9 rfl ?_
    refine Z.l rfl rfl (by rfl) (Z.keepS hs) (Z.Yd.mul rfl rfl (fun hG => Z.wi64 (by first | omega | (have hG' := Z.gh rfl hG; simp at hG'; omega)))) ?_
    refine Z.l rfl rfl (by rfl) (Z.keepS hs) (Z.Yd.shr rfl rfl (by intro hG; decide) (fun _ => h2)) ?_
    refine Z.lb 2 rfl ?_
    refine Z.lnil ?_
    refine Z.only [0, 1, 4, 6, 23] rfl ?_
    refine Z.nthen ?_
    refine Z.cond rfl (fun hc4 => ?_) (fun h => absurd h (by simp; omega))
    refine Z.seq ?_
    refine Z.region ?_
    refine Z.l rfl rfl (by rfl) (Z.keepS hs) (Z.Yd.buildL [(0, 1), (1, 1)] [.int .i64 0, .slice none 0 0] rfl rfl (by intro w; kernel_rfl)) ?_
    refine Z.le rfl trivial ?_
    refine Z.ZO.storeA rfl rfl hs rfl rfl (by kernel_rfl) (by simp [Value.oneCell']) (by first | exact SX.at0 | exact SX.at1 | exact SX.at2 | exact SX.at3 | exact SX.at4 | exact SX.at5 | exact Z.at6 | exact Z.at7 | exact Z.at8 | exact Z.at9 | exact Z.at10 | exact Z.at11 | exact Z.at12) (by rfl) ?_
    clear hs; intro ws hs
    simp only [Nat.zero_add, Nat.add_zero, Nat.reduceAdd, Int.reduceToNat, Nat.reduceMul, List.set_cons_zero, List.set_cons_succ, List.setIfInBounds_toArray] at hs
    refine Z.lb 1 rfl ?_
    refine Z.lnil ?_
    refine Z.only [4, 5] rfl ?_
    refine Z.nthen ?_
    refine Z.ret ?_
    repeat (first | refine Z.rthen ?_ | refine Z.rblock ?_ | refine Z.rscope ?_)
    -- ret#0
    refine Z.out2 (by exact ⟨⟨_, rfl, Z.rvcA hs Try.isAgg31 (by first | ((repeat (first | exact List.mem_cons_self | refine List.mem_cons_of_mem _ ?_ | refine List.mem_append_right _ ?_)); done) | fail) (by exact Try.sizeOf31)⟩, rfl, trivial⟩) ?_
    exact ⟨_, rfl, rfl, hs.sub (List.nil_sublist _)⟩
  · by_cases h27 : lc = 27
    · subst h27
      have h1 : ¬ id / 2 ^ 16 = 0 := fun e => hh ⟨.inl rfl, e⟩
      have h2 : (id : Int).fdiv (2 ^ (min (8 * 2 : Int).toNat IntKind.u64.bits)) = ((id / 2 ^ 16 : Nat) : Int) := by
        rw [Z.shrl (c := 65536) (by decide)]
        rfl
      refine Z.enter Try.func20 rfl Try.ntmps20 rfl rfl ?_
      refine Z.seq ?_
      refine Z.region ?_
      refine Z.le rfl trivial ?_
      refine Z.ZO.alloc rfl rfl (by rfl) Try.zeroValue31 rfl hs ?_
      clear hs; intro g4 w4 hs
      refine Z.lb 1 rfl ?_
      refine Z.lnil ?_
      refine Z.only [0, 1, 4] rfl ?_
      refine Z.nthen ?_
      refine Z.seq ?_
      refine Z.region ?_
      refine Z.lb 1 rfl ?_
      refine Z.lnil ?_
      refine Z.only [0, 1, 4, 6] rfl ?_
      refine Z.nthen ?_
      refine Z.seq ?_
      refine Z.seq ?_
      refine Z.region ?_
      refine Z.lb 2 rfl ?_
      refine Z.lnil ?_
      refine Z.only [0, 1, 4, 6, 10] rfl ?_
      refine Z.nthen ?_
      refine Z.cond rfl (fun h => absurd h (by simp)) (fun hc2 => ?_)
      refine Z.skip ?_
      refine Z.nthen ?_
      refine Z.seq ?_
      refine Z.seq ?_
      refine Z.region ?_
      refine Z.lb 9 rfl ?_
      refine Z.l rfl rfl (by rfl) (Z.keepS hs) (Z.Yd.mul rfl rfl (fun hG => Z.wi64 (by first | omega | (have hG' := Z.gh rfl hG; simp at hG'; omega)))) ?_
      refine Z.l rfl rfl (by rfl) (Z.keepS hs) (Z.Yd.shr rfl rfl (by intro hG; decide) (fun _ => h2)) ?_
      refine Z.lb 2 rfl ?_
      refine Z.lnil ?_
      refine Z.only [0, 1, 4, 6, 23] rfl ?_
      refine Z.nthen ?_
      refine Z.cond rfl (fun hc4 => ?_) (fun h => absurd h (by simp; omega))
      refine Z.seq ?_
      refine Z.region ?_
      refine Z.l rfl rfl (by rfl) (Z.keepS hs) (Z.Yd.buildL [(0, 1), (1, 1)] [.int .i64 0, .slice none 0 0] rfl rfl (by intro w; kernel_rfl)) ?_
      refine Z.le rfl trivial ?_
      refine Z.ZO.storeA rfl rfl hs rfl rfl (by kernel_rfl) (by simp [Value.oneCell']) (by first | exact SX.at0 | exact SX.at1 | exact SX.at2 | exact SX.at3 | exact SX.at4 | exact SX.at5 | exact Z.at6 | exact Z.at7 | exact Z.at8 | exact Z.at9 | exact Z.at10 | exact Z.at11 | exact Z.at12) (by rfl) ?_
      clear hs; intro ws hs
      simp only [Nat.zero_add, Nat.add_zero, Nat.reduceAdd, Int.reduceToNat, Nat.reduceMul, List.set_cons_zero, List.set_cons_succ, List.setIfInBounds_toArray] at hs
      refine Z.lb 1 rfl ?_
      refine Z.lnil ?_
      refine Z.only [4, 5] rfl ?_
      refine Z.nthen ?_
      refine Z.ret ?_
      repeat (first | refine Z.rthen ?_ | refine Z.rblock ?_ | refine Z.rscope ?_)
      -- ret#0
      refine Z.out2 (by exact ⟨⟨_, rfl, Z.rvcA hs Try.isAgg31 (by first | ((repeat (first | exact List.mem_cons_self | refine List.mem_cons_of_mem _ ?_ | refine List.mem_append_right _ ?_)); done) | fail) (by exact Try.sizeOf31)⟩, rfl, trivial⟩) ?_
      exact ⟨_, rfl, rfl, hs.sub (List.nil_sublist _)⟩
    · skip
      refine Z.enter Try.func20 rfl Try.ntmps20 rfl rfl ?_
      refine Z.seq ?_
      refine Z.region ?_
      refine Z.le rfl trivial ?_
      refine Z.ZO.alloc rfl rfl (by rfl) Try.zeroValue31 rfl hs ?_
      clear hs; intro g4 w4 hs
      refine Z.lb 1 rfl ?_
      refine Z.lnil ?_
      refine Z.only [0, 1, 4] rfl ?_
      refine Z.nthen ?_
      refine Z.seq ?_
      refine Z.region ?_
      refine Z.lb 1 rfl ?_
      refine Z.lnil ?_
      refine Z.only [0, 1, 4, 6] rfl ?_
      refine Z.nthen ?_
      refine Z.seq ?_
      refine Z.seq ?_
      refine Z.region ?_
      refine Z.lb 2 rfl ?_
      refine Z.lnil ?_
      refine Z.only [0, 1, 4, 6, 10] rfl ?_
      refine Z.nthen ?_
      refine Z.cond rfl (fun h => absurd h (by simpa using h28)) (fun hc2 => ?_)
      refine Z.skip ?_
      refine Z.nthen ?_
      refine Z.seq ?_
      refine Z.seq ?_
      refine Z.region ?_
      refine Z.lb 9 rfl ?_
      refine Z.l rfl rfl (by rfl) (Z.keepS hs) (Z.Yd.mul rfl rfl (fun hG => Z.wi64 (by first | omega | (have hG' := Z.gh rfl hG; simp at hG'; omega)))) ?_
      refine Z.l rfl rfl (by rfl) (Z.keepS hs) (Z.Yd.shr rfl rfl (by intro hG; decide) (fun _ => rfl)) ?_
      refine Z.lb 2 rfl ?_
      refine Z.lnil ?_
      refine Z.only [0, 1, 4, 6, 23] rfl ?_
      refine Z.nthen ?_
      refine Z.cond rfl (fun hc4 => ?_) (fun h => absurd h (by simp [h27, h28]))
      refine Z.seq ?_
      refine Z.region ?_
      refine Z.l rfl rfl (by rfl) (Z.keepS hs) (Z.Yd.buildL [(0, 1), (1, 1)] [.int .i64 0, .slice none 0 0] rfl rfl (by intro w; kernel_rfl)) ?_
      refine Z.le rfl trivial ?_
      refine Z.ZO.storeA rfl rfl hs rfl rfl (by kernel_rfl) (by simp [Value.oneCell']) (by first | exact SX.at0 | exact SX.at1 | exact SX.at2 | exact SX.at3 | exact SX.at4 | exact SX.at5 | exact Z.at6 | exact Z.at7 | exact Z.at8 | exact Z.at9 | exact Z.at10 | exact Z.at11 | exact Z.at12) (by rfl) ?_
      clear hs; intro ws hs
      simp only [Nat.zero_add, Nat.add_zero, Nat.reduceAdd, Int.reduceToNat, Nat.reduceMul, List.set_cons_zero, List.set_cons_succ, List.setIfInBounds_toArray] at hs
      refine Z.lb 1 rfl ?_
      refine Z.lnil ?_
      refine Z.only [4, 5] rfl ?_
      refine Z.nthen ?_
      refine Z.ret ?_
      repeat (first | refine Z.rthen ?_ | refine Z.rblock ?_ | refine Z.rscope ?_)
      -- ret#0
      refine Z.out2 (by exact ⟨⟨_, rfl, Z.rvcA hs Try.isAgg31 (by first | ((repeat (first | exact List.mem_cons_self | refine List.mem_cons_of_mem _ ?_ | refine List.mem_append_right _ ?_)); done) | fail) (by exact Try.sizeOf31)⟩, rfl, trivial⟩) ?_
      exact ⟨_, rfl, rfl, hs.sub (List.nil_sublist _)⟩

/-- an element of LCID lc with data l, of any capacity -/
def IsPt (lc : Int) (l : List Int) (v : Value) (w w' : World) : Prop := ∃ B c co, v = .agg #[.int .i64 lc, .slice B l.length c] ∧ SX.St w [] w' [SX.Ent.row (.slice B l.length co) 5 1 l.length (ints .u8 l)]
theorem be_get : ∀ (n k : Nat) (v : Nat), k < n → (be n (v : Int))[k]? = some (((v / 2 ^ (8 * (n - 1 - k)) % 256 : Nat)) : Int)
  | 0, k, v, h => by omega
  | n + 1, k, v, h => by
    rw [be]
    by_cases hk : k < n
    · rw [List.getElem?_append_left (by simpa using hk), show ((v : Int) / 256) = ((v / 256 : Nat) : Int) from rfl, be_get n k (v / 256) hk]
      rw [Nat.div_div_eq_div_mul, show 256 * 2 ^ (8 * (n - 1 - k)) = 2 ^ (8 * (n + 1 - 1 - k)) from by rw [show (256 : Nat) = 2 ^ 8 from rfl, ← Nat.pow_add]; congr 1; omega]
    · obtain rfl : k = n := by omega
      rw [List.getElem?_append_right (by simp)]
      simp
theorem wu8m {n : Int} : IntKind.u8.wrap n = n % 256 := by simp [IntKind.wrap, IntKind.signed, IntKind.bits]
set_option maxRecDepth 100000 in
theorem rencid_go (lc : Int) (n : Nat) (id : Nat) (w : World) (hid : id < 18446744073709551616) (hl : (lc = 27 ∧ n = 2) ∨ (lc = 28 ∧ n = 6)) (hh : id / 2 ^ (8 * n) = 0) :
    Calls Try.prog 20 #[.int .i64 lc, .int .u64 (id : Int)] w (SX.Ret fun v w' => ∃ u, v = .tuple #[u, .int .i64 0] ∧ IsPt lc (be n (id : Int)) u w w') := by
  have hs := SX.St.start w
  have h2 : (id : Int).fdiv (2 ^ (min (8 * (n : Int)).toNat IntKind.u64.bits)) = 0 := by
    rw [Int.fdiv_eq_ediv_of_nonneg _ (Int.le_of_lt (Int.pow_pos (by decide)))]
    rw [show min (8 * (n : Int)).toNat IntKind.u64.bits = 8 * n from by have : IntKind.u64.bits = 64 := rfl; omega]
    have : ((2 : Int) ^ (8 * n)) = ((2 ^ (8 * n) : Nat) : Int) := by rw [Int.natCast_pow]; rfl
    rw [this, ← Int.natCast_ediv, hh]
    rfl
  have hsh : ∀ i : Nat, i < n → (id : Int).fdiv (2 ^ (min (8 * (i : Int)).toNat IntKind.u64.bits)) = ((id / 2 ^ (8 * i) : Nat) : Int) := fun i hi => by
    rw [Int.fdiv_eq_ediv_of_nonneg _ (Int.le_of_lt (Int.pow_pos (by decide)))]
    rw [show min (8 * (i : Int)).toNat IntKind.u64.bits = 8 * i from by have : IntKind.u64.bits = 64 := rfl; omega]
    have : ((2 : Int) ^ (8 * i)) = ((2 ^ (8 * i) : Nat) : Int) := by rw [Int.natCast_pow]; rfl
    rw [this, ← Int.natCast_ediv]
  refine Z.enter Try.func20 rfl Try.ntmps20 rfl rfl ?_
  refine Z.seq ?_
  refine Z.region ?_
  refine Z.le rfl trivial ?_
  refine Z.ZO.alloc rfl rfl (by rfl) Try.zeroValue31 rfl hs ?_
  clear hs; intro g4 w4 hs
  refine Z.lb 1 rfl ?_
  refine Z.lnil ?_
  refine Z.only [0, 1, 4] rfl ?_
  refine Z.nthen ?_
  refine Z.seq ?_
  refine Z.region ?_
  refine Z.lb 1 rfl ?_
  refine Z.lnil ?_
  refine Z.only [0, 1, 4, 6] rfl ?_
  refine Z.nthen ?_
  refine Z.seq ?_
  refine Z.seq ?_
  refine Z.region ?_
  refine Z.lb 2 rfl ?_
  refine Z.lnil ?_
  refine Z.only [0, 1, 4, 6, 10] rfl ?_
  refine Z.nthen ?_
  refine Z.cutt (ι := Nat) [0, 1, 4] rfl (fun _ => [(6, [], .int .i64 (n : Int))]) (fun _ wr => SX.St w [] wr [SX.Ent.blk g4 31 #[.int .i64 0, .slice none 0 0]]) ?_ ?_
  · skip
    refine Z.cond rfl (fun hc2 => ?_) (fun hc2 => ?_)
    · first
        | (exfalso; simp at hc2 <;> omega)
        | (
          (try simp at hc2)
          refine Z.region ?_
          refine Z.lb 1 rfl ?_
          refine Z.lnil ?_
          refine Z.only [0, 1, 4, 6] rfl ?_
          refine Z.nthen ?_
          exact Z.meet 0 (by refine ⟨?_, ?_, ?_, ?_, trivial⟩ <;> (first | rfl | (refine Z.lookv rfl ?_; simp; done) | (refine Z.lookv rfl ?_; simp; omega))) hs
          )
    · first
        | (exfalso; simp at hc2 <;> omega)
        | (
          (try simp at hc2)
          refine Z.skip ?_
          refine Z.nthen ?_
          exact Z.meet 0 (by refine ⟨?_, ?_, ?_, ?_, trivial⟩ <;> (first | rfl | (refine Z.lookv rfl ?_; simp; done) | (refine Z.lookv rfl ?_; simp; omega))) hs
          )
  · clear hs
    rintro _ w1 hs
    refine Z.only [0, 1, 4, 6] rfl ?_
    refine Z.seq ?_
    refine Z.seq ?_
    refine Z.region ?_
    refine Z.lb 9 rfl ?_
    refine Z.l rfl rfl (by rfl) (Z.keepS hs) (Z.Yd.mul rfl rfl (fun hG => Z.wi64 (by first | omega | (have hG' := Z.gh rfl hG; simp at hG'; omega)))) ?_
    refine Z.l rfl rfl (by rfl) (Z.keepS hs) (Z.Yd.shr rfl rfl (by intro hG; omega) (fun _ => h2)) ?_
    refine Z.lb 2 rfl ?_
    refine Z.lnil ?_
    refine Z.only [0, 1, 4, 6, 23] rfl ?_
    refine Z.nthen ?_
    refine Z.cond rfl (fun h => absurd h (by simp; omega)) (fun hc4 => ?_)
    refine Z.skip ?_
    refine Z.nthen ?_
    refine Z.seq ?_
    refine Z.region ?_
    refine Z.lb 1 rfl ?_
    refine Z.l rfl rfl (by rfl) (Z.keepS hs) (Z.Yd.buildL [(0, 1), (1, 1)] [.int .i64 0, .slice none 0 0] rfl rfl (by intro w; kernel_rfl)) ?_
    refine Z.le rfl trivial ?_
    refine Z.ZO.alloc rfl rfl (by rfl) Try.zeroValue31 rfl hs ?_
    clear hs; intro g7 w7 hs
    refine Z.le rfl trivial ?_
    refine Z.ZO.storeA rfl rfl hs rfl rfl (by kernel_rfl) (by simp [Value.oneCell']) (by first | exact SX.at0 | exact SX.at1 | exact SX.at2 | exact SX.at3 | exact SX.at4 | exact SX.at5 | exact Z.at6 | exact Z.at7 | exact Z.at8 | exact Z.at9 | exact Z.at10 | exact Z.at11 | exact Z.at12) (by rfl) ?_
    clear hs; intro ws hs
    simp only [Nat.zero_add, Nat.add_zero, Nat.reduceAdd, Int.reduceToNat, Nat.reduceMul, List.set_cons_zero, List.set_cons_succ, List.setIfInBounds_toArray] at hs
    refine Z.lnil ?_
    refine Z.only [1, 4, 6, 7] rfl ?_
    refine Z.nthen ?_
    refine Z.seq ?_
    refine Z.seq ?_
    refine Z.region ?_
    refine Z.lb 1 rfl ?_
    refine Z.l rfl rfl (by rfl) (Z.keepS hs) (Z.Yd.sub rfl rfl (fun hG => Z.wi64 (by first | omega | (have hG' := Z.gh rfl hG; simp at hG'; omega)))) ?_
    refine Z.lb 1 rfl ?_
    refine Z.lnil ?_
    refine Z.only [1, 4, 7, 8] rfl ?_
    replace hs := hs.nil 5 1
    refine Z.nthen ?_
    refine Z.block ?_
    refine Z.loopk (ι := Nat × Value) [1, 4, 7] rfl (fun j => [(8, [], .int .i64 ((n : Int) - 1 - (j.1 : Int)))]) (fun j wr => j.1 ≤ n ∧ SX.St w [] wr [SX.Ent.row j.2 5 1 j.1 (ints .u8 ((be n (id : Int)).take j.1)), SX.Ent.blk g7 31 #[.int .i64 lc, j.2], SX.Ent.blk g4 31 #[.int .i64 0, .slice none 0 0]]) (fun j => n - j.1) (0, .slice none 0 0) (by refine ⟨?_, trivial⟩ <;> (first | rfl | (refine Z.lookv rfl ?_; simp; done) | (refine Z.lookv rfl ?_; simp; omega))) ⟨by simp, by simpa [ints] using hs⟩ ?_
    clear hs
    rintro ⟨j, sv⟩ w2 ⟨hj, hs⟩
    refine Z.only [1, 4, 7, 8] rfl ?_
    (try dsimp only at hs)
    dsimp only at hj
    refine Z.seq ?_
    refine Z.seq ?_
    refine Z.region ?_
    refine Z.lb 2 rfl ?_
    refine Z.lnil ?_
    refine Z.only [1, 4, 7, 8, 30] rfl ?_
    refine Z.nthen ?_
    refine Z.cond rfl (fun hc8 => ?_) (fun hc8 => ?_)
    · first
        | (exfalso; simp at hc8 <;> omega)
        | (
          (try simp at hc8)
          have hb := be_get n j id (by omega)
          have hs5 := hsh (n - 1 - j) (by omega)
          rw [show ((n - 1 - j : Nat) : Int) = (n : Int) - 1 - (j : Int) from by omega] at hs5
          obtain ⟨Aj, cj, rfl, -, -, -⟩ := SX.row_slv hs (j := 0) rfl
          refine Z.skip ?_
          refine Z.nthen ?_
          refine Z.seq ?_
          refine Z.block ?_
          refine Z.drawL [SX.Ent.blk g7 31 #[.int .i64 lc, .slice Aj j cj]] (fun j => j != 10) mixed hs ?_
          clear hs; intro wd10 hs
          refine Z.t 0 rfl rfl rfl (by rfl) (by kernel_rfl) ⟨_, hs, by first | (simp; done) | exact fun e he => List.mem_append_right _ he⟩ (Z.Yd.fieldA (m := 1) rfl (by kernel_rfl)) ?_
          refine Z.t 1 rfl rfl rfl (by rfl) (by kernel_rfl) ⟨_, hs, by first | (simp; done) | exact fun e he => List.mem_append_right _ he⟩ (by first | exact Z.Yd.load rfl Try.isAgg29 (fun _ => Z.cellB (by first | ((repeat (first | exact List.mem_cons_self | refine List.mem_cons_of_mem _ ?_ | refine List.mem_append_right _ ?_)); done) | fail) rfl) | exact Z.Yd.load rfl Try.isAgg29 (fun _ => Z.cellO (by assumption) (by simp) (by assumption)) | fail "load 10.1") ?_
          refine Z.tb [2, 3] (by kernel_rfl) rfl ⟨_, hs, by first | (simp; done) | exact fun e he => List.mem_append_right _ he⟩ rfl ?_
          refine Z.t 4 rfl rfl rfl (by rfl) (by kernel_rfl) ⟨_, hs, by first | (simp; done) | exact fun e he => List.mem_append_right _ he⟩ (Z.Yd.mul rfl rfl (fun hG => Z.wi64 (by first | omega | (have hG' := Z.gh rfl hG; simp at hG'; omega)))) ?_
          refine Z.t 5 rfl rfl rfl (by rfl) (by kernel_rfl) ⟨_, hs, by first | (simp; done) | exact fun e he => List.mem_append_right _ he⟩ (Z.Yd.shr rfl rfl (by intro hG; omega) (fun _ => hs5)) ?_
          refine Z.t 6 rfl rfl rfl (by rfl) (by kernel_rfl) ⟨_, hs, by first | (simp; done) | exact fun e he => List.mem_append_right _ he⟩ (Z.Yd.convI rfl ⟨_, Try.underlying40⟩ Try.underlying5 (fun _ => wu8m)) ?_
          refine Z.tn 7 rfl rfl (by kernel_rfl) rfl trivial ?_
          refine Z.ZO.litL (T' := 5) [(0, 1)] [.int .u8 0] rfl rfl (by rfl) rfl rfl (by intro W; kernel_rfl) hs ?_
          clear hs; intro g40 w40 hs
          refine Z.tk (Dn := fun j => j != 10) (i := 7) (fun _ => ⟨_, hs, by first | (simp; done) | exact fun e he => List.mem_append_right _ he⟩) ?_
          refine Z.tn 8 rfl rfl (by kernel_rfl) rfl trivial ?_
          refine Z.ZO.append (i0 := Try.t5) (size := 1) (bytes := 1) rfl rfl (by rfl) hs Try.underlying29 (by kernel_rfl) rfl rfl rfl rfl (by decide) rfl rfl (by first | exact SX.at0 | exact SX.at1 | exact SX.at2 | exact SX.at3 | exact SX.at4 | exact SX.at5 | exact Z.at6 | exact Z.at7 | exact Z.at8 | exact Z.at9 | exact Z.at10 | exact Z.at11 | exact Z.at12) (by first | exact SX.at0 | exact SX.at1 | exact SX.at2 | exact SX.at3 | exact SX.at4 | exact SX.at5 | exact Z.at6 | exact Z.at7 | exact Z.at8 | exact Z.at9 | exact Z.at10 | exact Z.at11 | exact Z.at12) (by first | rfl | simp) (by simp [Value.oneCell']) (by decide) (by unfold maxLen; omega) (by omega) ?_
          clear hs; intro g41 cap41 w41 hs
          simp only [List.set_cons_zero, List.set_cons_succ, List.eraseIdx_cons_zero, List.eraseIdx_cons_succ] at hs
          refine Z.tk (Dn := fun j => j != 10) (i := 8) (fun _ => ⟨_, hs, by first | (simp; done) | exact fun e he => List.mem_append_right _ he⟩) ?_
          refine Z.t 9 rfl rfl rfl (by rfl) (by kernel_rfl) ⟨_, hs, by first | (simp; done) | exact fun e he => List.mem_append_right _ he⟩ (Z.Yd.fieldA (m := 1) rfl (by kernel_rfl)) ?_
          refine Z.tn 10 rfl rfl (by kernel_rfl) rfl trivial ?_
          first | refine Z.ZO.store rfl rfl hs Try.sizeOf29 rfl rfl rfl (by first | exact SX.at0 | exact SX.at1 | exact SX.at2 | exact SX.at3 | exact SX.at4 | exact SX.at5 | exact Z.at6 | exact Z.at7 | exact Z.at8 | exact Z.at9 | exact Z.at10 | exact Z.at11 | exact Z.at12) (by first | (simp; done) | (simp; omega)) ?_ | refine Z.ZO.storeR rfl rfl hs Try.sizeOf29 rfl rfl rfl (by first | exact SX.at0 | exact SX.at1 | exact SX.at2 | exact SX.at3 | exact SX.at4 | exact SX.at5 | exact Z.at6 | exact Z.at7 | exact Z.at8 | exact Z.at9 | exact Z.at10 | exact Z.at11 | exact Z.at12) (by first | omega | (simp [ints_length]; done) | (simp [ints_length]; omega)) ?_
          clear hs; intro ws hs
          simp only [Nat.zero_add, Nat.add_zero, Nat.reduceAdd, Int.reduceToNat, Nat.reduceMul, List.set_cons_zero, List.set_cons_succ, List.setIfInBounds_toArray] at hs
          refine Z.tk (Dn := fun j => j != 10) (i := 10) (fun h => absurd h (by decide)) ?_
          refine Z.td (by rfl) (by kernel_rfl) ?_
          refine Z.only [1, 4, 7, 8] rfl ?_
          refine Z.nblock ?_
          refine Z.nthen ?_
          refine Z.region ?_
          refine Z.lb 1 rfl ?_
          refine Z.l rfl rfl (by rfl) (Z.keepS hs) (Z.Yd.sub rfl rfl (fun hG => Z.wi64 (by first | omega | (have hG' := Z.gh rfl hG; simp at hG'; omega)))) ?_
          refine Z.lb 1 rfl ?_
          refine Z.lnil ?_
          refine Z.only [1, 4, 7, 8] rfl ?_
          refine Z.nthen ?_
          have e : ints .u8 ((be n (id : Int)).take j) ++ [.int .u8 (((id / 2 ^ (8 * (n - 1 - j)) : Nat) : Int) % 256)] = ints .u8 ((be n (id : Int)).take (j + 1)) := by
            rw [List.take_add_one, hb]
            simp [ints]
          rw [e] at hs
          exact Z.again (j + 1, _) (by refine ⟨?_, ?_, ?_, ?_, trivial⟩ <;> (first | rfl | (refine Z.lookv rfl ?_; simp; done) | (refine Z.lookv rfl ?_; simp; omega))) ⟨by simp only; omega, hs⟩ (by simp only; omega)
          )
    · first
        | (exfalso; simp at hc8 <;> omega)
        | (
          (try simp at hc8)
          refine Z.exit ?_
          refine Z.xthen ?_
          refine Z.xthen ?_
          refine Z.xblock ?_
          refine Z.nthen ?_
          refine Z.seq ?_
          refine Z.region ?_
          obtain rfl : j = n := by omega
          obtain ⟨Aj, cj, rfl, -, -, -⟩ := SX.row_slv hs (j := 0) rfl
          rw [List.take_of_length_le (by simp)] at hs
          refine Z.l rfl rfl (by rfl) (Z.keepS hs) (by first | exact Z.Yd.loadA _ rfl Try.isAgg31 (fun _ => Z.cellsB (by first | ((repeat (first | exact List.mem_cons_self | refine List.mem_cons_of_mem _ ?_ | refine List.mem_append_right _ ?_)); done) | fail)) (by exact Try.sizeOf31) | fail "load 11.0") ?_
          refine Z.le rfl trivial ?_
          refine Z.ZO.storeA rfl rfl hs rfl rfl (by kernel_rfl) (by simp [Value.oneCell']) (by first | exact SX.at0 | exact SX.at1 | exact SX.at2 | exact SX.at3 | exact SX.at4 | exact SX.at5 | exact Z.at6 | exact Z.at7 | exact Z.at8 | exact Z.at9 | exact Z.at10 | exact Z.at11 | exact Z.at12) (by rfl) ?_
          clear hs; intro ws hs
          simp only [Nat.zero_add, Nat.add_zero, Nat.reduceAdd, Int.reduceToNat, Nat.reduceMul, List.set_cons_zero, List.set_cons_succ, List.setIfInBounds_toArray] at hs
          refine Z.lb 1 rfl ?_
          refine Z.lnil ?_
          refine Z.only [4, 5] rfl ?_
          refine Z.nthen ?_
          refine Z.ret ?_
          -- ret#0
          refine Z.out2 (by exact ⟨⟨_, rfl, Z.rvcA hs Try.isAgg31 (by first | ((repeat (first | exact List.mem_cons_self | refine List.mem_cons_of_mem _ ?_ | refine List.mem_append_right _ ?_)); done) | fail) (by exact Try.sizeOf31)⟩, rfl, trivial⟩) ?_
          have el : (be j (id : Int)).length = j := be_length _ _
          refine ⟨_, rfl, _, rfl, Aj, cj, cj, ?_, ?_⟩
          · rw [el]
          · rw [el]; exact hs.sel [0] (by decide)
          )

theorem rencid_ok (lc : Int) (id : Nat) (w : World) (hid : id < 18446744073709551616) (hi : isId lc) (hh : id / 2 ^ (8 * wid lc).toNat = 0) :
    Calls Try.prog 20 #[.int .i64 lc, .int .u64 (id : Int)] w (SX.Ret fun v w' => ∃ u, v = .tuple #[u, .int .i64 0] ∧ IsPt lc (be (wid lc).toNat (id : Int)) u w w') := by
  rcases hi with rfl | rfl
  · exact rencid_go 27 2 id w hid (.inl ⟨rfl, rfl⟩) hh
  · exact rencid_go 28 6 id w hid (.inr ⟨rfl, rfl⟩) hh
set_option maxRecDepth 100000 in
theorem controlIdentities_walk (h lc : Int) (id : Nat) (w : World) (hid : id < 18446744073709551616) :
    Calls Try.prog 5 #[.int .i64 h, .int .i64 lc, .int .u64 (id : Int)] w (SX.Ret fun v w' => v = .bool true ∧ SX.St w [] w' []) := by
  have hs := SX.St.start w
  have part2 : ∀ (W : World) (L : List SX.Ent) (v2 : Value), True := fun _ _ _ => trivial
  by_cases hi : isId lc ∧ id / 2 ^ (8 * wid lc).toNat = 0
  · have hB := be_bytes (wid lc).toNat (id : Int)
    by_cases hh : 0 ≤ h ∧ h ≤ 63
    · skip
      refine Z.enter Try.func5 rfl Try.ntmps5 rfl rfl ?_
      refine Z.seq ?_
      refine Z.region ?_
      refine Z.lb 1 rfl ?_
      refine Z.lnil ?_
      refine Z.only [0, 1, 2] rfl ?_
      refine Z.nthen ?_
      refine Z.seq ?_
      refine Z.region ?_
      refine Z.lb 1 rfl ?_
      refine Z.le rfl trivial ?_
      refine Z.ZO.call rfl rfl (by rfl) rfl rfl Try.call18 rfl (encpow_ok h _ hh) ?_
      rintro v1_1 w1_1 ⟨u1, rfl, B1, c1, rfl, hy⟩
      replace hs := hs.call hy
      clear hy
      try simp only [List.cons_append, List.nil_append, List.append_nil] at hs
      refine Z.lb 3 rfl ?_
      refine Z.le rfl trivial ?_
      refine Z.ZO.alloc rfl rfl (by rfl) Try.zeroValue31 rfl hs ?_
      clear hs; intro g7 w7 hs
      refine Z.le rfl trivial ?_
      refine Z.ZO.storeA rfl rfl hs rfl rfl (by kernel_rfl) (by simp [Value.oneCell']) (by first | exact SX.at0 | exact SX.at1 | exact SX.at2 | exact SX.at3 | exact SX.at4 | exact SX.at5 | exact Z.at6 | exact Z.at7 | exact Z.at8 | exact Z.at9 | exact Z.at10 | exact Z.at11 | exact Z.at12) (by rfl) ?_
      clear hs; intro ws hs
      simp only [Nat.zero_add, Nat.add_zero, Nat.reduceAdd, Int.reduceToNat, Nat.reduceMul, List.set_cons_zero, List.set_cons_succ, List.setIfInBounds_toArray] at hs
      refine Z.lb 1 rfl ?_
      refine Z.lnil ?_
      refine Z.only [0, 1, 2, 7, 8] rfl ?_
      refine Z.nthen ?_
      refine Z.seq ?_
      refine Z.region ?_
      refine Z.lb 2 rfl ?_
      refine Z.le rfl trivial ?_
      refine Z.ZO.call rfl rfl (by rfl) rfl rfl Try.call19 rfl (encid_ok lc id _ hid hi.1 hi.2) ?_
      rintro v2_2 w2_2 ⟨u2, rfl, B2, c2, rfl, hy⟩
      replace hs := hs.call hy
      clear hy
      try simp only [List.cons_append, List.nil_append, List.append_nil] at hs
      refine Z.lb 3 rfl ?_
      refine Z.le rfl trivial ?_
      refine Z.ZO.alloc rfl rfl (by rfl) Try.zeroValue31 rfl hs ?_
      clear hs; intro g9 w9 hs
      refine Z.le rfl trivial ?_
      refine Z.ZO.storeA rfl rfl hs rfl rfl (by kernel_rfl) (by simp [Value.oneCell']) (by first | exact SX.at0 | exact SX.at1 | exact SX.at2 | exact SX.at3 | exact SX.at4 | exact SX.at5 | exact Z.at6 | exact Z.at7 | exact Z.at8 | exact Z.at9 | exact Z.at10 | exact Z.at11 | exact Z.at12) (by rfl) ?_
      clear hs; intro ws hs
      simp only [Nat.zero_add, Nat.add_zero, Nat.reduceAdd, Int.reduceToNat, Nat.reduceMul, List.set_cons_zero, List.set_cons_succ, List.setIfInBounds_toArray] at hs
      refine Z.lb 1 rfl ?_
      refine Z.lnil ?_
      refine Z.only [0, 1, 2, 7, 8, 9, 10] rfl ?_
      refine Z.nthen ?_
      refine Z.seq ?_
      refine Z.region ?_
      refine Z.lb 2 rfl ?_
      refine Z.le rfl trivial ?_
      refine Z.ZO.call rfl rfl (by rfl) rfl rfl Try.call20 rfl (rencid_ok lc id _ hid hi.1 hi.2) ?_
      rintro v3_2 w3_2 ⟨u3, rfl, B3, d3, c3, rfl, hy⟩
      replace hs := hs.call hy
      clear hy
      try simp only [List.cons_append, List.nil_append, List.append_nil] at hs
      refine Z.lb 3 rfl ?_
      refine Z.le rfl trivial ?_
      refine Z.ZO.alloc rfl rfl (by rfl) Try.zeroValue31 rfl hs ?_
      clear hs; intro g11 w11 hs
      refine Z.le rfl trivial ?_
      refine Z.ZO.storeA rfl rfl hs rfl rfl (by kernel_rfl) (by simp [Value.oneCell']) (by first | exact SX.at0 | exact SX.at1 | exact SX.at2 | exact SX.at3 | exact SX.at4 | exact SX.at5 | exact Z.at6 | exact Z.at7 | exact Z.at8 | exact Z.at9 | exact Z.at10 | exact Z.at11 | exact Z.at12) (by rfl) ?_
      clear hs; intro ws hs
      simp only [Nat.zero_add, Nat.add_zero, Nat.reduceAdd, Int.reduceToNat, Nat.reduceMul, List.set_cons_zero, List.set_cons_succ, List.setIfInBounds_toArray] at hs
      refine Z.lb 1 rfl ?_
      refine Z.lnil ?_
      refine Z.only [0, 7, 8, 9, 10, 11, 12] rfl ?_
      refine Z.nthen ?_
      refine Z.seq ?_
      refine Z.seq ?_
      refine Z.region ?_
      refine Z.l rfl rfl (by rfl) (Z.keepS hs) (by first | exact Z.Yd.loadA _ rfl Try.isAgg31 (fun _ => Z.cellsB (by first | ((repeat (first | exact List.mem_cons_self | refine List.mem_cons_of_mem _ ?_ | refine List.mem_append_right _ ?_)); done) | fail)) (by exact Try.sizeOf31) | fail "load 4.0") ?_
      refine Z.l rfl rfl (by rfl) (Z.keepS hs) (by first | exact Z.Yd.loadA _ rfl Try.isAgg31 (fun _ => Z.cellsB (by first | ((repeat (first | exact List.mem_cons_self | refine List.mem_cons_of_mem _ ?_ | refine List.mem_append_right _ ?_)); done) | fail)) (by exact Try.sizeOf31) | fail "load 4.1") ?_
      refine Z.le rfl trivial ?_
      refine Z.ZO.call rfl rfl (by rfl) rfl rfl Try.call16 rfl (same24 _ _ B2 B3 _ _ _ _ (be (wid lc).toNat (id : Int)) (be (wid lc).toNat (id : Int)) _ (hs.slm (by first | ((repeat (first | exact List.mem_cons_self | refine List.mem_cons_of_mem _ ?_ | refine List.mem_append_right _ ?_)); done) | fail)) (hs.slm (by first | ((repeat (first | exact List.mem_cons_self | refine List.mem_cons_of_mem _ ?_ | refine List.mem_append_right _ ?_)); done) | fail)) rfl rfl hB hB) ?_
      rintro v4_2 w4_2 ⟨rfl, hy⟩
      replace hs := hs.call hy
      clear hy
      try simp only [List.cons_append, List.nil_append, List.append_nil] at hs
      refine Z.lb 2 rfl ?_
      refine Z.yes (s := 34) (b := false) rfl ((by simp)) rfl ?_
      refine Z.lb 1 rfl ?_
      refine Z.yes (s := 34) (b := false) rfl rfl rfl ?_
      refine Z.le rfl (by exact ⟨rfl, trivial⟩) ?_
      refine Z.ZO.call rfl rfl (by rfl) rfl rfl Try.call17 rfl (num24 _ _) ?_
      rintro v4_6 w4_6 ⟨rfl, hy⟩
      replace hs := hs.call hy
      clear hy
      try simp only [List.cons_append, List.nil_append, List.append_nil] at hs
      refine Z.lb 2 rfl ?_
      refine Z.yes (s := 34) (b := false) rfl rfl rfl ?_
      refine Z.l rfl rfl (by rfl) (Z.keepS hs) (Z.Yd.pickF rfl rfl) ?_
      refine Z.lnil ?_
      refine Z.only [0, 7, 8, 39] rfl ?_
      refine Z.nthen ?_
      refine Z.cond rfl (fun h => absurd h (by simp)) (fun hc4 => ?_)
      refine Z.skip ?_
      refine Z.nthen ?_
      refine Z.seq ?_
      refine Z.seq ?_
      refine Z.region ?_
      refine Z.lb 6 rfl ?_
      refine Z.lnil ?_
      refine Z.only [0, 7, 8, 45] rfl ?_
      refine Z.nthen ?_
      refine Z.cond rfl (fun h => absurd h (by simp; omega)) (fun hc6 => ?_)
      refine Z.skip ?_
      refine Z.nthen ?_
      refine Z.seq ?_
      refine Z.region ?_
      refine Z.l rfl rfl (by rfl) (Z.keepS hs) (by first | exact Z.Yd.loadA _ rfl Try.isAgg31 (fun _ => Z.cellsB (by first | ((repeat (first | exact List.mem_cons_self | refine List.mem_cons_of_mem _ ?_ | refine List.mem_append_right _ ?_)); done) | fail)) (by exact Try.sizeOf31) | fail "load 8.0") ?_
      refine Z.lb 2 rfl ?_
      refine Z.l rfl rfl (by rfl) (Z.keepS hs) (Z.Yd.convI rfl ⟨_, Try.underlying3⟩ Try.underlying5 (fun hG => Z.wu8 (by first | omega | (have hG' := Z.gh rfl hG; simp at hG'; omega)))) ?_
      refine Z.le rfl trivial ?_
      refine Z.ZO.litL (T' := 5) [(0, 1)] [.int .u8 0] rfl rfl (by rfl) rfl rfl (by intro W; kernel_rfl) hs ?_
      clear hs; intro g56 w56 hs
      refine Z.l rfl rfl (by rfl) (Z.keepS hs) (Z.Yd.b2s (l := [h]) rfl Try.underlying29 Try.underlying5 Try.underlying9 rfl (fun W hW => by obtain ⟨R, hR, hm⟩ := hW; exact SX.St.blkSl hR (hm _ SX.in0))) ?_
      refine Z.le rfl trivial ?_
      refine Z.ZO.call rfl rfl (by rfl) rfl rfl Try.call21 rfl (is24 _ _ 26 0 B1 _ _ [h] _ _ (hs.slm (by first | ((repeat (first | exact List.mem_cons_self | refine List.mem_cons_of_mem _ ?_ | refine List.mem_append_right _ ?_)); done) | fail)) rfl) ?_
      rintro v8_6 w8_6 ⟨rfl, hy⟩
      replace hs := hs.call hy
      clear hy
      try simp only [List.cons_append, List.nil_append, List.append_nil] at hs
      refine Z.lb 1 rfl ?_
      refine Z.yes (s := 59) (b := true) rfl ((by rw [Z.strOf_list]; simp)) rfl ?_
      refine Z.le rfl (by exact ⟨rfl, trivial⟩) ?_
      refine Z.ZO.call rfl rfl (by rfl) rfl rfl Try.call12 rfl (works24 _) ?_
      rintro v8_8 w8_8 ⟨rfl, hy⟩
      replace hs := hs.call hy
      clear hy
      try simp only [List.cons_append, List.nil_append, List.append_nil] at hs
      refine Z.l rfl rfl (by rfl) (Z.keepS hs) (Z.Yd.pickT rfl rfl) ?_
      refine Z.lb 1 rfl ?_
      refine Z.lnil ?_
      refine Z.only [6] rfl ?_
      refine Z.nthen ?_
      refine Z.ret ?_
      -- ret#0
      refine Z.out1 (by exact ⟨rfl, trivial⟩) ?_
      first | exact ⟨_, rfl, rfl, hs⟩ | exact ⟨_, rfl, rfl, hs.sub (List.nil_sublist _)⟩
    · skip
      refine Z.enter Try.func5 rfl Try.ntmps5 rfl rfl ?_
      refine Z.seq ?_
      refine Z.region ?_
      refine Z.lb 1 rfl ?_
      refine Z.lnil ?_
      refine Z.only [0, 1, 2] rfl ?_
      refine Z.nthen ?_
      refine Z.seq ?_
      refine Z.region ?_
      refine Z.lb 1 rfl ?_
      refine Z.le rfl trivial ?_
      refine Z.ZO.call rfl rfl (by rfl) rfl rfl Try.call18 rfl (encpow_bad h _ hh) ?_
      rintro v1_1 w1_1 ⟨rfl, hy⟩
      replace hs := hs.call hy
      clear hy
      try simp only [List.cons_append, List.nil_append, List.append_nil] at hs
      refine Z.lb 3 rfl ?_
      refine Z.le rfl trivial ?_
      refine Z.ZO.alloc rfl rfl (by rfl) Try.zeroValue31 rfl hs ?_
      clear hs; intro g7 w7 hs
      refine Z.le rfl trivial ?_
      refine Z.ZO.storeA rfl rfl hs rfl rfl (by kernel_rfl) (by simp [Value.oneCell']) (by first | exact SX.at0 | exact SX.at1 | exact SX.at2 | exact SX.at3 | exact SX.at4 | exact SX.at5 | exact Z.at6 | exact Z.at7 | exact Z.at8 | exact Z.at9 | exact Z.at10 | exact Z.at11 | exact Z.at12) (by rfl) ?_
      clear hs; intro ws hs
      simp only [Nat.zero_add, Nat.add_zero, Nat.reduceAdd, Int.reduceToNat, Nat.reduceMul, List.set_cons_zero, List.set_cons_succ, List.setIfInBounds_toArray] at hs
      refine Z.lb 1 rfl ?_
      refine Z.lnil ?_
      refine Z.only [0, 1, 2, 7, 8] rfl ?_
      refine Z.nthen ?_
      refine Z.seq ?_
      refine Z.region ?_
      refine Z.lb 2 rfl ?_
      refine Z.le rfl trivial ?_
      refine Z.ZO.call rfl rfl (by rfl) rfl rfl Try.call19 rfl (encid_ok lc id _ hid hi.1 hi.2) ?_
      rintro v2_2 w2_2 ⟨u2, rfl, B2, c2, rfl, hy⟩
      replace hs := hs.call hy
      clear hy
      try simp only [List.cons_append, List.nil_append, List.append_nil] at hs
      refine Z.lb 3 rfl ?_
      refine Z.le rfl trivial ?_
      refine Z.ZO.alloc rfl rfl (by rfl) Try.zeroValue31 rfl hs ?_
      clear hs; intro g9 w9 hs
      refine Z.le rfl trivial ?_
      refine Z.ZO.storeA rfl rfl hs rfl rfl (by kernel_rfl) (by simp [Value.oneCell']) (by first | exact SX.at0 | exact SX.at1 | exact SX.at2 | exact SX.at3 | exact SX.at4 | exact SX.at5 | exact Z.at6 | exact Z.at7 | exact Z.at8 | exact Z.at9 | exact Z.at10 | exact Z.at11 | exact Z.at12) (by rfl) ?_
      clear hs; intro ws hs
      simp only [Nat.zero_add, Nat.add_zero, Nat.reduceAdd, Int.reduceToNat, Nat.reduceMul, List.set_cons_zero, List.set_cons_succ, List.setIfInBounds_toArray] at hs
      refine Z.lb 1 rfl ?_
      refine Z.lnil ?_
      refine Z.only [0, 1, 2, 7, 8, 9, 10] rfl ?_
      refine Z.nthen ?_
      refine Z.seq ?_
      refine Z.region ?_
      refine Z.lb 2 rfl ?_
      refine Z.le rfl trivial ?_
      refine Z.ZO.call rfl rfl (by rfl) rfl rfl Try.call20 rfl (rencid_ok lc id _ hid hi.1 hi.2) ?_
      rintro v3_2 w3_2 ⟨u3, rfl, B3, d3, c3, rfl, hy⟩
      replace hs := hs.call hy
      clear hy
      try simp only [List.cons_append, List.nil_append, List.append_nil] at hs
      refine Z.lb 3 rfl ?_
      refine Z.le rfl trivial ?_
      refine Z.ZO.alloc rfl rfl (by rfl) Try.zeroValue31 rfl hs ?_
      clear hs; intro g11 w11 hs
      refine Z.le rfl trivial ?_
      refine Z.ZO.storeA rfl rfl hs rfl rfl (by kernel_rfl) (by simp [Value.oneCell']) (by first | exact SX.at0 | exact SX.at1 | exact SX.at2 | exact SX.at3 | exact SX.at4 | exact SX.at5 | exact Z.at6 | exact Z.at7 | exact Z.at8 | exact Z.at9 | exact Z.at10 | exact Z.at11 | exact Z.at12) (by rfl) ?_
      clear hs; intro ws hs
      simp only [Nat.zero_add, Nat.add_zero, Nat.reduceAdd, Int.reduceToNat, Nat.reduceMul, List.set_cons_zero, List.set_cons_succ, List.setIfInBounds_toArray] at hs
      refine Z.lb 1 rfl ?_
      refine Z.lnil ?_
      refine Z.only [0, 7, 8, 9, 10, 11, 12] rfl ?_
      refine Z.nthen ?_
      refine Z.seq ?_
      refine Z.seq ?_
      refine Z.region ?_
      refine Z.l rfl rfl (by rfl) (Z.keepS hs) (by first | exact Z.Yd.loadA _ rfl Try.isAgg31 (fun _ => Z.cellsB (by first | ((repeat (first | exact List.mem_cons_self | refine List.mem_cons_of_mem _ ?_ | refine List.mem_append_right _ ?_)); done) | fail)) (by exact Try.sizeOf31) | fail "load 4.0") ?_
      refine Z.l rfl rfl (by rfl) (Z.keepS hs) (by first | exact Z.Yd.loadA _ rfl Try.isAgg31 (fun _ => Z.cellsB (by first | ((repeat (first | exact List.mem_cons_self | refine List.mem_cons_of_mem _ ?_ | refine List.mem_append_right _ ?_)); done) | fail)) (by exact Try.sizeOf31) | fail "load 4.1") ?_
      refine Z.le rfl trivial ?_
      refine Z.ZO.call rfl rfl (by rfl) rfl rfl Try.call16 rfl (same24 _ _ B2 B3 _ _ _ _ (be (wid lc).toNat (id : Int)) (be (wid lc).toNat (id : Int)) _ (hs.slm (by first | ((repeat (first | exact List.mem_cons_self | refine List.mem_cons_of_mem _ ?_ | refine List.mem_append_right _ ?_)); done) | fail)) (hs.slm (by first | ((repeat (first | exact List.mem_cons_self | refine List.mem_cons_of_mem _ ?_ | refine List.mem_append_right _ ?_)); done) | fail)) rfl rfl hB hB) ?_
      rintro v4_2 w4_2 ⟨rfl, hy⟩
      replace hs := hs.call hy
      clear hy
      try simp only [List.cons_append, List.nil_append, List.append_nil] at hs
      refine Z.lb 2 rfl ?_
      refine Z.yes (s := 34) (b := false) rfl ((by simp)) rfl ?_
      refine Z.lb 1 rfl ?_
      refine Z.yes (s := 34) (b := false) rfl rfl rfl ?_
      refine Z.le rfl (by exact ⟨rfl, trivial⟩) ?_
      refine Z.ZO.call rfl rfl (by rfl) rfl rfl Try.call17 rfl (num24 _ _) ?_
      rintro v4_6 w4_6 ⟨rfl, hy⟩
      replace hs := hs.call hy
      clear hy
      try simp only [List.cons_append, List.nil_append, List.append_nil] at hs
      refine Z.lb 2 rfl ?_
      refine Z.yes (s := 34) (b := false) rfl rfl rfl ?_
      refine Z.l rfl rfl (by rfl) (Z.keepS hs) (Z.Yd.pickF rfl rfl) ?_
      refine Z.lnil ?_
      refine Z.only [0, 7, 8, 39] rfl ?_
      refine Z.nthen ?_
      refine Z.cond rfl (fun h => absurd h (by simp)) (fun hc4 => ?_)
      refine Z.skip ?_
      refine Z.nthen ?_
      refine Z.seq ?_
      refine Z.seq ?_
      refine Z.region ?_
      refine Z.lb 6 rfl ?_
      refine Z.lnil ?_
      refine Z.only [0, 7, 8, 45] rfl ?_
      refine Z.nthen ?_
      refine Z.cond rfl (fun hc6 => ?_) (fun h => absurd h (by simp; omega))
      refine Z.seq ?_
      refine Z.region ?_
      refine Z.l rfl rfl (by rfl) (Z.keepS hs) (by first | exact Z.Yd.loadA _ rfl Try.isAgg31 (fun _ => Z.cellsB (by first | ((repeat (first | exact List.mem_cons_self | refine List.mem_cons_of_mem _ ?_ | refine List.mem_append_right _ ?_)); done) | fail)) (by exact Try.sizeOf31) | fail "load 7.0") ?_
      refine Z.lb 1 rfl ?_
      refine Z.le rfl trivial ?_
      refine Z.ZO.call rfl rfl (by rfl) rfl rfl Try.call21 rfl (is24 _ _ 0 2 none 0 0 [] _ _ (fun h ↦ absurd h (by decide)) rfl) ?_
      rintro v7_2 w7_2 ⟨rfl, hy⟩
      replace hs := hs.call hy
      clear hy
      try simp only [List.cons_append, List.nil_append, List.append_nil] at hs
      refine Z.lb 1 rfl ?_
      refine Z.yes (s := 49) (b := true) rfl ((by decide +kernel)) rfl ?_
      refine Z.le rfl (by exact ⟨rfl, trivial⟩) ?_
      refine Z.ZO.call rfl rfl (by rfl) rfl rfl Try.call12 rfl (works24 _) ?_
      rintro v7_4 w7_4 ⟨rfl, hy⟩
      replace hs := hs.call hy
      clear hy
      try simp only [List.cons_append, List.nil_append, List.append_nil] at hs
      refine Z.l rfl rfl (by rfl) (Z.keepS hs) (Z.Yd.pickT rfl rfl) ?_
      refine Z.lb 1 rfl ?_
      refine Z.lnil ?_
      refine Z.only [6] rfl ?_
      refine Z.nthen ?_
      refine Z.ret ?_
      repeat (first | refine Z.rthen ?_ | refine Z.rblock ?_ | refine Z.rscope ?_)
      -- ret#0
      refine Z.out1 (by exact ⟨rfl, trivial⟩) ?_
      first | exact ⟨_, rfl, rfl, hs⟩ | exact ⟨_, rfl, rfl, hs.sub (List.nil_sublist _)⟩
  · by_cases hh : 0 ≤ h ∧ h ≤ 63
    · skip
      refine Z.enter Try.func5 rfl Try.ntmps5 rfl rfl ?_
      refine Z.seq ?_
      refine Z.region ?_
      refine Z.lb 1 rfl ?_
      refine Z.lnil ?_
      refine Z.only [0, 1, 2] rfl ?_
      refine Z.nthen ?_
      refine Z.seq ?_
      refine Z.region ?_
      refine Z.lb 1 rfl ?_
      refine Z.le rfl trivial ?_
      refine Z.ZO.call rfl rfl (by rfl) rfl rfl Try.call18 rfl (encpow_ok h _ hh) ?_
      rintro v1_1 w1_1 ⟨u1, rfl, B1, c1, rfl, hy⟩
      replace hs := hs.call hy
      clear hy
      try simp only [List.cons_append, List.nil_append, List.append_nil] at hs
      refine Z.lb 3 rfl ?_
      refine Z.le rfl trivial ?_
      refine Z.ZO.alloc rfl rfl (by rfl) Try.zeroValue31 rfl hs ?_
      clear hs; intro g7 w7 hs
      refine Z.le rfl trivial ?_
      refine Z.ZO.storeA rfl rfl hs rfl rfl (by kernel_rfl) (by simp [Value.oneCell']) (by first | exact SX.at0 | exact SX.at1 | exact SX.at2 | exact SX.at3 | exact SX.at4 | exact SX.at5 | exact Z.at6 | exact Z.at7 | exact Z.at8 | exact Z.at9 | exact Z.at10 | exact Z.at11 | exact Z.at12) (by rfl) ?_
      clear hs; intro ws hs
      simp only [Nat.zero_add, Nat.add_zero, Nat.reduceAdd, Int.reduceToNat, Nat.reduceMul, List.set_cons_zero, List.set_cons_succ, List.setIfInBounds_toArray] at hs
      refine Z.lb 1 rfl ?_
      refine Z.lnil ?_
      refine Z.only [0, 1, 2, 7, 8] rfl ?_
      refine Z.nthen ?_
      refine Z.seq ?_
      refine Z.region ?_
      refine Z.lb 2 rfl ?_
      refine Z.le rfl trivial ?_
      refine Z.ZO.call rfl rfl (by rfl) rfl rfl Try.call19 rfl (encid_bad lc id _ hid hi) ?_
      rintro v2_2 w2_2 ⟨rfl, hy⟩
      replace hs := hs.call hy
      clear hy
      try simp only [List.cons_append, List.nil_append, List.append_nil] at hs
      refine Z.lb 3 rfl ?_
      refine Z.le rfl trivial ?_
      refine Z.ZO.alloc rfl rfl (by rfl) Try.zeroValue31 rfl hs ?_
      clear hs; intro g9 w9 hs
      refine Z.le rfl trivial ?_
      refine Z.ZO.storeA rfl rfl hs rfl rfl (by kernel_rfl) (by simp [Value.oneCell']) (by first | exact SX.at0 | exact SX.at1 | exact SX.at2 | exact SX.at3 | exact SX.at4 | exact SX.at5 | exact Z.at6 | exact Z.at7 | exact Z.at8 | exact Z.at9 | exact Z.at10 | exact Z.at11 | exact Z.at12) (by rfl) ?_
      clear hs; intro ws hs
      simp only [Nat.zero_add, Nat.add_zero, Nat.reduceAdd, Int.reduceToNat, Nat.reduceMul, List.set_cons_zero, List.set_cons_succ, List.setIfInBounds_toArray] at hs
      refine Z.lb 1 rfl ?_
      refine Z.lnil ?_
      refine Z.only [0, 1, 2, 7, 8, 9, 10] rfl ?_
      refine Z.nthen ?_
      refine Z.seq ?_
      refine Z.region ?_
      refine Z.lb 2 rfl ?_
      refine Z.le rfl trivial ?_
      refine Z.ZO.call rfl rfl (by rfl) rfl rfl Try.call20 rfl (rencid_bad lc id _ hid hi) ?_
      rintro v3_2 w3_2 ⟨rfl, hy⟩
      replace hs := hs.call hy
      clear hy
      try simp only [List.cons_append, List.nil_append, List.append_nil] at hs
      refine Z.lb 3 rfl ?_
      refine Z.le rfl trivial ?_
      refine Z.ZO.alloc rfl rfl (by rfl) Try.zeroValue31 rfl hs ?_
      clear hs; intro g11 w11 hs
      refine Z.le rfl trivial ?_
      refine Z.ZO.storeA rfl rfl hs rfl rfl (by kernel_rfl) (by simp [Value.oneCell']) (by first | exact SX.at0 | exact SX.at1 | exact SX.at2 | exact SX.at3 | exact SX.at4 | exact SX.at5 | exact Z.at6 | exact Z.at7 | exact Z.at8 | exact Z.at9 | exact Z.at10 | exact Z.at11 | exact Z.at12) (by rfl) ?_
      clear hs; intro ws hs
      simp only [Nat.zero_add, Nat.add_zero, Nat.reduceAdd, Int.reduceToNat, Nat.reduceMul, List.set_cons_zero, List.set_cons_succ, List.setIfInBounds_toArray] at hs
      refine Z.lb 1 rfl ?_
      refine Z.lnil ?_
      refine Z.only [0, 7, 8, 9, 10, 11, 12] rfl ?_
      refine Z.nthen ?_
      refine Z.seq ?_
      refine Z.seq ?_
      refine Z.region ?_
      refine Z.l rfl rfl (by rfl) (Z.keepS hs) (by first | exact Z.Yd.loadA _ rfl Try.isAgg31 (fun _ => Z.cellsB (by first | ((repeat (first | exact List.mem_cons_self | refine List.mem_cons_of_mem _ ?_ | refine List.mem_append_right _ ?_)); done) | fail)) (by exact Try.sizeOf31) | fail "load 4.0") ?_
      refine Z.l rfl rfl (by rfl) (Z.keepS hs) (by first | exact Z.Yd.loadA _ rfl Try.isAgg31 (fun _ => Z.cellsB (by first | ((repeat (first | exact List.mem_cons_self | refine List.mem_cons_of_mem _ ?_ | refine List.mem_append_right _ ?_)); done) | fail)) (by exact Try.sizeOf31) | fail "load 4.1") ?_
      refine Z.le rfl trivial ?_
      refine Z.ZO.call rfl rfl (by rfl) rfl rfl Try.call16 rfl (same24 _ _ none none 0 0 0 0 [] [] _ (fun h ↦ absurd h (by decide)) (fun h ↦ absurd h (by decide)) rfl rfl (by simp [Byts]) (by simp [Byts])) ?_
      rintro v4_2 w4_2 ⟨rfl, hy⟩
      replace hs := hs.call hy
      clear hy
      try simp only [List.cons_append, List.nil_append, List.append_nil] at hs
      refine Z.lb 2 rfl ?_
      refine Z.yes (s := 34) (b := false) rfl ((by simp)) rfl ?_
      refine Z.lb 1 rfl ?_
      refine Z.yes (s := 34) (b := false) rfl rfl rfl ?_
      refine Z.le rfl (by exact ⟨rfl, trivial⟩) ?_
      refine Z.ZO.call rfl rfl (by rfl) rfl rfl Try.call17 rfl (num24 _ _) ?_
      rintro v4_6 w4_6 ⟨rfl, hy⟩
      replace hs := hs.call hy
      clear hy
      try simp only [List.cons_append, List.nil_append, List.append_nil] at hs
      refine Z.lb 2 rfl ?_
      refine Z.yes (s := 34) (b := false) rfl rfl rfl ?_
      refine Z.l rfl rfl (by rfl) (Z.keepS hs) (Z.Yd.pickF rfl rfl) ?_
      refine Z.lnil ?_
      refine Z.only [0, 7, 8, 39] rfl ?_
      refine Z.nthen ?_
      refine Z.cond rfl (fun h => absurd h (by simp)) (fun hc4 => ?_)
      refine Z.skip ?_
      refine Z.nthen ?_
      refine Z.seq ?_
      refine Z.seq ?_
      refine Z.region ?_
      refine Z.lb 6 rfl ?_
      refine Z.lnil ?_
      refine Z.only [0, 7, 8, 45] rfl ?_
      refine Z.nthen ?_
      refine Z.cond rfl (fun h => absurd h (by simp; omega)) (fun hc6 => ?_)
      refine Z.skip ?_
      refine Z.nthen ?_
      refine Z.seq ?_
      refine Z.region ?_
      refine Z.l rfl rfl (by rfl) (Z.keepS hs) (by first | exact Z.Yd.loadA _ rfl Try.isAgg31 (fun _ => Z.cellsB (by first | ((repeat (first | exact List.mem_cons_self | refine List.mem_cons_of_mem _ ?_ | refine List.mem_append_right _ ?_)); done) | fail)) (by exact Try.sizeOf31) | fail "load 8.0") ?_
      refine Z.lb 2 rfl ?_
      refine Z.l rfl rfl (by rfl) (Z.keepS hs) (Z.Yd.convI rfl ⟨_, Try.underlying3⟩ Try.underlying5 (fun hG => Z.wu8 (by first | omega | (have hG' := Z.gh rfl hG; simp at hG'; omega)))) ?_
      refine Z.le rfl trivial ?_
      refine Z.ZO.litL (T' := 5) [(0, 1)] [.int .u8 0] rfl rfl (by rfl) rfl rfl (by intro W; kernel_rfl) hs ?_
      clear hs; intro g56 w56 hs
      refine Z.l rfl rfl (by rfl) (Z.keepS hs) (Z.Yd.b2s (l := [h]) rfl Try.underlying29 Try.underlying5 Try.underlying9 rfl (fun W hW => by obtain ⟨R, hR, hm⟩ := hW; exact SX.St.blkSl hR (hm _ SX.in0))) ?_
      refine Z.le rfl trivial ?_
      refine Z.ZO.call rfl rfl (by rfl) rfl rfl Try.call21 rfl (is24 _ _ 26 0 B1 _ _ [h] _ _ (hs.slm (by first | ((repeat (first | exact List.mem_cons_self | refine List.mem_cons_of_mem _ ?_ | refine List.mem_append_right _ ?_)); done) | fail)) rfl) ?_
      rintro v8_6 w8_6 ⟨rfl, hy⟩
      replace hs := hs.call hy
      clear hy
      try simp only [List.cons_append, List.nil_append, List.append_nil] at hs
      refine Z.lb 1 rfl ?_
      refine Z.yes (s := 59) (b := true) rfl ((by rw [Z.strOf_list]; simp)) rfl ?_
      refine Z.le rfl (by exact ⟨rfl, trivial⟩) ?_
      refine Z.ZO.call rfl rfl (by rfl) rfl rfl Try.call12 rfl (works24 _) ?_
      rintro v8_8 w8_8 ⟨rfl, hy⟩
      replace hs := hs.call hy
      clear hy
      try simp only [List.cons_append, List.nil_append, List.append_nil] at hs
      refine Z.l rfl rfl (by rfl) (Z.keepS hs) (Z.Yd.pickT rfl rfl) ?_
      refine Z.lb 1 rfl ?_
      refine Z.lnil ?_
      refine Z.only [6] rfl ?_
      refine Z.nthen ?_
      refine Z.ret ?_
      -- ret#0
      refine Z.out1 (by exact ⟨rfl, trivial⟩) ?_
      first | exact ⟨_, rfl, rfl, hs⟩ | exact ⟨_, rfl, rfl, hs.sub (List.nil_sublist _)⟩
    · skip
      refine Z.enter Try.func5 rfl Try.ntmps5 rfl rfl ?_
      refine Z.seq ?_
      refine Z.region ?_
      refine Z.lb 1 rfl ?_
      refine Z.lnil ?_
      refine Z.only [0, 1, 2] rfl ?_
      refine Z.nthen ?_
      refine Z.seq ?_
      refine Z.region ?_
      refine Z.lb 1 rfl ?_
      refine Z.le rfl trivial ?_
      refine Z.ZO.call rfl rfl (by rfl) rfl rfl Try.call18 rfl (encpow_bad h _ hh) ?_
      rintro v1_1 w1_1 ⟨rfl, hy⟩
      replace hs := hs.call hy
      clear hy
      try simp only [List.cons_append, List.nil_append, List.append_nil] at hs
      refine Z.lb 3 rfl ?_
      refine Z.le rfl trivial ?_
      refine Z.ZO.alloc rfl rfl (by rfl) Try.zeroValue31 rfl hs ?_
      clear hs; intro g7 w7 hs
      refine Z.le rfl trivial ?_
      refine Z.ZO.storeA rfl rfl hs rfl rfl (by kernel_rfl) (by simp [Value.oneCell']) (by first | exact SX.at0 | exact SX.at1 | exact SX.at2 | exact SX.at3 | exact SX.at4 | exact SX.at5 | exact Z.at6 | exact Z.at7 | exact Z.at8 | exact Z.at9 | exact Z.at10 | exact Z.at11 | exact Z.at12) (by rfl) ?_
      clear hs; intro ws hs
      simp only [Nat.zero_add, Nat.add_zero, Nat.reduceAdd, Int.reduceToNat, Nat.reduceMul, List.set_cons_zero, List.set_cons_succ, List.setIfInBounds_toArray] at hs
      refine Z.lb 1 rfl ?_
      refine Z.lnil ?_
      refine Z.only [0, 1, 2, 7, 8] rfl ?_
      refine Z.nthen ?_
      refine Z.seq ?_
      refine Z.region ?_
      refine Z.lb 2 rfl ?_
      refine Z.le rfl trivial ?_
      refine Z.ZO.call rfl rfl (by rfl) rfl rfl Try.call19 rfl (encid_bad lc id _ hid hi) ?_
      rintro v2_2 w2_2 ⟨rfl, hy⟩
      replace hs := hs.call hy
      clear hy
      try simp only [List.cons_append, List.nil_append, List.append_nil] at hs
      refine Z.lb 3 rfl ?_
      refine Z.le rfl trivial ?_
      refine Z.ZO.alloc rfl rfl (by rfl) Try.zeroValue31 rfl hs ?_
      clear hs; intro g9 w9 hs
      refine Z.le rfl trivial ?_
      refine Z.ZO.storeA rfl rfl hs rfl rfl (by kernel_rfl) (by simp [Value.oneCell']) (by first | exact SX.at0 | exact SX.at1 | exact SX.at2 | exact SX.at3 | exact SX.at4 | exact SX.at5 | exact Z.at6 | exact Z.at7 | exact Z.at8 | exact Z.at9 | exact Z.at10 | exact Z.at11 | exact Z.at12) (by rfl) ?_
      clear hs; intro ws hs
      simp only [Nat.zero_add, Nat.add_zero, Nat.reduceAdd, Int.reduceToNat, Nat.reduceMul, List.set_cons_zero, List.set_cons_succ, List.setIfInBounds_toArray] at hs
      refine Z.lb 1 rfl ?_
      refine Z.lnil ?_
      refine Z.only [0, 1, 2, 7, 8, 9, 10] rfl ?_
      refine Z.nthen ?_
      refine Z.seq ?_
      refine Z.region ?_
      refine Z.lb 2 rfl ?_
      refine Z.le rfl trivial ?_
      refine Z.ZO.call rfl rfl (by rfl) rfl rfl Try.call20 rfl (rencid_bad lc id _ hid hi) ?_
      rintro v3_2 w3_2 ⟨rfl, hy⟩
      replace hs := hs.call hy
      clear hy
      try simp only [List.cons_append, List.nil_append, List.append_nil] at hs
      refine Z.lb 3 rfl ?_
      refine Z.le rfl trivial ?_
      refine Z.ZO.alloc rfl rfl (by rfl) Try.zeroValue31 rfl hs ?_
      clear hs; intro g11 w11 hs
      refine Z.le rfl trivial ?_
      refine Z.ZO.storeA rfl rfl hs rfl rfl (by kernel_rfl) (by simp [Value.oneCell']) (by first | exact SX.at0 | exact SX.at1 | exact SX.at2 | exact SX.at3 | exact SX.at4 | exact SX.at5 | exact Z.at6 | exact Z.at7 | exact Z.at8 | exact Z.at9 | exact Z.at10 | exact Z.at11 | exact Z.at12) (by rfl) ?_
      clear hs; intro ws hs
      simp only [Nat.zero_add, Nat.add_zero, Nat.reduceAdd, Int.reduceToNat, Nat.reduceMul, List.set_cons_zero, List.set_cons_succ, List.setIfInBounds_toArray] at hs
      refine Z.lb 1 rfl ?_
      refine Z.lnil ?_
      refine Z.only [0, 7, 8, 9, 10, 11, 12] rfl ?_
      refine Z.nthen ?_
      refine Z.seq ?_
      refine Z.seq ?_
      refine Z.region ?_
      refine Z.l rfl rfl (by rfl) (Z.keepS hs) (by first | exact Z.Yd.loadA _ rfl Try.isAgg31 (fun _ => Z.cellsB (by first | ((repeat (first | exact List.mem_cons_self | refine List.mem_cons_of_mem _ ?_ | refine List.mem_append_right _ ?_)); done) | fail)) (by exact Try.sizeOf31) | fail "load 4.0") ?_
      refine Z.l rfl rfl (by rfl) (Z.keepS hs) (by first | exact Z.Yd.loadA _ rfl Try.isAgg31 (fun _ => Z.cellsB (by first | ((repeat (first | exact List.mem_cons_self | refine List.mem_cons_of_mem _ ?_ | refine List.mem_append_right _ ?_)); done) | fail)) (by exact Try.sizeOf31) | fail "load 4.1") ?_
      refine Z.le rfl trivial ?_
      refine Z.ZO.call rfl rfl (by rfl) rfl rfl Try.call16 rfl (same24 _ _ none none 0 0 0 0 [] [] _ (fun h ↦ absurd h (by decide)) (fun h ↦ absurd h (by decide)) rfl rfl (by simp [Byts]) (by simp [Byts])) ?_
      rintro v4_2 w4_2 ⟨rfl, hy⟩
      replace hs := hs.call hy
      clear hy
      try simp only [List.cons_append, List.nil_append, List.append_nil] at hs
      refine Z.lb 2 rfl ?_
      refine Z.yes (s := 34) (b := false) rfl ((by simp)) rfl ?_
      refine Z.lb 1 rfl ?_
      refine Z.yes (s := 34) (b := false) rfl rfl rfl ?_
      refine Z.le rfl (by exact ⟨rfl, trivial⟩) ?_
      refine Z.ZO.call rfl rfl (by rfl) rfl rfl Try.call17 rfl (num24 _ _) ?_
      rintro v4_6 w4_6 ⟨rfl, hy⟩
      replace hs := hs.call hy
      clear hy
      try simp only [List.cons_append, List.nil_append, List.append_nil] at hs
      refine Z.lb 2 rfl ?_
      refine Z.yes (s := 34) (b := false) rfl rfl rfl ?_
      refine Z.l rfl rfl (by rfl) (Z.keepS hs) (Z.Yd.pickF rfl rfl) ?_
      refine Z.lnil ?_
      refine Z.only [0, 7, 8, 39] rfl ?_
      refine Z.nthen ?_
      refine Z.cond rfl (fun h => absurd h (by simp)) (fun hc4 => ?_)
      refine Z.skip ?_
      refine Z.nthen ?_
      refine Z.seq ?_
      refine Z.seq ?_
      refine Z.region ?_
      refine Z.lb 6 rfl ?_
      refine Z.lnil ?_
      refine Z.only [0, 7, 8, 45] rfl ?_
      refine Z.nthen ?_
      refine Z.cond rfl (fun hc6 => ?_) (fun h => absurd h (by simp; omega))
      refine Z.seq ?_
      refine Z.region ?_
      refine Z.l rfl rfl (by rfl) (Z.keepS hs) (by first | exact Z.Yd.loadA _ rfl Try.isAgg31 (fun _ => Z.cellsB (by first | ((repeat (first | exact List.mem_cons_self | refine List.mem_cons_of_mem _ ?_ | refine List.mem_append_right _ ?_)); done) | fail)) (by exact Try.sizeOf31) | fail "load 7.0") ?_
      refine Z.lb 1 rfl ?_
      refine Z.le rfl trivial ?_
      refine Z.ZO.call rfl rfl (by rfl) rfl rfl Try.call21 rfl (is24 _ _ 0 2 none 0 0 [] _ _ (fun h ↦ absurd h (by decide)) rfl) ?_
      rintro v7_2 w7_2 ⟨rfl, hy⟩
      replace hs := hs.call hy
      clear hy
      try simp only [List.cons_append, List.nil_append, List.append_nil] at hs
      refine Z.lb 1 rfl ?_
      refine Z.yes (s := 49) (b := true) rfl ((by decide +kernel)) rfl ?_
      refine Z.le rfl (by exact ⟨rfl, trivial⟩) ?_
      refine Z.ZO.call rfl rfl (by rfl) rfl rfl Try.call12 rfl (works24 _) ?_
      rintro v7_4 w7_4 ⟨rfl, hy⟩
      replace hs := hs.call hy
      clear hy
      try simp only [List.cons_append, List.nil_append, List.append_nil] at hs
      refine Z.l rfl rfl (by rfl) (Z.keepS hs) (Z.Yd.pickT rfl rfl) ?_
      refine Z.lb 1 rfl ?_
      refine Z.lnil ?_
      refine Z.only [6] rfl ?_
      refine Z.nthen ?_
      refine Z.ret ?_
      repeat (first | refine Z.rthen ?_ | refine Z.rblock ?_ | refine Z.rscope ?_)
      -- ret#0
      refine Z.out1 (by exact ⟨rfl, trivial⟩) ?_
      first | exact ⟨_, rfl, rfl, hs⟩ | exact ⟨_, rfl, rfl, hs.sub (List.nil_sublist _)⟩
theorem controlIdentities_rd (a0 : Int) (a1 : Int) (a2 : Int) (w : World) (z0 : Rd Try.prog w 3 (Value.int .i64 a0).cells.toList) (z1 : Rd Try.prog w 3 (Value.int .i64 a1).cells.toList) (z2 : Rd Try.prog w 40 (Value.int .u64 a2).cells.toList) :
    Calls Try.prog 5 #[.int .i64 a0, .int .i64 a1, .int .u64 a2] w fun e w' => e = .returned (.bool true) ∧ Below w.heap.size w w' := by
  obtain ⟨x, hx, wx⟩ := Rd.int Try.underlying40 z2
  have hb := wf_u64 wx
  have e : a2 = x := by simpa [Value.cells] using hx
  subst e
  obtain ⟨id, rfl⟩ := Int.eq_ofNat_of_zero_le hb.1
  refine (controlIdentities_walk a0 a1 id w (by omega)).mono ?_
  rintro e w' ⟨v, rfl, rfl, h⟩
  exact ⟨rfl, h.below⟩
end Go.Proofs.Yteabcdmgklhijaa

/- Structs and arrays compared. -/
namespace Go.Proofs.Yteabcdmgklhijaa
open Go.RowKit
set_option linter.unusedVariables false
set_option linter.unusedSimpArgs false
namespace Z
/-- the shape of a type whose values are compared cell by cell -/
inductive Sh where
  | b | i | fn
  | st (l : Sh)
  | fc (off size : Nat) (h t : Sh)
  | ar (n size : Nat) (e : Sh)
def Sh.isA : Sh → Bool
  | .st _ => true
  | .ar _ _ _ => true
  | _ => false
def andO : Option Bool → Option Bool → Option Bool
  | some a, some b => some (a && b)
  | _, _ => none
/-- a part of a struct or array -/
def prt (ag : Bool) (off size : Nat) : Value → Option Value
  | .agg cs => bif ag then some (.agg ((cs.toList.drop off).take size).toArray) else nth cs.toList off
  | _ => none
def eqAr (f : Value → Value → Option Bool) (ag : Bool) (size : Nat) (x y : Value) : Nat → Nat → Option Bool
  | _, 0 => some true
  | i, n + 1 => match prt ag (i * size) size x, prt ag (i * size) size y with
    | some u, some v => andO (f u v) (eqAr f ag size x y (i + 1) n)
    | _, _ => none
def eqS : Sh → Value → Value → Option Bool
  | .b, .bool a, .bool b => some (a == b)
  | .i, .int k a, .int k' b => bif sameK k k' then some (a == b) else none
  | .st l, .agg xs, .agg ys => eqS l (.agg xs) (.agg ys)
  | .fn, _, _ => some true
  | .fc off size h t, x, y => match prt h.isA off size x, prt h.isA off size y with
    | some u, some v => andO (eqS h u v) (eqS t x y)
    | _, _ => none
  | .ar n size e, .agg xs, .agg ys => eqAr (fun u v => eqS e u v) e.isA size (.agg xs) (.agg ys) 0 n
  | _, _, _ => none
def szB (P : Program) (T size : Nat) : Bool := match P.info? T with
  | some i => Nat.beq i.size size
  | none => false
def isVal : Sh → Bool
  | .fn => false
  | .fc _ _ _ _ => false
  | _ => true
def okS (P : Program) : Sh → TypeId → List Field → Bool
  | .b, T, _ => match P.underlying T with
    | some .bool => true
    | _ => false
  | .i, T, _ => match P.underlying T with
    | some (.int _) => true
    | _ => false
  | .st l, T, _ => match P.underlying T with
    | some (.struct fs) => !P.stoodInHeld T && (okS P l 0 fs.toList && !isVal l)
    | _ => false
  | .fn, _, [] => true
  | .fc off size h t, _, f :: fs => f.name != "_" && (Nat.beq f.offset off && (okS P h f.type [] && (szB P f.type size && (okS P t 0 fs && (isVal h && !isVal t)))))
  | .ar n size e, T, _ => match P.underlying T with
    | some (.array m el) => Nat.beq n m && (okS P e el [] && (szB P el size && isVal e))
    | _ => false
  | _, _, _ => false
def dp : Sh → Nat
  | .b => 1
  | .i => 1
  | .fn => 0
  | .st l => dp l + 1
  | .fc _ _ h t => max (dp h) (dp t)
  | .ar _ _ e => dp e + 1
variable {P : Program} {w : World}
theorem szB_run {T size : Nat} (h : szB P T size = true) : (sizeOf T).run P w = .ok size w := by
  unfold szB at h
  split at h
  · rename_i i hi
    simp [Go.sizeOf, typeInfo, hi, Nat.eq_of_beq_eq_true h]
  · cases h
theorem isAgg_run {sh : Sh} {T : TypeId} (hv : isVal sh = true) (h : okS P sh T [] = true) : (isAgg T).run P w = .ok sh.isA w := by
  cases sh <;> simp only [okS] at h <;> try (simp [isVal] at hv; done)
  all_goals
    (split at h
     · rename_i hu; simp [isAgg, run_underlying hu, Sh.isA]
     · cases h)
theorem part_run {sh : Sh} {T : TypeId} {off size : Nat} {cs : Array Value} {u : Value} (hv : isVal sh = true) (h : okS P sh T [] = true) (hs : szB P T size = true) (hp : prt sh.isA off size (.agg cs) = some u) : (part T cs off).run P w = .ok u w := by
  unfold part
  simp only [Sem.run_bind, isAgg_run hv h, Result.andThen_ok]
  unfold prt at hp
  cases hA : sh.isA with
  | true =>
    rw [hA] at hp
    simp only [cond_true, Option.some.injEq] at hp
    subst hp
    simp only [if_true, Sem.run_bind, szB_run hs, Result.andThen_ok, Sem.run_pure]
    congr 2
    apply Array.ext'
    simp [List.take_drop, Nat.add_comm]
  | false =>
    rw [hA] at hp
    simp only [cond_false, nth_eq] at hp
    have : cs[off]? = some u := by simpa using hp
    simp [this]

def loopB : Option Bool × Unit → Bool
  | (some r, _) => r
  | (none, _) => true
/-- the loop over the fields -/
def FieldsRun (P : Program) (d : Nat) (xs ys : Array Value) (fs : List Field) (r : Bool) : Prop := ∀ w, ∃ z, (forIn (m := Sem) fs ((none, ()) : Option Bool × Unit) fun f __s =>
      if f.name ≠ "_" then do
        let __do_lift ← part f.type xs f.offset
        let __do_lift_1 ← part f.type ys f.offset
        let __do_lift ← Op.equalIn d f.type __do_lift __do_lift_1
        if (!__do_lift) = true then pure (ForInStep.done (some false, ())) else pure (ForInStep.yield (none, ()))
      else pure (ForInStep.yield (none, ()))).run P w = .ok z w ∧ loopB z = r
def ElemsRun (P : Program) (d : Nat) (e : TypeId) (size : Nat) (xs ys : Array Value) (is : List Nat) (r : Bool) : Prop := ∀ w, ∃ z, (forIn (m := Sem) is ((none, ()) : Option Bool × Unit) fun i __s => do
        let __do_lift ← part e xs (i * size)
        let __do_lift_1 ← part e ys (i * size)
        let __do_lift ← Op.equalIn d e __do_lift __do_lift_1
        if (!__do_lift) = true then pure (ForInStep.done (some false, ())) else pure (ForInStep.yield (none, ()))).run P w = .ok z w ∧ loopB z = r
theorem andO_some {a b : Option Bool} {r : Bool} (h : andO a b = some r) : ∃ x y, a = some x ∧ b = some y ∧ r = (x && y) := by
  cases a <;> cases b <;> simp [andO] at h
  exact ⟨_, _, rfl, rfl, h.symm⟩
theorem prt_agg {ag : Bool} {off size : Nat} {x u : Value} (h : prt ag off size x = some u) : ∃ cs, x = .agg cs := by
  cases x <;> simp [prt] at h
  exact ⟨_, rfl⟩
theorem elems_run {xs ys : Array Value} {d : Nat} {e : Sh} {el : TypeId} {size : Nat} (hv : isVal e = true) (hok : okS P e el [] = true) (hs : szB P el size = true)
    (H : ∀ x y r, eqS e x y = some r → ∀ w, (Op.equalIn d el x y).run P w = .ok r w) : ∀ (n i : Nat) (r : Bool), eqAr (fun u v => eqS e u v) e.isA size (.agg xs) (.agg ys) i n = some r → ElemsRun P d el size xs ys (List.range' i n) r := by
  intro n
  induction n with
  | zero =>
    intro i r he w
    simp [eqAr] at he
    subst he
    exact ⟨(none, ()), by simp, rfl⟩
  | succ n ih =>
    intro i r he w
    simp only [eqAr] at he
    cases hu : prt e.isA (i * size) size (.agg xs) with
    | none => rw [hu] at he; simp at he
    | some u =>
      cases hv2 : prt e.isA (i * size) size (.agg ys) with
      | none => rw [hu, hv2] at he; simp at he
      | some v =>
        rw [hu, hv2] at he
        simp only at he
        obtain ⟨a, b, ha, hb, rfl⟩ := andO_some he
        obtain ⟨z, hz, hzb⟩ := ih (i + 1) b hb w
        have p1 := part_run (w := w) hv hok hs hu
        have p2 := part_run (w := w) hv hok hs hv2
        have p3 := H u v a ha w
        rw [List.range'_succ]
        cases a with
        | true => exact ⟨z, by
            rw [List.forIn_cons]
            simp only [Sem.run_bind, p1, p2, p3, Result.andThen_ok, Bool.not_true, Bool.false_eq_true, if_false, Sem.run_pure]
            exact hz, by simp [hzb]⟩
        | false => exact ⟨(some false, ()), by simp [p1, p2, p3], rfl⟩
theorem eqS_run (sh : Sh) : (∀ T x y r d, isVal sh = true → dp sh ≤ d → okS P sh T [] = true → eqS sh x y = some r → ∀ w, (Op.equalIn d T x y).run P w = .ok r w) ∧
    (isVal sh = false → ∀ fs xs ys r d, dp sh ≤ d → okS P sh 0 fs = true → eqS sh (.agg xs) (.agg ys) = some r → FieldsRun P d xs ys fs r) := by
  induction sh with
  | b =>
    refine ⟨fun T x y r d _ hd hok he w => ?_, fun h => (by cases h)⟩
    obtain ⟨d, rfl⟩ : ∃ k, d = k + 1 := ⟨d - 1, by simp [dp] at hd; omega⟩
    simp only [okS] at hok
    split at hok
    · rename_i hu
      cases x <;> cases y <;> simp [eqS] at he
      subst he
      simp [Op.equalIn, run_underlying hu]
    · cases hok
  | i =>
    refine ⟨fun T x y r d _ hd hok he w => ?_, fun h => (by cases h)⟩
    obtain ⟨d, rfl⟩ : ∃ k, d = k + 1 := ⟨d - 1, by simp [dp] at hd; omega⟩
    simp only [okS] at hok
    split at hok
    · rename_i hu
      cases x <;> cases y <;> simp only [eqS] at he <;> first | (cases he; done) | skip
      rename_i k a k' b
      cases hk : sameK k k' with
      | false => rw [hk] at he; cases he
      | true =>
        rw [hk] at he
        simp only [cond_true, Option.some.injEq] at he
        subst he
        obtain rfl := sameK_eq hk
        simp [Op.equalIn, run_underlying hu]
    · cases hok
  | fn =>
    refine ⟨fun T x y r d h => (by cases h), fun _ fs xs ys r d _ hok he w => ?_⟩
    cases fs with
    | nil =>
      simp [eqS] at he
      subst he
      exact ⟨(none, ()), by simp, rfl⟩
    | cons f fs => simp [okS] at hok
  | st l ih =>
    refine ⟨fun T x y r d _ hd hok he w => ?_, fun h => (by cases h)⟩
    obtain ⟨d, rfl⟩ : ∃ k, d = k + 1 := ⟨d - 1, by simp [dp] at hd; omega⟩
    simp only [okS] at hok
    split at hok
    · rename_i fs hu
      simp only [Bool.and_eq_true, Bool.not_eq_true'] at hok
      obtain ⟨hst, hok, hl⟩ := hok
      cases x <;> cases y <;> simp only [eqS] at he <;> first | (cases he; done) | skip
      rename_i xs ys
      obtain ⟨z, hz, hzb⟩ := ih.2 hl fs.toList xs ys r d (by simp [dp] at hd; omega) hok he w
      simp only [Op.equalIn, Sem.run_bind, run_underlying hu, Result.andThen_ok, run_program, hst, Bool.false_eq_true, if_false]
      rw [← Array.forIn_toList, hz]
      simp only [Result.andThen_ok]
      obtain ⟨o, u⟩ := z
      cases o <;> simp [loopB] at hzb ⊢ <;> exact hzb
    · cases hok
  | fc off size h t ihh iht =>
    refine ⟨fun T x y r d h => (by cases h), fun _ fs xs ys r d hd hok he w => ?_⟩
    cases fs with
    | nil => simp [okS] at hok
    | cons f fs =>
      simp only [okS, Bool.and_eq_true, bne_iff_ne, ne_eq, Bool.not_eq_true'] at hok
      obtain ⟨h1, h2, h3, h4, h5, h6, h7⟩ := hok
      have hoff := Nat.eq_of_beq_eq_true h2
      simp only [eqS] at he
      cases hu : prt h.isA off size (.agg xs) with
      | none => rw [hu] at he; simp at he
      | some u =>
        cases hv2 : prt h.isA off size (.agg ys) with
        | none => rw [hu, hv2] at he; simp at he
        | some v =>
          rw [hu, hv2] at he
          simp only at he
          obtain ⟨a, b, ha, hb, rfl⟩ := andO_some he
          simp only [dp] at hd
          obtain ⟨z, hz, hzb⟩ := iht.2 h7 fs xs ys b d (by omega) h5 hb w
          rw [← hoff] at hu hv2
          have p1 := part_run (w := w) h6 h3 h4 hu
          have p2 := part_run (w := w) h6 h3 h4 hv2
          have p3 := ihh.1 f.type u v a d h6 (by omega) h3 ha w
          cases a with
          | true => exact ⟨z, by
              rw [List.forIn_cons, if_pos h1]
              simp only [Sem.run_bind, p1, p2, p3, Result.andThen_ok, Bool.not_true, Bool.false_eq_true, if_false, Sem.run_pure]
              exact hz, by simp [hzb]⟩
          | false => exact ⟨(some false, ()), by simp [h1, p1, p2, p3], rfl⟩
  | ar n size e ih =>
    refine ⟨fun T x y r d _ hd hok he w => ?_, fun h => (by cases h)⟩
    obtain ⟨d, rfl⟩ : ∃ k, d = k + 1 := ⟨d - 1, by simp [dp] at hd; omega⟩
    simp only [okS] at hok
    split at hok
    · rename_i m el hu
      simp only [Bool.and_eq_true] at hok
      obtain ⟨hn, hok, hsz, hv⟩ := hok
      have hn := Nat.eq_of_beq_eq_true hn
      subst hn
      cases x <;> cases y <;> simp only [eqS] at he <;> first | (cases he; done) | skip
      rename_i xs ys
      obtain ⟨z, hz, hzb⟩ := elems_run (xs := xs) (ys := ys) (d := d) hv hok hsz (fun x y r he w => ih.1 el x y r d hv (by simp [dp] at hd; omega) hok he w) n 0 r he w
      simp only [Op.equalIn, Sem.run_bind, run_underlying hu, Result.andThen_ok, szB_run hsz]
      rw [Std.Legacy.Range.forIn_eq_forIn_range']
      simp only [Std.Legacy.Range.size, Nat.sub_zero, Nat.add_sub_cancel, Nat.div_one]
      rw [hz]
      simp only [Result.andThen_ok]
      obtain ⟨o, u⟩ := z
      cases o <;> simp [loopB] at hzb ⊢ <;> exact hzb
    · cases hok

variable {N : Nat} {E : Env} {D : List Deferred} {G : Guards} {S : World → Prop} {x y : Operand} {T T' : TypeId} {u v : Value}
theorem equal_run (sh : Sh) {r : Bool} (hd : Nat.ble (dp sh) 100 = true) (hv : isVal sh = true) (hok : okS P sh T [] = true) (he : eqS sh u v = some r) : (Op.equal T u v).run P w = .ok r w :=
  (eqS_run sh).1 T u v r Op.maxDepth hv (Nat.le_trans (Nat.le_of_ble_eq_true hd) (by decide)) hok he w
theorem eqGuard_agg {op : BinOp} {xs ys : Array Value} (hg : P.eqGuardType P.depth T = false) : (eqGuard op T x y (.agg xs) (.agg ys)).run P w = .ok () w := by
  unfold eqGuard
  cases op <;> simp [run_program, hg]
theorem Yd.eqA (sh : Sh) {xs ys : Array Value} {r : Bool} (hx : ev E G x = some (.agg xs)) (hy : ev E G y = some (.agg ys)) (hd : Nat.ble (dp sh) 100 = true) (hv : isVal sh = true) (hok : okS P sh T [] = true) (hg : P.eqGuardType P.depth T = false) (he : eqS sh (.agg xs) (.agg ys) = some r) : Yd P N D S E G (.binOp .eql T x y T') (.bool r) :=
  Yd.bin hx hy fun _ w => by
    rw [Sem.run_bind, eqGuard_agg hg]
    simp [binOp, equal_run sh hd hv hok he]
theorem Yd.neA (sh : Sh) {xs ys : Array Value} {r : Bool} (hx : ev E G x = some (.agg xs)) (hy : ev E G y = some (.agg ys)) (hd : Nat.ble (dp sh) 100 = true) (hv : isVal sh = true) (hok : okS P sh T [] = true) (hg : P.eqGuardType P.depth T = false) (he : eqS sh (.agg xs) (.agg ys) = some r) : Yd P N D S E G (.binOp .neq T x y T') (.bool (!r)) :=
  Yd.bin hx hy fun _ w => by
    rw [Sem.run_bind, eqGuard_agg hg]
    simp [binOp, equal_run sh hd hv hok he]
/-- a function value is not nil -/
theorem Yd.fnNil {f : Fn} {a b : Array Value} {ps rs : Array TypeId} {vd : Bool} (hx : ev E G x = some (.func f a b)) (hy : ev E G y = some .nilFunc) (ht : P.underlying T = some (.func ps rs vd)) : Yd P N D S E G (.binOp .eql T x y T') (.bool false) :=
  Yd.bin hx hy fun _ w => by
    have : eqGuard .eql T x y (.func f a b) .nilFunc = Pure.pure () := rfl
    rw [this]
    have h : ∀ q, (Op.equalIn (q + 1) T (.func f a b) .nilFunc).run P w = .ok false w := fun q => by simp [Op.equalIn, run_underlying ht]
    simp only [binOp]
    simp [Op.equal, Op.maxDepth, h 9999]

/-! ## a struct stored in a part of a block or of a row -/
theorem putL_cons : ∀ (n : Nat) (v : Value) (vs l : List Value), n < l.length → putL n (v :: vs) l = putL (n + 1) vs (l.set n v)
  | 0, v, vs, [], h => by simp at h
  | 0, v, vs, x :: l, _ => by simp [putL]
  | n + 1, v, vs, [], h => by simp at h
  | n + 1, v, vs, x :: l, h => by
    simp only [putL, List.set_cons_succ]
    rw [putL_cons n v vs l (by simpa using h)]
theorem putL_nil : ∀ (n : Nat) (l : List Value), putL n [] l = l
  | 0, [] => rfl
  | 0, _ :: _ => rfl
  | _ + 1, [] => rfl
  | n + 1, x :: l => by simp [putL, putL_nil n l]
theorem putL_length : ∀ (n : Nat) (vs l : List Value), n + vs.length ≤ l.length → (putL n vs l).length = l.length
  | n, [], l, _ => by rw [putL_nil]
  | n, v :: vs, l, h => by
    simp only [List.length_cons] at h
    rw [putL_cons n v vs l (by omega), putL_length (n + 1) vs _ (by simp; omega), List.length_set]
/-- what is put in place by place -/
theorem putL_eq : ∀ (n : Nat) (vs l : List Value), n + vs.length ≤ l.length → putL n vs l = l.take n ++ vs ++ l.drop (n + vs.length)
  | n, [], l, _ => by rw [putL_nil]; simp
  | n, v :: vs, l, h => by
    simp only [List.length_cons] at h
    rw [putL_cons n v vs l (by omega), putL_eq (n + 1) vs _ (by simp; omega)]
    rw [List.take_set, List.drop_set_of_lt (by omega), List.take_add_one, List.getElem?_eq_getElem (by omega)]
    rw [List.set_append_right _ _ (by simp; omega)]
    simp only [List.length_take, Nat.min_eq_left (show n ≤ l.length by omega), Nat.sub_self, Option.toList, List.set_cons_zero, List.length_cons]
    simp [Nat.add_assoc, Nat.add_comm 1]
variable {M : List Nat} {L : List SX.Ent} {w0 : World}
theorem storeCells_blk {g T' o j : Nat} : ∀ (vs : List Value) (i : Nat) (w : World) (L : List SX.Ent) (cs : List Value), SX.St w0 M w L → L[j]? = some (SX.Ent.blk g T' cs.toArray) → (∀ u ∈ vs, u.oneCell' = true) → o + i + vs.length ≤ cs.length →
    ∃ w', (storeCells ⟨g, o, none⟩ vs i).run P w = .ok () w' ∧ SX.St w0 M w' (L.set j (SX.Ent.blk g T' (putL (o + i) vs cs).toArray))
  | [], i, w, L, cs, hs, hj, _, _ => ⟨w, by simp [storeCells], by
      rw [putL_nil]
      have hjl := (List.getElem?_eq_some_iff.1 hj)
      obtain ⟨h1, h2⟩ := hjl
      rw [← h2, List.set_getElem_self]
      exact hs⟩
  | v :: vs, i, w, L, cs, hs, hj, h1, hl => by
    simp only [List.length_cons] at hl
    have hjl := (List.getElem?_eq_some_iff.1 hj).1
    have hc : w.cell? ⟨g, o + i, none⟩ = some (cs[o + i]'(by omega)) := (SX.cell_blk (hs.blk hj) (o + i)).trans (by simp)
    have hf : w.frozen? ⟨g, o + i, none⟩ = false := SX.frozen_blk (hs.blk hj) (o + i)
    have hs2 := hs.set (i := o + i) hj v
    rw [List.setIfInBounds_toArray] at hs2
    obtain ⟨w', hrun, hs3⟩ := storeCells_blk (g := g) (T' := T') (o := o) (j := j) vs (i + 1) _ _ (cs.set (o + i) v) hs2 (by simp [hjl]) (fun u hu => h1 u (by simp [hu])) (by simp; omega)
    refine ⟨w', ?_, ?_⟩
    · simp only [storeCells, add_none, Sem.run_bind, run_store P w ⟨g, o + i, none⟩ v _ (h1 v (by simp)), hc, hf]
      simpa using hrun
    · rw [List.set_set] at hs3
      rw [putL_cons _ _ _ _ (by omega)]
      exact hs3
theorem storeCells_row {g T' o j kk cc size m : Nat} : ∀ (vs : List Value) (i : Nat) (w : World) (L : List SX.Ent) (cs : List Value), SX.St w0 M w L → L[j]? = some (SX.Ent.row (.slice (some ⟨g, 0, none⟩) kk cc) T' size m cs) → (∀ u ∈ vs, u.oneCell' = true) → o + i + vs.length ≤ cs.length →
    ∃ w', (storeCells ⟨g, o, none⟩ vs i).run P w = .ok () w' ∧ SX.St w0 M w' (L.set j (SX.Ent.row (.slice (some ⟨g, 0, none⟩) kk cc) T' size m (putL (o + i) vs cs)))
  | [], i, w, L, cs, hs, hj, _, _ => ⟨w, by simp [storeCells], by
      rw [putL_nil]
      have hjl := (List.getElem?_eq_some_iff.1 hj)
      obtain ⟨h1, h2⟩ := hjl
      rw [← h2, List.set_getElem_self]
      exact hs⟩
  | v :: vs, i, w, L, cs, hs, hj, h1, hl => by
    simp only [List.length_cons] at hl
    have hjl := (List.getElem?_eq_some_iff.1 hj).1
    have hc : w.cell? ⟨g, o + i, none⟩ = some (cs[o + i]'(by omega)) := SX.row_cell hs hj (by simp)
    have hf : w.frozen? ⟨g, o + i, none⟩ = false := SX.row_frozen hs hj
    have hs2 := SX.row_set (i := o + i) hs hj v
    obtain ⟨w', hrun, hs3⟩ := storeCells_row (g := g) (T' := T') (o := o) (j := j) (kk := kk) (cc := cc) (size := size) (m := m) vs (i + 1) _ _ (cs.set (o + i) v) hs2 (by simp [hjl]) (fun u hu => h1 u (by simp [hu])) (by simp; omega)
    refine ⟨w', ?_, ?_⟩
    · simp only [storeCells, add_none, Sem.run_bind, run_store P w ⟨g, o + i, none⟩ v _ (h1 v (by simp)), hc, hf]
      simpa using hrun
    · rw [List.set_set] at hs3
      rw [putL_cons _ _ _ _ (by omega)]
      exact hs3
theorem storeVar_run {a : Addr} {vs : List Value} {w' : World} (hsz : (P.info? T).map (·.size) = some vs.length) (h : (storeCells a vs 0).run P w = .ok () w') : (storeVar T a (.agg vs.toArray)).run P w = .ok () w' := by
  cases hq : P.info? T with
  | none => simp [hq] at hsz
  | some i =>
    have hi : i.size = vs.length := by simpa [hq] using hsz
    simp [storeVar, Go.sizeOf, typeInfo, hq, hi, Value.cells, h]
variable {F : Fence} {n : Nat} {o : Oper} {K : Act → World → Prop} {Q : Exit → Act → World → Prop}
theorem ZO.storeP [Wide F] {g off j : Nat} {cs vs : List Value} (ho : o.op = .store T x y) (hd : o.dst = none) (hs : SX.St w0 M w L)
    (hx : ev E [] x = some (.pointer (some ⟨g, off, none⟩))) (hy : ev E [] y = some (.agg vs.toArray)) (hsz : (P.info? T).map (·.size) = some vs.length) (h1 : (vs.toArray).all (·.oneCell') = true) (hj : L[j]? = some (SX.Ent.blk g T' cs.toArray)) (hi : off + vs.length ≤ cs.length)
    (h : ∀ w', SX.St w0 M w' (L.set j (SX.Ent.blk g T' (putL off vs cs).toArray)) → Z N E D K w') : ZO F n P N E D o K Q w := by
  obtain ⟨w', hrun, hs'⟩ := storeCells_blk (P := P) (o := off) vs 0 w L cs hs hj (fun u hu => by rw [List.all_toArray] at h1; exact List.all_eq_true.1 h1 u hu) (by omega)
  exact ZO.unit (by intro c e; rw [ho] at e; cases e) hd (fun a ha => by simp [execOp, ho, ev0 ha hx, ev0 ha hy, Instr.storeAt, Instr.sureAddr, storeVar_run hsz hrun]) (h w' hs')
theorem ZO.storePR [Wide F] {g off j kk cc size m : Nat} {cs vs : List Value} (ho : o.op = .store T x y) (hd : o.dst = none) (hs : SX.St w0 M w L)
    (hx : ev E [] x = some (.pointer (some ⟨g, off, none⟩))) (hy : ev E [] y = some (.agg vs.toArray)) (hsz : (P.info? T).map (·.size) = some vs.length) (h1 : (vs.toArray).all (·.oneCell') = true) (hj : L[j]? = some (SX.Ent.row (.slice (some ⟨g, 0, none⟩) kk cc) T' size m cs)) (hi : off + vs.length ≤ cs.length)
    (h : ∀ w', SX.St w0 M w' (L.set j (SX.Ent.row (.slice (some ⟨g, 0, none⟩) kk cc) T' size m (putL off vs cs))) → Z N E D K w') : ZO F n P N E D o K Q w := by
  obtain ⟨w', hrun, hs'⟩ := storeCells_row (P := P) (o := off) vs 0 w L cs hs hj (fun u hu => by rw [List.all_toArray] at h1; exact List.all_eq_true.1 h1 u hu) (by omega)
  exact ZO.unit (by intro c e; rw [ho] at e; cases e) hd (fun a ha => by simp [execOp, ho, ev0 ha hx, ev0 ha hy, Instr.storeAt, Instr.sureAddr, storeVar_run hsz hrun]) (h w' hs')
end Z
end Go.Proofs.Yteabcdmgklhijaa

/- Control elements: the document's decoders. -/
namespace Go.Proofs.Yteabcdmgklhijaa
open Go.RowKit
set_option linter.unusedSimpArgs false
set_option linter.unusedVariables false
--newlaws

def szE (l : List Int) (n : Int) : Int := if (l.length : Int) < n then 5 else if (l.length : Int) > n then 4 else 0
theorem rsize24 (lc n : Int) (A : Option Addr) (m c : Nat) (l : List Int) (w : World) (hl : l.length = m) :
    Calls Try.prog 52 #[.agg #[.int .i64 lc, .slice A m c], .int .i64 n] w (SX.Ret fun v w' => v = .int .i64 (szE l n) ∧ SX.St w [] w' []) := by
  have hs := SX.St.start w
  have h1 : szE l n = if (m : Int) < n then 5 else if (m : Int) > n then 4 else 0 := by rw [← hl]; rfl
  refine Z.enter Try.func52 rfl Try.ntmps52 rfl rfl ?_
  refine Z.seq ?_
  refine Z.region ?_
  refine Z.le rfl trivial ?_
  refine Z.ZO.box rfl rfl (by rfl) rfl rfl hs ?_
  clear hs; intro g2 w2 hs
  refine Z.lb 1 rfl ?_
  refine Z.lnil ?_
  refine Z.only [1, 2] rfl ?_
  refine Z.nthen ?_
  refine Z.seq ?_
  refine Z.seq ?_
  refine Z.region ?_
  refine Z.l rfl rfl (by rfl) (Z.keepS hs) (Z.Yd.fieldA (m := 1) rfl (by kernel_rfl)) ?_
  refine Z.l rfl rfl (by rfl) (Z.keepS hs) (by first | exact Z.Yd.load rfl Try.isAgg29 (fun _ => Z.cellB (by first | ((repeat (first | exact List.mem_cons_self | refine List.mem_cons_of_mem _ ?_ | refine List.mem_append_right _ ?_)); done) | fail) rfl) | exact Z.Yd.load rfl Try.isAgg29 (fun _ => Z.cellO (by assumption) (by simp) (by assumption)) | fail "load 1.1") ?_
  refine Z.l rfl rfl (by rfl) (Z.keepS hs) (Z.Yd.lenS rfl Try.underlying29) ?_
  refine Z.lb 2 rfl ?_
  refine Z.lnil ?_
  refine Z.only [1, 2, 9] rfl ?_
  refine Z.nthen ?_
  refine Z.cond rfl (fun hc1 => ?_) (fun hc1 => ?_)
  · first
      | (exfalso; simp at hc1 <;> omega)
      | (
        (try simp at hc1)
        refine Z.seq ?_
        refine Z.region ?_
        refine Z.lb 1 rfl ?_
        refine Z.lnil ?_
        refine Z.only [4] rfl ?_
        refine Z.nthen ?_
        refine Z.ret ?_
        repeat (first | refine Z.rthen ?_ | refine Z.rblock ?_ | refine Z.rscope ?_)
        -- ret#0
        refine Z.out1 (by exact ⟨rfl, trivial⟩) ?_
        exact ⟨_, rfl, by rw [h1]; simp_all, hs.sub (List.nil_sublist _)⟩
        )
  · first
      | (exfalso; simp at hc1 <;> omega)
      | (
        (try simp at hc1)
        refine Z.skip ?_
        refine Z.nthen ?_
        refine Z.seq ?_
        refine Z.seq ?_
        refine Z.region ?_
        refine Z.l rfl rfl (by rfl) (Z.keepS hs) (Z.Yd.fieldA (m := 1) rfl (by kernel_rfl)) ?_
        refine Z.l rfl rfl (by rfl) (Z.keepS hs) (by first | exact Z.Yd.load rfl Try.isAgg29 (fun _ => Z.cellB (by first | ((repeat (first | exact List.mem_cons_self | refine List.mem_cons_of_mem _ ?_ | refine List.mem_append_right _ ?_)); done) | fail) rfl) | exact Z.Yd.load rfl Try.isAgg29 (fun _ => Z.cellO (by assumption) (by simp) (by assumption)) | fail "load 3.1") ?_
        refine Z.l rfl rfl (by rfl) (Z.keepS hs) (Z.Yd.lenS rfl Try.underlying29) ?_
        refine Z.lb 2 rfl ?_
        refine Z.lnil ?_
        refine Z.only [14] rfl ?_
        refine Z.nthen ?_
        refine Z.cond rfl (fun hc3 => ?_) (fun hc3 => ?_)
        · first
            | (exfalso; simp at hc3 <;> omega)
            | (
              (try simp at hc3)
              refine Z.seq ?_
              refine Z.region ?_
              refine Z.lb 1 rfl ?_
              refine Z.lnil ?_
              refine Z.only [4] rfl ?_
              refine Z.nthen ?_
              refine Z.ret ?_
              repeat (first | refine Z.rthen ?_ | refine Z.rblock ?_ | refine Z.rscope ?_)
              -- ret#1
              refine Z.out1 (by exact ⟨rfl, trivial⟩) ?_
              exact ⟨_, rfl, by rw [h1]; simp_all <;> omega, hs.sub (List.nil_sublist _)⟩
              )
        · first
            | (exfalso; simp at hc3 <;> omega)
            | (
              (try simp at hc3)
              refine Z.skip ?_
              refine Z.nthen ?_
              refine Z.seq ?_
              refine Z.region ?_
              refine Z.lb 1 rfl ?_
              refine Z.lnil ?_
              refine Z.only [4] rfl ?_
              refine Z.nthen ?_
              refine Z.ret ?_
              -- ret#2
              refine Z.out1 (by exact ⟨rfl, trivial⟩) ?_
              exact ⟨_, rfl, by rw [h1]; simp_all <;> omega, hs.sub (List.nil_sublist _)⟩
              )
        )
theorem opE_sz (lc : Int) (l : List Int) (n : Int) : opE lc l lc n = szE l n := by simp [opE, szE]
theorem szE_len {l : List Int} {n : Int} (h : szE l n = 0) : (l.length : Int) = n := by
  unfold szE at h
  split at h
  · simp at h
  split at h
  · simp at h
  omega
theorem rdecpow24 (lc : Int) (A : Option Addr) (m c : Nat) (l : List Int) (w : World) (hx : Sl w A (ints .u8 l)) (hl : l.length = m) (hm : m ≤ 1000000) (hb : Byts l) :
    Calls Try.prog 27 #[.agg #[.int .i64 lc, .slice A m c]] w (SX.Ret fun v w' => v = .tuple #[.int .i64 (powV lc l), .int .i64 (powE lc l)] ∧ SX.St w [] w' []) := by
  have hs := SX.St.start w
  by_cases h26 : lc = 26
  · subst h26
    by_cases hz : szE l 1 = 0
    · have hl1 := szE_len hz
      obtain ⟨h0, h256, hl2⟩ := one_byte hb (by omega)
      have eE : powE 26 l = if num l / 64 ≠ 0 then 9 else 0 := by unfold powE; rw [opE_sz, hz, if_neg (by simp)]
      have eV : powV 26 l = if num l / 64 ≠ 0 then 0 else num l := by unfold powV; rw [eE]; by_cases h9 : num l / 64 ≠ 0 <;> simp [h9]
      have he : elt l 0 = num l := by
        obtain ⟨x, rfl⟩ := list1 (l := l) (by omega)
        simp [elt, num]
      obtain ⟨bb, off, rfl, hbb, hx⟩ := Z.Sl.some hx (by simp [ints]; omega)
      refine Z.enter Try.func27 rfl Try.ntmps27 rfl rfl ?_
      refine Z.seq ?_
      refine Z.region ?_
      refine Z.le rfl trivial ?_
      refine Z.ZO.box rfl rfl (by rfl) rfl rfl hs ?_
      clear hs; intro g1 w1 hs
      refine Z.lb 2 rfl ?_
      refine Z.lnil ?_
      refine Z.only [1] rfl ?_
      refine Z.nthen ?_
      refine Z.seq ?_
      refine Z.seq ?_
      refine Z.region ?_
      refine Z.l rfl rfl (by rfl) (Z.keepS hs) (Z.Yd.fieldA (m := 0) rfl (by kernel_rfl)) ?_
      refine Z.l rfl rfl (by rfl) (Z.keepS hs) (by first | exact Z.Yd.load rfl Try.isAgg3 (fun _ => Z.cellB (by first | ((repeat (first | exact List.mem_cons_self | refine List.mem_cons_of_mem _ ?_ | refine List.mem_append_right _ ?_)); done) | fail) rfl) | exact Z.Yd.load rfl Try.isAgg3 (fun _ => Z.cellO (by assumption) (by simp) (by assumption)) | fail "load 1.1") ?_
      refine Z.lb 1 rfl ?_
      refine Z.lnil ?_
      refine Z.only [1, 7] rfl ?_
      refine Z.nthen ?_
      refine Z.cond rfl (fun hc1 => ?_) (fun hc1 => ?_)
      · first
          | (exfalso; simp at hc1 <;> omega)
          | (
            (try simp at hc1)
            refine Z.seq ?_
            refine Z.region ?_
            refine Z.lb 2 rfl ?_
            refine Z.lnil ?_
            refine Z.only [2, 3] rfl ?_
            refine Z.nthen ?_
            refine Z.ret ?_
            repeat (first | refine Z.rthen ?_ | refine Z.rblock ?_ | refine Z.rscope ?_)
            -- ret#0
            refine Z.out2 (by exact ⟨rfl, rfl, trivial⟩) ?_
            first | exact ⟨_, rfl, rfl, hs⟩ | exact ⟨_, rfl, rfl, hs.sub (List.nil_sublist _)⟩
            )
      · first
          | (exfalso; simp at hc1 <;> omega)
          | (
            (try simp at hc1)
            refine Z.skip ?_
            refine Z.nthen ?_
            refine Z.seq ?_
            refine Z.seq ?_
            refine Z.region ?_
            refine Z.l rfl rfl (by rfl) (Z.keepS hs) (by first | exact Z.Yd.loadA _ rfl Try.isAgg31 (fun _ => Z.cellsB (by first | ((repeat (first | exact List.mem_cons_self | refine List.mem_cons_of_mem _ ?_ | refine List.mem_append_right _ ?_)); done) | fail)) (by exact Try.sizeOf31) | fail "load 3.0") ?_
            refine Z.le rfl trivial ?_
            refine Z.ZO.call rfl rfl (by rfl) rfl rfl Try.call52 rfl (rsize24 26 1 _ m c l _ hl) ?_
            rintro v3_1 w3_1 ⟨rfl, hy⟩
            replace hs := hs.call hy
            clear hy
            try simp only [List.cons_append, List.nil_append, List.append_nil] at hs
            refine Z.lb 1 rfl ?_
            refine Z.lnil ?_
            refine Z.only [1, 4] rfl ?_
            refine Z.nthen ?_
            refine Z.seq ?_
            refine Z.region ?_
            refine Z.lb 2 rfl ?_
            refine Z.lnil ?_
            refine Z.only [1, 4, 11] rfl ?_
            refine Z.nthen ?_
            refine Z.cond rfl (fun h => absurd h (by simp [hz])) (fun hc4 => ?_)
            refine Z.skip ?_
            refine Z.nthen ?_
            refine Z.seq ?_
            refine Z.seq ?_
            refine Z.region ?_
            refine Z.l rfl rfl (by rfl) (Z.keepS hs) (Z.Yd.fieldA (m := 1) rfl (by kernel_rfl)) ?_
            refine Z.l rfl rfl (by rfl) (Z.keepS hs) (by first | exact Z.Yd.load rfl Try.isAgg29 (fun _ => Z.cellB (by first | ((repeat (first | exact List.mem_cons_self | refine List.mem_cons_of_mem _ ?_ | refine List.mem_append_right _ ?_)); done) | fail) rfl) | exact Z.Yd.load rfl Try.isAgg29 (fun _ => Z.cellO (by assumption) (by simp) (by assumption)) | fail "load 6.1") ?_
            refine Z.l rfl rfl (by rfl) (Z.keepS hs) (Z.Yd.elem rfl rfl Try.underlying29 Try.sizeOf5 (fun hG => ⟨(by first | omega | (have hG' := Z.gh rfl hG; simp at hG'; omega)), (by first | omega | (have hG' := Z.gh rfl hG; simp at hG'; omega))⟩)) ?_
            refine Z.l rfl rfl (by rfl) (Z.keepS hs) (by first | exact Z.Yd.load rfl Try.isAgg5 (fun _ => Z.cellB (by first | ((repeat (first | exact List.mem_cons_self | refine List.mem_cons_of_mem _ ?_ | refine List.mem_append_right _ ?_)); done) | fail) rfl) | exact Z.Yd.load rfl Try.isAgg5 (fun hG => Z.cellR (by first | ((repeat (first | exact List.mem_cons_self | refine List.mem_cons_of_mem _ ?_ | refine List.mem_append_right _ ?_)); done) | fail) (Z.ints_at (by first | omega | (have hG' := Z.gh rfl hG; simp at hG'; omega)) (by first | omega | (have hG' := Z.gh rfl hG; simp at hG'; omega)))) | exact Z.Yd.load rfl Try.isAgg5 (fun hG => Z.cellXi (by assumption) (by first | omega | (have hG' := Z.gh rfl hG; simp at hG'; omega)) (by first | omega | (have hG' := Z.gh rfl hG; simp at hG'; omega))) | exact Z.Yd.load rfl Try.isAgg5 (fun hG => Z.cellS (by assumption) rfl (by first | omega | (have hG' := Z.gh rfl hG; simp at hG'; omega)) (by first | omega | (have hG' := Z.gh rfl hG; simp at hG'; omega))) | fail "load 6.3") ?_
            refine Z.lb 1 rfl ?_
            refine Z.lnil ?_
            refine Z.only [1, 17] rfl ?_
            refine Z.nthen ?_
            refine Z.cond rfl (fun hc6 => ?_) (fun hc6 => ?_)
            · first
                | (exfalso; simp at hc6 <;> omega)
                | (
                  (try simp at hc6)
                  refine Z.seq ?_
                  refine Z.region ?_
                  refine Z.lb 2 rfl ?_
                  refine Z.lnil ?_
                  refine Z.only [2, 3] rfl ?_
                  refine Z.nthen ?_
                  refine Z.ret ?_
                  repeat (first | refine Z.rthen ?_ | refine Z.rblock ?_ | refine Z.rscope ?_)
                  -- ret#1
                  refine Z.out2 (by exact ⟨rfl, rfl, trivial⟩) ?_
                  exact ⟨_, rfl, by rw [eE, eV, if_pos (by omega), if_pos (by omega)], hs.sub (List.nil_sublist _)⟩
                  )
            · first
                | (exfalso; simp at hc6 <;> omega)
                | (
                  (try simp at hc6)
                  refine Z.skip ?_
                  refine Z.nthen ?_
                  refine Z.seq ?_
                  refine Z.region ?_
                  refine Z.l rfl rfl (by rfl) (Z.keepS hs) (Z.Yd.fieldA (m := 1) rfl (by kernel_rfl)) ?_
                  refine Z.l rfl rfl (by rfl) (Z.keepS hs) (by first | exact Z.Yd.load rfl Try.isAgg29 (fun _ => Z.cellB (by first | ((repeat (first | exact List.mem_cons_self | refine List.mem_cons_of_mem _ ?_ | refine List.mem_append_right _ ?_)); done) | fail) rfl) | exact Z.Yd.load rfl Try.isAgg29 (fun _ => Z.cellO (by assumption) (by simp) (by assumption)) | fail "load 8.1") ?_
                  refine Z.l rfl rfl (by rfl) (Z.keepS hs) (Z.Yd.elem rfl rfl Try.underlying29 Try.sizeOf5 (fun hG => ⟨(by first | omega | (have hG' := Z.gh rfl hG; simp at hG'; omega)), (by first | omega | (have hG' := Z.gh rfl hG; simp at hG'; omega))⟩)) ?_
                  refine Z.l rfl rfl (by rfl) (Z.keepS hs) (by first | exact Z.Yd.load rfl Try.isAgg5 (fun _ => Z.cellB (by first | ((repeat (first | exact List.mem_cons_self | refine List.mem_cons_of_mem _ ?_ | refine List.mem_append_right _ ?_)); done) | fail) rfl) | exact Z.Yd.load rfl Try.isAgg5 (fun hG => Z.cellR (by first | ((repeat (first | exact List.mem_cons_self | refine List.mem_cons_of_mem _ ?_ | refine List.mem_append_right _ ?_)); done) | fail) (Z.ints_at (by first | omega | (have hG' := Z.gh rfl hG; simp at hG'; omega)) (by first | omega | (have hG' := Z.gh rfl hG; simp at hG'; omega)))) | exact Z.Yd.load rfl Try.isAgg5 (fun hG => Z.cellXi (by assumption) (by first | omega | (have hG' := Z.gh rfl hG; simp at hG'; omega)) (by first | omega | (have hG' := Z.gh rfl hG; simp at hG'; omega))) | exact Z.Yd.load rfl Try.isAgg5 (fun hG => Z.cellS (by assumption) rfl (by first | omega | (have hG' := Z.gh rfl hG; simp at hG'; omega)) (by first | omega | (have hG' := Z.gh rfl hG; simp at hG'; omega))) | fail "load 8.3") ?_
                  refine Z.l rfl rfl (by rfl) (Z.keepS hs) (Z.Yd.convI rfl ⟨_, Try.underlying5⟩ Try.underlying3 (fun hG => Z.wi64 (by first | omega | (have hG' := Z.gh rfl hG; simp at hG'; omega)))) ?_
                  refine Z.lb 2 rfl ?_
                  refine Z.lnil ?_
                  refine Z.only [2, 3] rfl ?_
                  refine Z.nthen ?_
                  refine Z.ret ?_
                  -- ret#2
                  refine Z.out2 (by exact ⟨rfl, rfl, trivial⟩) ?_
                  exact ⟨_, rfl, by rw [eE, eV, if_neg (by omega), if_neg (by omega), he], hs.sub (List.nil_sublist _)⟩
                  )
            )
    · have eE : powE 26 l = szE l 1 := by unfold powE; rw [opE_sz, if_pos hz]
      have eV : powV 26 l = 0 := by unfold powV; rw [eE, if_neg hz]
      rw [eE, eV]
      refine Z.enter Try.func27 rfl Try.ntmps27 rfl rfl ?_
      refine Z.seq ?_
      refine Z.region ?_
      refine Z.le rfl trivial ?_
      refine Z.ZO.box rfl rfl (by rfl) rfl rfl hs ?_
      clear hs; intro g1 w1 hs
      refine Z.lb 2 rfl ?_
      refine Z.lnil ?_
      refine Z.only [1] rfl ?_
      refine Z.nthen ?_
      refine Z.seq ?_
      refine Z.seq ?_
      refine Z.region ?_
      refine Z.l rfl rfl (by rfl) (Z.keepS hs) (Z.Yd.fieldA (m := 0) rfl (by kernel_rfl)) ?_
      refine Z.l rfl rfl (by rfl) (Z.keepS hs) (by first | exact Z.Yd.load rfl Try.isAgg3 (fun _ => Z.cellB (by first | ((repeat (first | exact List.mem_cons_self | refine List.mem_cons_of_mem _ ?_ | refine List.mem_append_right _ ?_)); done) | fail) rfl) | exact Z.Yd.load rfl Try.isAgg3 (fun _ => Z.cellO (by assumption) (by simp) (by assumption)) | fail "load 1.1") ?_
      refine Z.lb 1 rfl ?_
      refine Z.lnil ?_
      refine Z.only [1, 7] rfl ?_
      refine Z.nthen ?_
      refine Z.cond rfl (fun hc1 => ?_) (fun hc1 => ?_)
      · first
          | (exfalso; simp at hc1 <;> omega)
          | (
            (try simp at hc1)
            refine Z.seq ?_
            refine Z.region ?_
            refine Z.lb 2 rfl ?_
            refine Z.lnil ?_
            refine Z.only [2, 3] rfl ?_
            refine Z.nthen ?_
            refine Z.ret ?_
            repeat (first | refine Z.rthen ?_ | refine Z.rblock ?_ | refine Z.rscope ?_)
            -- ret#0
            refine Z.out2 (by exact ⟨rfl, rfl, trivial⟩) ?_
            exact ⟨_, rfl, rfl, hs.sub (List.nil_sublist _)⟩
            )
      · first
          | (exfalso; simp at hc1 <;> omega)
          | (
            (try simp at hc1)
            refine Z.skip ?_
            refine Z.nthen ?_
            refine Z.seq ?_
            refine Z.seq ?_
            refine Z.region ?_
            refine Z.l rfl rfl (by rfl) (Z.keepS hs) (by first | exact Z.Yd.loadA _ rfl Try.isAgg31 (fun _ => Z.cellsB (by first | ((repeat (first | exact List.mem_cons_self | refine List.mem_cons_of_mem _ ?_ | refine List.mem_append_right _ ?_)); done) | fail)) (by exact Try.sizeOf31) | fail "load 3.0") ?_
            refine Z.le rfl trivial ?_
            refine Z.ZO.call rfl rfl (by rfl) rfl rfl Try.call52 rfl (rsize24 26 1 A m c l _ hl) ?_
            rintro v3_1 w3_1 ⟨rfl, hy⟩
            replace hs := hs.call hy
            clear hy
            try simp only [List.cons_append, List.nil_append, List.append_nil] at hs
            refine Z.lb 1 rfl ?_
            refine Z.lnil ?_
            refine Z.only [1, 4] rfl ?_
            refine Z.nthen ?_
            refine Z.seq ?_
            refine Z.region ?_
            refine Z.lb 2 rfl ?_
            refine Z.lnil ?_
            refine Z.only [1, 4, 11] rfl ?_
            refine Z.nthen ?_
            refine Z.cond rfl (fun hc4 => ?_) (fun h => absurd h (by simpa using hz))
            refine Z.seq ?_
            refine Z.region ?_
            refine Z.lb 3 rfl ?_
            refine Z.lnil ?_
            refine Z.only [2, 3] rfl ?_
            refine Z.nthen ?_
            refine Z.ret ?_
            repeat (first | refine Z.rthen ?_ | refine Z.rblock ?_ | refine Z.rscope ?_)
            -- ret#1
            refine Z.out2 (by exact ⟨rfl, rfl, trivial⟩) ?_
            exact ⟨_, rfl, rfl, hs.sub (List.nil_sublist _)⟩
            )
  · have eO : opE lc l 26 1 = 2 := by simp [opE, h26]
    have eE : powE lc l = 2 := by unfold powE; rw [eO]; rfl
    have eV : powV lc l = 0 := by unfold powV; rw [eE]; rfl
    rw [eE, eV]
    refine Z.enter Try.func27 rfl Try.ntmps27 rfl rfl ?_
    refine Z.seq ?_
    refine Z.region ?_
    refine Z.le rfl trivial ?_
    refine Z.ZO.box rfl rfl (by rfl) rfl rfl hs ?_
    clear hs; intro g1 w1 hs
    refine Z.lb 2 rfl ?_
    refine Z.lnil ?_
    refine Z.only [1] rfl ?_
    refine Z.nthen ?_
    refine Z.seq ?_
    refine Z.seq ?_
    refine Z.region ?_
    refine Z.l rfl rfl (by rfl) (Z.keepS hs) (Z.Yd.fieldA (m := 0) rfl (by kernel_rfl)) ?_
    refine Z.l rfl rfl (by rfl) (Z.keepS hs) (by first | exact Z.Yd.load rfl Try.isAgg3 (fun _ => Z.cellB (by first | ((repeat (first | exact List.mem_cons_self | refine List.mem_cons_of_mem _ ?_ | refine List.mem_append_right _ ?_)); done) | fail) rfl) | exact Z.Yd.load rfl Try.isAgg3 (fun _ => Z.cellO (by assumption) (by simp) (by assumption)) | fail "load 1.1") ?_
    refine Z.lb 1 rfl ?_
    refine Z.lnil ?_
    refine Z.only [1, 7] rfl ?_
    refine Z.nthen ?_
    refine Z.cond rfl (fun hc1 => ?_) (fun h => absurd h (by simpa using h26))
    refine Z.seq ?_
    refine Z.region ?_
    refine Z.lb 2 rfl ?_
    refine Z.lnil ?_
    refine Z.only [2, 3] rfl ?_
    refine Z.nthen ?_
    refine Z.ret ?_
    repeat (first | refine Z.rthen ?_ | refine Z.rblock ?_ | refine Z.rscope ?_)
    -- ret#0
    refine Z.out2 (by exact ⟨rfl, rfl, trivial⟩) ?_
    exact ⟨_, rfl, rfl, hs.sub (List.nil_sublist _)⟩
theorem num_snocT (l : List Int) (j : Nat) (hj : j < l.length) : num (l.take (j + 1)) = 256 * num (l.take j) + elt l (j : Int) := by
  rw [List.take_add_one, List.getElem?_eq_getElem hj]
  show num (l.take j ++ [l[j]]) = _
  rw [num_snoc]
  simp [elt, hj]
theorem elt_byte {l : List Int} (hb : Byts l) (j : Nat) (hj : j < l.length) : 0 ≤ elt l (j : Int) ∧ elt l (j : Int) < 256 := by
  have := hb l[j] (List.getElem_mem hj)
  simpa [elt, hj] using this
theorem num_takeB {l : List Int} (hb : Byts l) (h : l.length ≤ 8) (j : Nat) : 0 ≤ num (l.take j) ∧ num (l.take j) < 18446744073709551616 := by
  have hb2 : Byts (l.take j) := fun x hx => hb x (List.mem_of_mem_take hx)
  have h1 := num_lt hb2
  have h2 : (l.take j).length ≤ 8 := by simp; omega
  have h3 : 2 ^ ((l.take j).length * 8) ≤ 2 ^ 64 := Nat.pow_le_pow_right (by decide) (by omega)
  refine ⟨num_nonneg hb2, ?_⟩
  have h4 : (2 : Nat) ^ 64 = 18446744073709551616 := rfl
  omega
theorem rdecid24 (lc : Int) (A : Option Addr) (m c : Nat) (l : List Int) (w : World) (hx : Sl w A (ints .u8 l)) (hl : l.length = m) (hm : m ≤ 1000000) (hb : Byts l) :
    Calls Try.prog 28 #[.agg #[.int .i64 lc, .slice A m c]] w (SX.Ret fun v w' => v = .tuple #[.int .u64 (idV lc l), .int .i64 (idE lc l)] ∧ SX.St w [] w' []) := by
  have hs := SX.St.start w
  by_cases hi : isId lc
  · have ew : 2 + 4 * (lc - 27) = wid lc := by
      rcases hi with rfl | rfl <;> rfl
    have hlc : 27 ≤ lc ∧ lc ≤ 28 := by
      rcases hi with rfl | rfl <;> omega
    have eE : idE lc l = szE l (wid lc) := by unfold idE; rw [if_pos hi, opE_sz]
    by_cases hz : szE l (wid lc) = 0
    · have hl1 := szE_len hz
      have hw : wid lc ≤ 6 ∧ 0 < wid lc := by unfold wid; split <;> omega
      have eV : idV lc l = num l := by unfold idV; rw [eE, if_pos hz]
      rw [eE, eV, hz]
      obtain ⟨bb, off, rfl, hbb, hx⟩ := Z.Sl.some hx (by simp [ints]; omega)
      refine Z.enter Try.func28 rfl Try.ntmps28 rfl rfl ?_
      refine Z.seq ?_
      refine Z.region ?_
      refine Z.le rfl trivial ?_
      refine Z.ZO.box rfl rfl (by rfl) rfl rfl hs ?_
      clear hs; intro g1 w1 hs
      refine Z.lb 2 rfl ?_
      refine Z.lnil ?_
      refine Z.only [1] rfl ?_
      refine Z.nthen ?_
      refine Z.seq ?_
      refine Z.seq ?_
      refine Z.region ?_
      refine Z.l rfl rfl (by rfl) (Z.keepS hs) (Z.Yd.fieldA (m := 0) rfl (by kernel_rfl)) ?_
      refine Z.l rfl rfl (by rfl) (Z.keepS hs) (by first | exact Z.Yd.load rfl Try.isAgg3 (fun _ => Z.cellB (by first | ((repeat (first | exact List.mem_cons_self | refine List.mem_cons_of_mem _ ?_ | refine List.mem_append_right _ ?_)); done) | fail) rfl) | exact Z.Yd.load rfl Try.isAgg3 (fun _ => Z.cellO (by assumption) (by simp) (by assumption)) | fail "load 1.1") ?_
      refine Z.lb 2 rfl ?_
      refine Z.l rfl rfl (by rfl) (Z.keepS hs) (Z.Yd.fieldA (m := 0) rfl (by kernel_rfl)) ?_
      refine Z.l rfl rfl (by rfl) (Z.keepS hs) (by first | exact Z.Yd.load rfl Try.isAgg3 (fun _ => Z.cellB (by first | ((repeat (first | exact List.mem_cons_self | refine List.mem_cons_of_mem _ ?_ | refine List.mem_append_right _ ?_)); done) | fail) rfl) | exact Z.Yd.load rfl Try.isAgg3 (fun _ => Z.cellO (by assumption) (by simp) (by assumption)) | fail "load 1.5") ?_
      refine Z.lb 2 rfl ?_
      refine Z.lnil ?_
      refine Z.only [1, 14] rfl ?_
      refine Z.nthen ?_
      refine Z.cond rfl (fun h => absurd h (by unfold isId at hi; simp; omega)) (fun hc1 => ?_)
      refine Z.skip ?_
      refine Z.nthen ?_
      refine Z.seq ?_
      refine Z.seq ?_
      refine Z.region ?_
      refine Z.l rfl rfl (by rfl) (Z.keepS hs) (by first | exact Z.Yd.loadA _ rfl Try.isAgg31 (fun _ => Z.cellsB (by first | ((repeat (first | exact List.mem_cons_self | refine List.mem_cons_of_mem _ ?_ | refine List.mem_append_right _ ?_)); done) | fail)) (by exact Try.sizeOf31) | fail "load 3.0") ?_
      refine Z.l rfl rfl (by rfl) (Z.keepS hs) (Z.Yd.fieldA (m := 0) rfl (by kernel_rfl)) ?_
      refine Z.l rfl rfl (by rfl) (Z.keepS hs) (by first | exact Z.Yd.load rfl Try.isAgg3 (fun _ => Z.cellB (by first | ((repeat (first | exact List.mem_cons_self | refine List.mem_cons_of_mem _ ?_ | refine List.mem_append_right _ ?_)); done) | fail) rfl) | exact Z.Yd.load rfl Try.isAgg3 (fun _ => Z.cellO (by assumption) (by simp) (by assumption)) | fail "load 3.2") ?_
      refine Z.l rfl rfl (by rfl) (Z.keepS hs) (Z.Yd.sub rfl rfl (fun hG => Z.wi64 (by first | omega | (have hG' := Z.gh rfl hG; simp at hG'; omega)))) ?_
      refine Z.l rfl rfl (by rfl) (Z.keepS hs) (Z.Yd.mul rfl rfl (fun hG => Z.wi64 (by first | omega | (have hG' := Z.gh rfl hG; simp at hG'; omega)))) ?_
      refine Z.l rfl rfl (by rfl) (Z.keepS hs) (Z.Yd.add rfl rfl (fun hG => Z.wi64 (by first | omega | (have hG' := Z.gh rfl hG; simp at hG'; omega)))) ?_
      rw [ew]
      refine Z.le rfl trivial ?_
      refine Z.ZO.call rfl rfl (by rfl) rfl rfl Try.call52 rfl (rsize24 lc _ _ m c l _ hl) ?_
      rintro v3_6 w3_6 ⟨rfl, hy⟩
      replace hs := hs.call hy
      clear hy
      try simp only [List.cons_append, List.nil_append, List.append_nil] at hs
      refine Z.lb 1 rfl ?_
      refine Z.lnil ?_
      refine Z.only [1, 4] rfl ?_
      refine Z.nthen ?_
      refine Z.seq ?_
      refine Z.region ?_
      refine Z.lb 2 rfl ?_
      refine Z.lnil ?_
      refine Z.only [1, 4, 23] rfl ?_
      refine Z.nthen ?_
      refine Z.cond rfl (fun h => absurd h (by simp [hz])) (fun hc4 => ?_)
      refine Z.skip ?_
      refine Z.nthen ?_
      refine Z.seq ?_
      refine Z.region ?_
      refine Z.lb 1 rfl ?_
      refine Z.lnil ?_
      refine Z.only [1, 5] rfl ?_
      refine Z.nthen ?_
      refine Z.seq ?_
      refine Z.seq ?_
      refine Z.region ?_
      refine Z.lb 1 rfl ?_
      refine Z.lnil ?_
      refine Z.only [1, 5, 6] rfl ?_
      refine Z.nthen ?_
      refine Z.block ?_
      refine Z.loopk (ι := Nat) [1] rfl (fun j => [(5, [], .int .u64 (num (l.take j))), (6, [], .int .i64 (j : Int))]) (fun j wr => j ≤ m ∧ SX.St w [] wr [SX.Ent.blk g1 31 #[.int .i64 lc, .slice (some ⟨bb, off, none⟩) m c]]) (fun j => m - j) 0 (by refine ⟨?_, ?_, trivial⟩ <;> (first | rfl | (refine Z.lookv rfl ?_; simp; done) | (refine Z.lookv rfl ?_; simp; omega))) ⟨by omega, hs⟩ ?_
      clear hs
      rintro j w2 ⟨hj, hs⟩
      refine Z.only [1, 5, 6] rfl ?_
      refine Z.seq ?_
      refine Z.seq ?_
      refine Z.region ?_
      refine Z.lb 1 rfl ?_
      refine Z.l rfl rfl (by rfl) (Z.keepS hs) (Z.Yd.fieldA (m := 1) rfl (by kernel_rfl)) ?_
      refine Z.l rfl rfl (by rfl) (Z.keepS hs) (by first | exact Z.Yd.load rfl Try.isAgg29 (fun _ => Z.cellB (by first | ((repeat (first | exact List.mem_cons_self | refine List.mem_cons_of_mem _ ?_ | refine List.mem_append_right _ ?_)); done) | fail) rfl) | exact Z.Yd.load rfl Try.isAgg29 (fun _ => Z.cellO (by assumption) (by simp) (by assumption)) | fail "load 8.2") ?_
      refine Z.l rfl rfl (by rfl) (Z.keepS hs) (Z.Yd.lenS rfl Try.underlying29) ?_
      refine Z.lb 1 rfl ?_
      refine Z.lnil ?_
      refine Z.only [1, 5, 6, 29] rfl ?_
      refine Z.nthen ?_
      refine Z.cond rfl (fun hc8 => ?_) (fun hc8 => ?_)
      · first
          | (exfalso; simp at hc8 <;> omega)
          | (
            (try simp at hc8)
            have hbj := num_takeB hb (by omega) j
            have hbj1 := num_takeB hb (by omega) (j + 1)
            have hel := elt_byte hb j (by omega)
            rw [num_snocT l j (by omega)] at hbj1
            refine Z.skip ?_
            refine Z.nthen ?_
            refine Z.seq ?_
            refine Z.block ?_
            refine Z.region ?_
            refine Z.lb 1 rfl ?_
            refine Z.l rfl rfl (by rfl) (Z.keepS hs) (Z.Yd.mul rfl rfl (fun hG => Z.wu64 (by first | omega | (have hG' := Z.gh rfl hG; simp at hG'; omega)))) ?_
            refine Z.l rfl rfl (by rfl) (Z.keepS hs) (Z.Yd.fieldA (m := 1) rfl (by kernel_rfl)) ?_
            refine Z.l rfl rfl (by rfl) (Z.keepS hs) (by first | exact Z.Yd.load rfl Try.isAgg29 (fun _ => Z.cellB (by first | ((repeat (first | exact List.mem_cons_self | refine List.mem_cons_of_mem _ ?_ | refine List.mem_append_right _ ?_)); done) | fail) rfl) | exact Z.Yd.load rfl Try.isAgg29 (fun _ => Z.cellO (by assumption) (by simp) (by assumption)) | fail "load 10.3") ?_
            refine Z.lb 1 rfl ?_
            refine Z.l rfl rfl (by rfl) (Z.keepS hs) (Z.Yd.elem rfl rfl Try.underlying29 Try.sizeOf5 (fun hG => ⟨(by first | omega | (have hG' := Z.gh rfl hG; simp at hG'; omega)), (by first | omega | (have hG' := Z.gh rfl hG; simp at hG'; omega))⟩)) ?_
            refine Z.l rfl rfl (by rfl) (Z.keepS hs) (by first | exact Z.Yd.load rfl Try.isAgg5 (fun _ => Z.cellB (by first | ((repeat (first | exact List.mem_cons_self | refine List.mem_cons_of_mem _ ?_ | refine List.mem_append_right _ ?_)); done) | fail) rfl) | exact Z.Yd.load rfl Try.isAgg5 (fun hG => Z.cellR (by first | ((repeat (first | exact List.mem_cons_self | refine List.mem_cons_of_mem _ ?_ | refine List.mem_append_right _ ?_)); done) | fail) (Z.ints_at (by first | omega | (have hG' := Z.gh rfl hG; simp at hG'; omega)) (by first | omega | (have hG' := Z.gh rfl hG; simp at hG'; omega)))) | exact Z.Yd.load rfl Try.isAgg5 (fun hG => Z.cellXi (by assumption) (by first | omega | (have hG' := Z.gh rfl hG; simp at hG'; omega)) (by first | omega | (have hG' := Z.gh rfl hG; simp at hG'; omega))) | exact Z.Yd.load rfl Try.isAgg5 (fun hG => Z.cellS (by assumption) rfl (by first | omega | (have hG' := Z.gh rfl hG; simp at hG'; omega)) (by first | omega | (have hG' := Z.gh rfl hG; simp at hG'; omega))) | fail "load 10.6") ?_
            refine Z.l rfl rfl (by rfl) (Z.keepS hs) (Z.Yd.convI rfl ⟨_, Try.underlying5⟩ Try.underlying40 (fun hG => Z.wu64 (by first | omega | (have hG' := Z.gh rfl hG; simp at hG'; omega)))) ?_
            refine Z.l rfl rfl (by rfl) (Z.keepS hs) (Z.Yd.add rfl rfl (fun hG => Z.wu64 (by first | omega | (have hG' := Z.gh rfl hG; simp at hG'; omega)))) ?_
            refine Z.lb 1 rfl ?_
            refine Z.lnil ?_
            refine Z.only [1, 5, 6] rfl ?_
            refine Z.nblock ?_
            refine Z.nthen ?_
            refine Z.region ?_
            refine Z.lb 1 rfl ?_
            refine Z.l rfl rfl (by rfl) (Z.keepS hs) (Z.Yd.add rfl rfl (fun hG => Z.wi64 (by first | omega | (have hG' := Z.gh rfl hG; simp at hG'; omega)))) ?_
            refine Z.lb 1 rfl ?_
            refine Z.lnil ?_
            refine Z.only [1, 5, 6] rfl ?_
            refine Z.nthen ?_
            rw [← num_snocT l j (by omega)]
            exact Z.again (j + 1) (by refine ⟨?_, ?_, ?_, trivial⟩ <;> (first | rfl | (refine Z.lookv rfl ?_; simp; done) | (refine Z.lookv rfl ?_; simp; omega))) ⟨by omega, hs⟩ (by omega)
            )
      · first
          | (exfalso; simp at hc8 <;> omega)
          | (
            (try simp at hc8)
            refine Z.exit ?_
            refine Z.xthen ?_
            refine Z.xthen ?_
            refine Z.xblock ?_
            refine Z.nthen ?_
            refine Z.seq ?_
            refine Z.region ?_
            obtain rfl : j = m := by omega
            rw [List.take_of_length_le (by omega)]
            refine Z.l rfl rfl (by rfl) (Z.keepS hs) (Z.Yd.pure rfl) ?_
            refine Z.lb 2 rfl ?_
            refine Z.lnil ?_
            refine Z.only [2, 3] rfl ?_
            refine Z.nthen ?_
            refine Z.ret ?_
            -- ret#0
            refine Z.out2 (by exact ⟨rfl, rfl, trivial⟩) ?_
            exact ⟨_, rfl, rfl, hs.sub (List.nil_sublist _)⟩
            )
    · have eV : idV lc l = 0 := by unfold idV; rw [eE, if_neg hz]
      rw [eE, eV]
      refine Z.enter Try.func28 rfl Try.ntmps28 rfl rfl ?_
      refine Z.seq ?_
      refine Z.region ?_
      refine Z.le rfl trivial ?_
      refine Z.ZO.box rfl rfl (by rfl) rfl rfl hs ?_
      clear hs; intro g1 w1 hs
      refine Z.lb 2 rfl ?_
      refine Z.lnil ?_
      refine Z.only [1] rfl ?_
      refine Z.nthen ?_
      refine Z.seq ?_
      refine Z.seq ?_
      refine Z.region ?_
      refine Z.l rfl rfl (by rfl) (Z.keepS hs) (Z.Yd.fieldA (m := 0) rfl (by kernel_rfl)) ?_
      refine Z.l rfl rfl (by rfl) (Z.keepS hs) (by first | exact Z.Yd.load rfl Try.isAgg3 (fun _ => Z.cellB (by first | ((repeat (first | exact List.mem_cons_self | refine List.mem_cons_of_mem _ ?_ | refine List.mem_append_right _ ?_)); done) | fail) rfl) | exact Z.Yd.load rfl Try.isAgg3 (fun _ => Z.cellO (by assumption) (by simp) (by assumption)) | fail "load 1.1") ?_
      refine Z.lb 2 rfl ?_
      refine Z.l rfl rfl (by rfl) (Z.keepS hs) (Z.Yd.fieldA (m := 0) rfl (by kernel_rfl)) ?_
      refine Z.l rfl rfl (by rfl) (Z.keepS hs) (by first | exact Z.Yd.load rfl Try.isAgg3 (fun _ => Z.cellB (by first | ((repeat (first | exact List.mem_cons_self | refine List.mem_cons_of_mem _ ?_ | refine List.mem_append_right _ ?_)); done) | fail) rfl) | exact Z.Yd.load rfl Try.isAgg3 (fun _ => Z.cellO (by assumption) (by simp) (by assumption)) | fail "load 1.5") ?_
      refine Z.lb 2 rfl ?_
      refine Z.lnil ?_
      refine Z.only [1, 14] rfl ?_
      refine Z.nthen ?_
      refine Z.cond rfl (fun h => absurd h (by unfold isId at hi; simp; omega)) (fun hc1 => ?_)
      refine Z.skip ?_
      refine Z.nthen ?_
      refine Z.seq ?_
      refine Z.seq ?_
      refine Z.region ?_
      refine Z.l rfl rfl (by rfl) (Z.keepS hs) (by first | exact Z.Yd.loadA _ rfl Try.isAgg31 (fun _ => Z.cellsB (by first | ((repeat (first | exact List.mem_cons_self | refine List.mem_cons_of_mem _ ?_ | refine List.mem_append_right _ ?_)); done) | fail)) (by exact Try.sizeOf31) | fail "load 3.0") ?_
      refine Z.l rfl rfl (by rfl) (Z.keepS hs) (Z.Yd.fieldA (m := 0) rfl (by kernel_rfl)) ?_
      refine Z.l rfl rfl (by rfl) (Z.keepS hs) (by first | exact Z.Yd.load rfl Try.isAgg3 (fun _ => Z.cellB (by first | ((repeat (first | exact List.mem_cons_self | refine List.mem_cons_of_mem _ ?_ | refine List.mem_append_right _ ?_)); done) | fail) rfl) | exact Z.Yd.load rfl Try.isAgg3 (fun _ => Z.cellO (by assumption) (by simp) (by assumption)) | fail "load 3.2") ?_
      refine Z.l rfl rfl (by rfl) (Z.keepS hs) (Z.Yd.sub rfl rfl (fun hG => Z.wi64 (by first | omega | (have hG' := Z.gh rfl hG; simp at hG'; omega)))) ?_
      refine Z.l rfl rfl (by rfl) (Z.keepS hs) (Z.Yd.mul rfl rfl (fun hG => Z.wi64 (by first | omega | (have hG' := Z.gh rfl hG; simp at hG'; omega)))) ?_
      refine Z.l rfl rfl (by rfl) (Z.keepS hs) (Z.Yd.add rfl rfl (fun hG => Z.wi64 (by first | omega | (have hG' := Z.gh rfl hG; simp at hG'; omega)))) ?_
      rw [ew]
      refine Z.le rfl trivial ?_
      refine Z.ZO.call rfl rfl (by rfl) rfl rfl Try.call52 rfl (rsize24 lc _ A m c l _ hl) ?_
      rintro v3_6 w3_6 ⟨rfl, hy⟩
      replace hs := hs.call hy
      clear hy
      try simp only [List.cons_append, List.nil_append, List.append_nil] at hs
      refine Z.lb 1 rfl ?_
      refine Z.lnil ?_
      refine Z.only [1, 4] rfl ?_
      refine Z.nthen ?_
      refine Z.seq ?_
      refine Z.region ?_
      refine Z.lb 2 rfl ?_
      refine Z.lnil ?_
      refine Z.only [1, 4, 23] rfl ?_
      refine Z.nthen ?_
      refine Z.cond rfl (fun hc4 => ?_) (fun h => absurd h (by simpa using hz))
      refine Z.seq ?_
      refine Z.region ?_
      refine Z.lb 3 rfl ?_
      refine Z.lnil ?_
      refine Z.only [2, 3] rfl ?_
      refine Z.nthen ?_
      refine Z.ret ?_
      repeat (first | refine Z.rthen ?_ | refine Z.rblock ?_ | refine Z.rscope ?_)
      -- ret#0
      refine Z.out2 (by exact ⟨rfl, rfl, trivial⟩) ?_
      exact ⟨_, rfl, rfl, hs.sub (List.nil_sublist _)⟩
  · have eE : idE lc l = 2 := by unfold idE; rw [if_neg hi]
    have eV : idV lc l = 0 := by unfold idV; rw [eE]; rfl
    rw [eE, eV]
    refine Z.enter Try.func28 rfl Try.ntmps28 rfl rfl ?_
    refine Z.seq ?_
    refine Z.region ?_
    refine Z.le rfl trivial ?_
    refine Z.ZO.box rfl rfl (by rfl) rfl rfl hs ?_
    clear hs; intro g1 w1 hs
    refine Z.lb 2 rfl ?_
    refine Z.lnil ?_
    refine Z.only [1] rfl ?_
    refine Z.nthen ?_
    refine Z.seq ?_
    refine Z.seq ?_
    refine Z.region ?_
    refine Z.l rfl rfl (by rfl) (Z.keepS hs) (Z.Yd.fieldA (m := 0) rfl (by kernel_rfl)) ?_
    refine Z.l rfl rfl (by rfl) (Z.keepS hs) (by first | exact Z.Yd.load rfl Try.isAgg3 (fun _ => Z.cellB (by first | ((repeat (first | exact List.mem_cons_self | refine List.mem_cons_of_mem _ ?_ | refine List.mem_append_right _ ?_)); done) | fail) rfl) | exact Z.Yd.load rfl Try.isAgg3 (fun _ => Z.cellO (by assumption) (by simp) (by assumption)) | fail "load 1.1") ?_
    refine Z.lb 2 rfl ?_
    refine Z.l rfl rfl (by rfl) (Z.keepS hs) (Z.Yd.fieldA (m := 0) rfl (by kernel_rfl)) ?_
    refine Z.l rfl rfl (by rfl) (Z.keepS hs) (by first | exact Z.Yd.load rfl Try.isAgg3 (fun _ => Z.cellB (by first | ((repeat (first | exact List.mem_cons_self | refine List.mem_cons_of_mem _ ?_ | refine List.mem_append_right _ ?_)); done) | fail) rfl) | exact Z.Yd.load rfl Try.isAgg3 (fun _ => Z.cellO (by assumption) (by simp) (by assumption)) | fail "load 1.5") ?_
    refine Z.lb 2 rfl ?_
    refine Z.lnil ?_
    refine Z.only [1, 14] rfl ?_
    refine Z.nthen ?_
    refine Z.cond rfl (fun hc1 => ?_) (fun h => absurd h (by unfold isId at hi; simp; omega))
    refine Z.seq ?_
    refine Z.region ?_
    refine Z.lb 2 rfl ?_
    refine Z.lnil ?_
    refine Z.only [2, 3] rfl ?_
    refine Z.nthen ?_
    refine Z.ret ?_
    repeat (first | refine Z.rthen ?_ | refine Z.rblock ?_ | refine Z.rscope ?_)
    -- ret#0
    refine Z.out2 (by exact ⟨rfl, rfl, trivial⟩) ?_
    exact ⟨_, rfl, rfl, hs.sub (List.nil_sublist _)⟩
set_option maxRecDepth 100000 in
theorem rdecrep24_short (A : Option Addr) (m c : Nat) (l : List Int) (w : World) (hx : Sl w A (ints .u8 l)) (hl : l.length = m) (hb : Byts l) (hz : szE l 1 = 0) :
    Calls Try.prog 26 #[.agg #[.int .i64 29, .slice A m c]] w (SX.Ret fun v w' => v = .tuple #[.agg (RepV.short (num l / 64) (num l % 64)).cells.toArray, .int .i64 0] ∧ SX.St w [] w' []) := by
  have hs := SX.St.start w
  have hl1 := szE_len hz
  obtain ⟨h0, h256, hl2⟩ := one_byte hb (by omega)
  have he : elt l 0 = num l := by
    obtain ⟨x, rfl⟩ := list1 (l := l) (by omega)
    simp [elt, num]
  obtain ⟨bb, off, rfl, hbb, hx⟩ := Z.Sl.some hx (by simp [ints]; omega)
  have tq : elt l 0 / 64 = num l / 64 := by rw [he]
  have tr : elt l 0 % 64 = num l % 64 := by rw [he]
  rw [← he] at h0 h256
  generalize num l % 64 = V at *
  obtain ⟨q, hq⟩ : ∃ q, num l / 64 = q := ⟨_, rfl⟩
  have hq4 : q = 0 ∨ q = 1 ∨ q = 2 ∨ q = 3 := by omega
  rw [hq] at tq ⊢
  have hsh : ([.bool false, .int .i64 q, .int .i64 0, .int .i64 0, .int .i64 0, .int .i64 0] : List Value).set (2 + q.toNat * 1) (.int .i64 V) = (RepV.short q V).cells := by
    rcases hq4 with rfl | rfl | rfl | rfl <;> rfl
  have hsh0 : ([.bool false, .int .i64 q, .int .i64 0, .int .i64 0, .int .i64 0, .int .i64 0] : List Value).set (0 + 2 + q.toNat * 1) (.int .i64 V) = (RepV.short q V).cells := by
    rcases hq4 with rfl | rfl | rfl | rfl <;> rfl
  refine Z.enter Try.func26 rfl Try.ntmps26 rfl rfl ?_
  refine Z.seq ?_
  refine Z.region ?_
  refine Z.le rfl trivial ?_
  refine Z.ZO.box rfl rfl (by rfl) rfl rfl hs ?_
  clear hs; intro g1 w1 hs
  refine Z.le rfl trivial ?_
  refine Z.ZO.alloc rfl rfl (by rfl) Try.zeroValue28 rfl hs ?_
  clear hs; intro g2 w2 hs
  refine Z.lb 1 rfl ?_
  refine Z.lnil ?_
  refine Z.only [1, 2] rfl ?_
  refine Z.nthen ?_
  refine Z.seq ?_
  refine Z.region ?_
  refine Z.le rfl trivial ?_
  refine Z.ZO.alloc rfl rfl (by rfl) Try.zeroValue28 rfl hs ?_
  clear hs; intro g4 w4 hs
  refine Z.lnil ?_
  refine Z.only [1, 2, 4] rfl ?_
  refine Z.nthen ?_
  refine Z.seq ?_
  refine Z.seq ?_
  refine Z.region ?_
  refine Z.l rfl rfl (by rfl) (Z.keepS hs) (Z.Yd.fieldA (m := 0) rfl (by kernel_rfl)) ?_
  refine Z.l rfl rfl (by rfl) (Z.keepS hs) (by first | exact Z.Yd.load rfl Try.isAgg3 (fun _ => Z.cellB (by first | ((repeat (first | exact List.mem_cons_self | refine List.mem_cons_of_mem _ ?_ | refine List.mem_append_right _ ?_)); done) | fail) rfl) | exact Z.Yd.load rfl Try.isAgg3 (fun _ => Z.cellO (by assumption) (by simp) (by assumption)) | fail "load 2.1") ?_
  refine Z.lb 2 rfl ?_
  refine Z.l rfl rfl (by rfl) (Z.keepS hs) (Z.Yd.fieldA (m := 0) rfl (by kernel_rfl)) ?_
  refine Z.l rfl rfl (by rfl) (Z.keepS hs) (by first | exact Z.Yd.load rfl Try.isAgg3 (fun _ => Z.cellB (by first | ((repeat (first | exact List.mem_cons_self | refine List.mem_cons_of_mem _ ?_ | refine List.mem_append_right _ ?_)); done) | fail) rfl) | exact Z.Yd.load rfl Try.isAgg3 (fun _ => Z.cellO (by assumption) (by simp) (by assumption)) | fail "load 2.5") ?_
  refine Z.lb 2 rfl ?_
  refine Z.lnil ?_
  refine Z.only [1, 2, 4, 14] rfl ?_
  refine Z.nthen ?_
  refine Z.cond rfl (fun h => absurd h (by simp)) (fun hc2 => ?_)
  refine Z.skip ?_
  refine Z.nthen ?_
  refine Z.seq ?_
  refine Z.seq ?_
  refine Z.region ?_
  refine Z.l rfl rfl (by rfl) (Z.keepS hs) (by first | exact Z.Yd.loadA _ rfl Try.isAgg31 (fun _ => Z.cellsB (by first | ((repeat (first | exact List.mem_cons_self | refine List.mem_cons_of_mem _ ?_ | refine List.mem_append_right _ ?_)); done) | fail)) (by exact Try.sizeOf31) | fail "load 4.0") ?_
  refine Z.l rfl rfl (by rfl) (Z.keepS hs) (Z.Yd.fieldA (m := 0) rfl (by kernel_rfl)) ?_
  refine Z.l rfl rfl (by rfl) (Z.keepS hs) (by first | exact Z.Yd.load rfl Try.isAgg3 (fun _ => Z.cellB (by first | ((repeat (first | exact List.mem_cons_self | refine List.mem_cons_of_mem _ ?_ | refine List.mem_append_right _ ?_)); done) | fail) rfl) | exact Z.Yd.load rfl Try.isAgg3 (fun _ => Z.cellO (by assumption) (by simp) (by assumption)) | fail "load 4.2") ?_
  refine Z.l rfl rfl (by rfl) (Z.keepS hs) (Z.Yd.sub rfl rfl (fun hG => Z.wi64 (by first | omega | (have hG' := Z.gh rfl hG; simp at hG'; omega)))) ?_
  refine Z.l rfl rfl (by rfl) (Z.keepS hs) (Z.Yd.mul rfl rfl (fun hG => Z.wi64 (by first | omega | (have hG' := Z.gh rfl hG; simp at hG'; omega)))) ?_
  refine Z.l rfl rfl (by rfl) (Z.keepS hs) (Z.Yd.add rfl rfl (fun hG => Z.wi64 (by first | omega | (have hG' := Z.gh rfl hG; simp at hG'; omega)))) ?_
  refine Z.le rfl trivial ?_
  refine Z.ZO.call rfl rfl (by rfl) rfl rfl Try.call52 rfl (rsize24 29 _ _ m c l _ hl) ?_
  rintro v4_6 w4_6 ⟨rfl, hy⟩
  replace hs := hs.call hy
  clear hy
  try simp only [List.cons_append, List.nil_append, List.append_nil] at hs
  refine Z.lb 1 rfl ?_
  refine Z.lnil ?_
  refine Z.only [1, 2, 4, 5] rfl ?_
  refine Z.nthen ?_
  refine Z.seq ?_
  refine Z.region ?_
  refine Z.lb 2 rfl ?_
  refine Z.lnil ?_
  refine Z.only [1, 2, 4, 5, 24] rfl ?_
  refine Z.nthen ?_
  refine Z.cond rfl (fun h => absurd h (by simp [hz])) (fun hc5 => ?_)
  refine Z.skip ?_
  refine Z.nthen ?_
  refine Z.seq ?_
  refine Z.seq ?_
  refine Z.region ?_
  refine Z.l rfl rfl (by rfl) (Z.keepS hs) (Z.Yd.fieldA (m := 0) rfl (by kernel_rfl)) ?_
  refine Z.l rfl rfl (by rfl) (Z.keepS hs) (by first | exact Z.Yd.load rfl Try.isAgg3 (fun _ => Z.cellB (by first | ((repeat (first | exact List.mem_cons_self | refine List.mem_cons_of_mem _ ?_ | refine List.mem_append_right _ ?_)); done) | fail) rfl) | exact Z.Yd.load rfl Try.isAgg3 (fun _ => Z.cellO (by assumption) (by simp) (by assumption)) | fail "load 7.1") ?_
  refine Z.lb 1 rfl ?_
  refine Z.lnil ?_
  refine Z.only [1, 2, 4, 29] rfl ?_
  refine Z.nthen ?_
  refine Z.cond rfl (fun hc7 => ?_) (fun h => absurd h (by simp))
  refine Z.seq ?_
  refine Z.region ?_
  refine Z.l rfl rfl (by rfl) (Z.keepS hs) (Z.Yd.fieldA (m := 1) rfl (by kernel_rfl)) ?_
  refine Z.l rfl rfl (by rfl) (Z.keepS hs) (by first | exact Z.Yd.load rfl Try.isAgg29 (fun _ => Z.cellB (by first | ((repeat (first | exact List.mem_cons_self | refine List.mem_cons_of_mem _ ?_ | refine List.mem_append_right _ ?_)); done) | fail) rfl) | exact Z.Yd.load rfl Try.isAgg29 (fun _ => Z.cellO (by assumption) (by simp) (by assumption)) | fail "load 8.1") ?_
  refine Z.l rfl rfl (by rfl) (Z.keepS hs) (Z.Yd.elem rfl rfl Try.underlying29 Try.sizeOf5 (fun hG => ⟨(by first | omega | (have hG' := Z.gh rfl hG; simp at hG'; omega)), (by first | omega | (have hG' := Z.gh rfl hG; simp at hG'; omega))⟩)) ?_
  refine Z.l rfl rfl (by rfl) (Z.keepS hs) (by first | exact Z.Yd.load rfl Try.isAgg5 (fun _ => Z.cellB (by first | ((repeat (first | exact List.mem_cons_self | refine List.mem_cons_of_mem _ ?_ | refine List.mem_append_right _ ?_)); done) | fail) rfl) | exact Z.Yd.load rfl Try.isAgg5 (fun hG => Z.cellR (by first | ((repeat (first | exact List.mem_cons_self | refine List.mem_cons_of_mem _ ?_ | refine List.mem_append_right _ ?_)); done) | fail) (Z.ints_at (by first | omega | (have hG' := Z.gh rfl hG; simp at hG'; omega)) (by first | omega | (have hG' := Z.gh rfl hG; simp at hG'; omega)))) | exact Z.Yd.load rfl Try.isAgg5 (fun hG => Z.cellXi (by assumption) (by first | omega | (have hG' := Z.gh rfl hG; simp at hG'; omega)) (by first | omega | (have hG' := Z.gh rfl hG; simp at hG'; omega))) | exact Z.Yd.load rfl Try.isAgg5 (fun hG => Z.cellS (by assumption) rfl (by first | omega | (have hG' := Z.gh rfl hG; simp at hG'; omega)) (by first | omega | (have hG' := Z.gh rfl hG; simp at hG'; omega))) | fail "load 8.3") ?_
  refine Z.l rfl rfl (by rfl) (Z.keepS hs) (Z.Yd.convI rfl ⟨_, Try.underlying5⟩ Try.underlying3 (fun hG => Z.wi64 (by first | omega | (have hG' := Z.gh rfl hG; simp at hG'; omega)))) ?_
  refine Z.l rfl rfl (by rfl) (Z.keepS hs) (Z.Yd.quo rfl rfl (by intro hG; first | decide | omega) (by intro hG; first | exact Z.qi64 ⟨by omega, by omega⟩ (by omega) | exact rfl)) ?_
  rw [tq]
  refine Z.l rfl rfl (by rfl) (Z.keepS hs) (Z.Yd.fieldA (m := 1) rfl (by kernel_rfl)) ?_
  refine Z.le rfl trivial ?_
  first | refine Z.ZO.store rfl rfl hs Try.sizeOf3 rfl rfl rfl (by first | exact SX.at0 | exact SX.at1 | exact SX.at2 | exact SX.at3 | exact SX.at4 | exact SX.at5 | exact Z.at6 | exact Z.at7 | exact Z.at8 | exact Z.at9 | exact Z.at10 | exact Z.at11 | exact Z.at12) (by first | (simp; done) | (simp; omega)) ?_ | refine Z.ZO.storeR rfl rfl hs Try.sizeOf3 rfl rfl rfl (by first | exact SX.at0 | exact SX.at1 | exact SX.at2 | exact SX.at3 | exact SX.at4 | exact SX.at5 | exact Z.at6 | exact Z.at7 | exact Z.at8 | exact Z.at9 | exact Z.at10 | exact Z.at11 | exact Z.at12) (by first | omega | (simp [ints_length]; done) | (simp [ints_length]; omega)) ?_
  clear hs; intro ws hs
  simp only [Nat.zero_add, Nat.add_zero, Nat.reduceAdd, Int.reduceToNat, Nat.reduceMul, List.set_cons_zero, List.set_cons_succ, List.setIfInBounds_toArray] at hs
  refine Z.lnil ?_
  refine Z.only [1, 2, 4] rfl ?_
  refine Z.nthen ?_
  refine Z.seq ?_
  refine Z.drawK (fun j => j != 10) mixed hs ?_
  clear hs; intro wd9 hs
  refine Z.t 0 rfl rfl rfl (by rfl) (by kernel_rfl) ⟨_, hs, by first | (simp; done) | exact fun e he => List.mem_append_right _ he⟩ (Z.Yd.fieldA (m := 1) rfl (by kernel_rfl)) ?_
  refine Z.t 1 rfl rfl rfl (by rfl) (by kernel_rfl) ⟨_, hs, by first | (simp; done) | exact fun e he => List.mem_append_right _ he⟩ (by first | exact Z.Yd.load rfl Try.isAgg3 (fun _ => Z.cellB (by first | ((repeat (first | exact List.mem_cons_self | refine List.mem_cons_of_mem _ ?_ | refine List.mem_append_right _ ?_)); done) | fail) rfl) | exact Z.Yd.load rfl Try.isAgg3 (fun _ => Z.cellO (by assumption) (by simp) (by assumption)) | fail "load 9.1") ?_
  refine Z.t 2 rfl rfl rfl (by rfl) (by kernel_rfl) ⟨_, hs, by first | (simp; done) | exact fun e he => List.mem_append_right _ he⟩ (Z.Yd.fieldA (m := 1) rfl (by kernel_rfl)) ?_
  refine Z.t 3 rfl rfl rfl (by rfl) (by kernel_rfl) ⟨_, hs, by first | (simp; done) | exact fun e he => List.mem_append_right _ he⟩ (by first | exact Z.Yd.load rfl Try.isAgg29 (fun _ => Z.cellB (by first | ((repeat (first | exact List.mem_cons_self | refine List.mem_cons_of_mem _ ?_ | refine List.mem_append_right _ ?_)); done) | fail) rfl) | exact Z.Yd.load rfl Try.isAgg29 (fun _ => Z.cellO (by assumption) (by simp) (by assumption)) | fail "load 9.3") ?_
  refine Z.t 4 rfl rfl rfl (by rfl) (by kernel_rfl) ⟨_, hs, by first | (simp; done) | exact fun e he => List.mem_append_right _ he⟩ (Z.Yd.elem rfl rfl Try.underlying29 Try.sizeOf5 (fun hG => ⟨(by first | omega | (have hG' := Z.gh rfl hG; simp at hG'; omega)), (by first | omega | (have hG' := Z.gh rfl hG; simp at hG'; omega))⟩)) ?_
  refine Z.t 5 rfl rfl rfl (by rfl) (by kernel_rfl) ⟨_, hs, by first | (simp; done) | exact fun e he => List.mem_append_right _ he⟩ (by first | exact Z.Yd.load rfl Try.isAgg5 (fun _ => Z.cellB (by first | ((repeat (first | exact List.mem_cons_self | refine List.mem_cons_of_mem _ ?_ | refine List.mem_append_right _ ?_)); done) | fail) rfl) | exact Z.Yd.load rfl Try.isAgg5 (fun hG => Z.cellR (by first | ((repeat (first | exact List.mem_cons_self | refine List.mem_cons_of_mem _ ?_ | refine List.mem_append_right _ ?_)); done) | fail) (Z.ints_at (by first | omega | (have hG' := Z.gh rfl hG; simp at hG'; omega)) (by first | omega | (have hG' := Z.gh rfl hG; simp at hG'; omega)))) | exact Z.Yd.load rfl Try.isAgg5 (fun hG => Z.cellXi (by assumption) (by first | omega | (have hG' := Z.gh rfl hG; simp at hG'; omega)) (by first | omega | (have hG' := Z.gh rfl hG; simp at hG'; omega))) | exact Z.Yd.load rfl Try.isAgg5 (fun hG => Z.cellS (by assumption) rfl (by first | omega | (have hG' := Z.gh rfl hG; simp at hG'; omega)) (by first | omega | (have hG' := Z.gh rfl hG; simp at hG'; omega))) | fail "load 9.5") ?_
  refine Z.t 6 rfl rfl rfl (by rfl) (by kernel_rfl) ⟨_, hs, by first | (simp; done) | exact fun e he => List.mem_append_right _ he⟩ (Z.Yd.convI rfl ⟨_, Try.underlying5⟩ Try.underlying3 (fun hG => Z.wi64 (by first | omega | (have hG' := Z.gh rfl hG; simp at hG'; omega)))) ?_
  refine Z.t 7 rfl rfl rfl (by rfl) (by kernel_rfl) ⟨_, hs, by first | (simp; done) | exact fun e he => List.mem_append_right _ he⟩ (Z.Yd.rem rfl rfl (by intro hG; first | decide | omega) (by intro hG; first | exact Z.tmodn (by omega) | exact rfl)) ?_
  rw [tr]
  refine Z.tn 8 rfl rfl (by kernel_rfl) rfl trivial ?_
  refine Z.ZO.quiet rfl (by rfl) (Z.keepS hs) (Z.Yd.fieldA (m := 2) rfl (by kernel_rfl)) ?_
  refine Z.tk (Dn := fun j => j != 10) (i := 8) (fun _ => ⟨_, hs, by first | (simp; done) | exact fun e he => List.mem_append_right _ he⟩) ?_
  refine Z.t 9 rfl rfl rfl (by rfl) (by kernel_rfl) ⟨_, hs, by first | (simp; done) | exact fun e he => List.mem_append_right _ he⟩ (Z.Yd.elemA rfl rfl Try.underlying26 Try.sizeOf3 (fun hG => ⟨(by first | omega | (have hG' := Z.gh rfl hG; simp at hG'; omega)), (by first | omega | (have hG' := Z.gh rfl hG; simp at hG'; omega))⟩)) ?_
  refine Z.tn 10 rfl rfl (by kernel_rfl) rfl trivial ?_
  first | refine Z.ZO.store rfl rfl hs Try.sizeOf3 rfl rfl rfl (by first | exact SX.at0 | exact SX.at1 | exact SX.at2 | exact SX.at3 | exact SX.at4 | exact SX.at5 | exact Z.at6 | exact Z.at7 | exact Z.at8 | exact Z.at9 | exact Z.at10 | exact Z.at11 | exact Z.at12) (by first | (simp; done) | (simp; omega)) ?_ | refine Z.ZO.storeR rfl rfl hs Try.sizeOf3 rfl rfl rfl (by first | exact SX.at0 | exact SX.at1 | exact SX.at2 | exact SX.at3 | exact SX.at4 | exact SX.at5 | exact Z.at6 | exact Z.at7 | exact Z.at8 | exact Z.at9 | exact Z.at10 | exact Z.at11 | exact Z.at12) (by first | omega | (simp [ints_length]; done) | (simp [ints_length]; omega)) ?_
  clear hs; intro ws hs
  simp only [Nat.zero_add, Nat.add_zero, Nat.reduceAdd, Int.reduceToNat, Nat.reduceMul, List.set_cons_zero, List.set_cons_succ, List.setIfInBounds_toArray] at hs
  refine Z.tk (Dn := fun j => j != 10) (i := 10) (fun h => absurd h (by decide)) ?_
  refine Z.td (by rfl) (by kernel_rfl) ?_
  refine Z.only [2, 4] rfl ?_
  first | rw [hsh] at hs | rw [hsh0] at hs
  unfold RepV.short RepV.cells at hs
  refine Z.nthen ?_
  refine Z.seq ?_
  refine Z.region ?_
  refine Z.l rfl rfl (by rfl) (Z.keepS hs) (by first | exact Z.Yd.loadA _ rfl Try.isAgg28 (fun _ => Z.cellsB (by first | ((repeat (first | exact List.mem_cons_self | refine List.mem_cons_of_mem _ ?_ | refine List.mem_append_right _ ?_)); done) | fail)) (by exact Try.sizeOf28) | fail "load 10.0") ?_
  refine Z.le rfl trivial ?_
  first | refine Z.ZO.storeA rfl rfl hs rfl rfl (by kernel_rfl) (by first | (simp [Value.oneCell']; done) | (refine Z.all_one ?_; assumption)) (by first | exact SX.at0 | exact SX.at1 | exact SX.at2 | exact SX.at3 | exact SX.at4 | exact SX.at5 | exact Z.at6 | exact Z.at7 | exact Z.at8 | exact Z.at9 | exact Z.at10 | exact Z.at11 | exact Z.at12) (by rfl) ?_ | refine Z.ZO.storeP rfl rfl hs rfl rfl (by kernel_rfl) (by first | (simp [Value.oneCell']; done) | (refine Z.all_one ?_; assumption)) (by first | exact SX.at0 | exact SX.at1 | exact SX.at2 | exact SX.at3 | exact SX.at4 | exact SX.at5 | exact Z.at6 | exact Z.at7 | exact Z.at8 | exact Z.at9 | exact Z.at10 | exact Z.at11 | exact Z.at12) (by first | decide | (simp; done) | (simp; omega)) ?_ | refine Z.ZO.storePR rfl rfl hs rfl rfl (by kernel_rfl) (by first | (simp [Value.oneCell']; done) | (refine Z.all_one ?_; assumption)) (by first | exact SX.at0 | exact SX.at1 | exact SX.at2 | exact SX.at3 | exact SX.at4 | exact SX.at5 | exact Z.at6 | exact Z.at7 | exact Z.at8 | exact Z.at9 | exact Z.at10 | exact Z.at11 | exact Z.at12) (by first | decide | (simp; done) | (simp; omega)) ?_
  clear hs; intro ws hs
  simp only [Nat.zero_add, Nat.add_zero, Nat.reduceAdd, Int.reduceToNat, Nat.reduceMul, List.set_cons_zero, List.set_cons_succ, List.setIfInBounds_toArray] at hs
  try simp only [Z.putL, Nat.zero_add] at hs
  refine Z.lb 1 rfl ?_
  refine Z.lnil ?_
  refine Z.only [2, 3] rfl ?_
  refine Z.nthen ?_
  refine Z.ret ?_
  repeat (first | refine Z.rthen ?_ | refine Z.rblock ?_ | refine Z.rscope ?_)
  -- ret#0
  refine Z.out2 (by exact ⟨⟨_, rfl, Z.rvcA hs Try.isAgg28 (by first | ((repeat (first | exact List.mem_cons_self | refine List.mem_cons_of_mem _ ?_ | refine List.mem_append_right _ ?_)); done) | fail) (by exact Try.sizeOf28)⟩, rfl, trivial⟩) ?_
  exact ⟨_, rfl, rfl, hs.sub (List.nil_sublist _)⟩
set_option maxRecDepth 100000 in
theorem rdecrep24_long (A : Option Addr) (m c : Nat) (l : List Int) (w : World) (hx : Sl w A (ints .u8 l)) (hl : l.length = m) (hb : Byts l) (hz : szE l 3 = 0) :
    Calls Try.prog 26 #[.agg #[.int .i64 30, .slice A m c]] w (SX.Ret fun v w' => v = .tuple #[.agg (RepV.lng (num l)).cells.toArray, .int .i64 0] ∧ SX.St w [] w' []) := by
  have hs := SX.St.start w
  have hl1 := szE_len hz
  have he : num l = elt l 0 * 65536 + elt l 1 * 256 + elt l 2 := by
    obtain ⟨x, y, z, rfl⟩ := list3 (l := l) (by omega)
    simp [elt, num]
    omega
  have b0 : 0 ≤ elt l 0 ∧ elt l 0 < 256 := elt_byte hb 0 (by omega)
  have b1 : 0 ≤ elt l 1 ∧ elt l 1 < 256 := elt_byte hb 1 (by omega)
  have b2 : 0 ≤ elt l 2 ∧ elt l 2 < 256 := elt_byte hb 2 (by omega)
  obtain ⟨bb, off, rfl, hbb, hx⟩ := Z.Sl.some hx (by simp [ints]; omega)
  have e0 : elt l 0 * 65536 + elt l 1 * 256 + elt l 2 = num l := he.symm
  obtain ⟨V, hV⟩ : ∃ V, num l = V := ⟨_, rfl⟩
  rw [hV] at he e0 ⊢
  have hV0 : 0 ≤ V ∧ V < 16777216 := by omega
  refine Z.enter Try.func26 rfl Try.ntmps26 rfl rfl ?_
  refine Z.seq ?_
  refine Z.region ?_
  refine Z.le rfl trivial ?_
  refine Z.ZO.box rfl rfl (by rfl) rfl rfl hs ?_
  clear hs; intro g1 w1 hs
  refine Z.le rfl trivial ?_
  refine Z.ZO.alloc rfl rfl (by rfl) Try.zeroValue28 rfl hs ?_
  clear hs; intro g2 w2 hs
  refine Z.lb 1 rfl ?_
  refine Z.lnil ?_
  refine Z.only [1, 2] rfl ?_
  refine Z.nthen ?_
  refine Z.seq ?_
  refine Z.region ?_
  refine Z.le rfl trivial ?_
  refine Z.ZO.alloc rfl rfl (by rfl) Try.zeroValue28 rfl hs ?_
  clear hs; intro g4 w4 hs
  refine Z.lnil ?_
  refine Z.only [1, 2, 4] rfl ?_
  refine Z.nthen ?_
  refine Z.seq ?_
  refine Z.seq ?_
  refine Z.region ?_
  refine Z.l rfl rfl (by rfl) (Z.keepS hs) (Z.Yd.fieldA (m := 0) rfl (by kernel_rfl)) ?_
  refine Z.l rfl rfl (by rfl) (Z.keepS hs) (by first | exact Z.Yd.load rfl Try.isAgg3 (fun _ => Z.cellB (by first | ((repeat (first | exact List.mem_cons_self | refine List.mem_cons_of_mem _ ?_ | refine List.mem_append_right _ ?_)); done) | fail) rfl) | exact Z.Yd.load rfl Try.isAgg3 (fun _ => Z.cellO (by assumption) (by simp) (by assumption)) | fail "load 2.1") ?_
  refine Z.lb 2 rfl ?_
  refine Z.l rfl rfl (by rfl) (Z.keepS hs) (Z.Yd.fieldA (m := 0) rfl (by kernel_rfl)) ?_
  refine Z.l rfl rfl (by rfl) (Z.keepS hs) (by first | exact Z.Yd.load rfl Try.isAgg3 (fun _ => Z.cellB (by first | ((repeat (first | exact List.mem_cons_self | refine List.mem_cons_of_mem _ ?_ | refine List.mem_append_right _ ?_)); done) | fail) rfl) | exact Z.Yd.load rfl Try.isAgg3 (fun _ => Z.cellO (by assumption) (by simp) (by assumption)) | fail "load 2.5") ?_
  refine Z.lb 2 rfl ?_
  refine Z.lnil ?_
  refine Z.only [1, 2, 4, 14] rfl ?_
  refine Z.nthen ?_
  refine Z.cond rfl (fun h => absurd h (by simp)) (fun hc2 => ?_)
  refine Z.skip ?_
  refine Z.nthen ?_
  refine Z.seq ?_
  refine Z.seq ?_
  refine Z.region ?_
  refine Z.l rfl rfl (by rfl) (Z.keepS hs) (by first | exact Z.Yd.loadA _ rfl Try.isAgg31 (fun _ => Z.cellsB (by first | ((repeat (first | exact List.mem_cons_self | refine List.mem_cons_of_mem _ ?_ | refine List.mem_append_right _ ?_)); done) | fail)) (by exact Try.sizeOf31) | fail "load 4.0") ?_
  refine Z.l rfl rfl (by rfl) (Z.keepS hs) (Z.Yd.fieldA (m := 0) rfl (by kernel_rfl)) ?_
  refine Z.l rfl rfl (by rfl) (Z.keepS hs) (by first | exact Z.Yd.load rfl Try.isAgg3 (fun _ => Z.cellB (by first | ((repeat (first | exact List.mem_cons_self | refine List.mem_cons_of_mem _ ?_ | refine List.mem_append_right _ ?_)); done) | fail) rfl) | exact Z.Yd.load rfl Try.isAgg3 (fun _ => Z.cellO (by assumption) (by simp) (by assumption)) | fail "load 4.2") ?_
  refine Z.l rfl rfl (by rfl) (Z.keepS hs) (Z.Yd.sub rfl rfl (fun hG => Z.wi64 (by first | omega | (have hG' := Z.gh rfl hG; simp at hG'; omega)))) ?_
  refine Z.l rfl rfl (by rfl) (Z.keepS hs) (Z.Yd.mul rfl rfl (fun hG => Z.wi64 (by first | omega | (have hG' := Z.gh rfl hG; simp at hG'; omega)))) ?_
  refine Z.l rfl rfl (by rfl) (Z.keepS hs) (Z.Yd.add rfl rfl (fun hG => Z.wi64 (by first | omega | (have hG' := Z.gh rfl hG; simp at hG'; omega)))) ?_
  refine Z.le rfl trivial ?_
  refine Z.ZO.call rfl rfl (by rfl) rfl rfl Try.call52 rfl (rsize24 30 _ _ m c l _ hl) ?_
  rintro v4_6 w4_6 ⟨rfl, hy⟩
  replace hs := hs.call hy
  clear hy
  try simp only [List.cons_append, List.nil_append, List.append_nil] at hs
  refine Z.lb 1 rfl ?_
  refine Z.lnil ?_
  refine Z.only [1, 2, 4, 5] rfl ?_
  refine Z.nthen ?_
  refine Z.seq ?_
  refine Z.region ?_
  refine Z.lb 2 rfl ?_
  refine Z.lnil ?_
  refine Z.only [1, 2, 4, 5, 24] rfl ?_
  refine Z.nthen ?_
  refine Z.cond rfl (fun h => absurd h (by simp [hz])) (fun hc5 => ?_)
  refine Z.skip ?_
  refine Z.nthen ?_
  refine Z.seq ?_
  refine Z.seq ?_
  refine Z.region ?_
  refine Z.l rfl rfl (by rfl) (Z.keepS hs) (Z.Yd.fieldA (m := 0) rfl (by kernel_rfl)) ?_
  refine Z.l rfl rfl (by rfl) (Z.keepS hs) (by first | exact Z.Yd.load rfl Try.isAgg3 (fun _ => Z.cellB (by first | ((repeat (first | exact List.mem_cons_self | refine List.mem_cons_of_mem _ ?_ | refine List.mem_append_right _ ?_)); done) | fail) rfl) | exact Z.Yd.load rfl Try.isAgg3 (fun _ => Z.cellO (by assumption) (by simp) (by assumption)) | fail "load 7.1") ?_
  refine Z.lb 1 rfl ?_
  refine Z.lnil ?_
  refine Z.only [1, 2, 4, 29] rfl ?_
  refine Z.nthen ?_
  refine Z.cond rfl (fun h => absurd h (by simp)) (fun hc7 => ?_)
  refine Z.skip ?_
  refine Z.nthen ?_
  refine Z.seq ?_
  refine Z.drawK (fun _ => true) mixed hs ?_
  clear hs; intro wd11 hs
  refine Z.t 0 rfl rfl rfl (by rfl) (by kernel_rfl) ⟨_, hs, by first | (simp; done) | exact fun e he => List.mem_append_right _ he⟩ (Z.Yd.fieldA (m := 1) rfl (by kernel_rfl)) ?_
  refine Z.t 1 rfl rfl rfl (by rfl) (by kernel_rfl) ⟨_, hs, by first | (simp; done) | exact fun e he => List.mem_append_right _ he⟩ (by first | exact Z.Yd.load rfl Try.isAgg29 (fun _ => Z.cellB (by first | ((repeat (first | exact List.mem_cons_self | refine List.mem_cons_of_mem _ ?_ | refine List.mem_append_right _ ?_)); done) | fail) rfl) | exact Z.Yd.load rfl Try.isAgg29 (fun _ => Z.cellO (by assumption) (by simp) (by assumption)) | fail "load 11.1") ?_
  refine Z.t 2 rfl rfl rfl (by rfl) (by kernel_rfl) ⟨_, hs, by first | (simp; done) | exact fun e he => List.mem_append_right _ he⟩ (Z.Yd.elem rfl rfl Try.underlying29 Try.sizeOf5 (fun hG => ⟨(by first | omega | (have hG' := Z.gh rfl hG; simp at hG'; omega)), (by first | omega | (have hG' := Z.gh rfl hG; simp at hG'; omega))⟩)) ?_
  refine Z.t 3 rfl rfl rfl (by rfl) (by kernel_rfl) ⟨_, hs, by first | (simp; done) | exact fun e he => List.mem_append_right _ he⟩ (by first | exact Z.Yd.load rfl Try.isAgg5 (fun _ => Z.cellB (by first | ((repeat (first | exact List.mem_cons_self | refine List.mem_cons_of_mem _ ?_ | refine List.mem_append_right _ ?_)); done) | fail) rfl) | exact Z.Yd.load rfl Try.isAgg5 (fun hG => Z.cellR (by first | ((repeat (first | exact List.mem_cons_self | refine List.mem_cons_of_mem _ ?_ | refine List.mem_append_right _ ?_)); done) | fail) (Z.ints_at (by first | omega | (have hG' := Z.gh rfl hG; simp at hG'; omega)) (by first | omega | (have hG' := Z.gh rfl hG; simp at hG'; omega)))) | exact Z.Yd.load rfl Try.isAgg5 (fun hG => Z.cellXi (by assumption) (by first | omega | (have hG' := Z.gh rfl hG; simp at hG'; omega)) (by first | omega | (have hG' := Z.gh rfl hG; simp at hG'; omega))) | exact Z.Yd.load rfl Try.isAgg5 (fun hG => Z.cellS (by assumption) rfl (by first | omega | (have hG' := Z.gh rfl hG; simp at hG'; omega)) (by first | omega | (have hG' := Z.gh rfl hG; simp at hG'; omega))) | fail "load 11.3") ?_
  refine Z.t 4 rfl rfl rfl (by rfl) (by kernel_rfl) ⟨_, hs, by first | (simp; done) | exact fun e he => List.mem_append_right _ he⟩ (Z.Yd.convI rfl ⟨_, Try.underlying5⟩ Try.underlying3 (fun hG => Z.wi64 (by first | omega | (have hG' := Z.gh rfl hG; simp at hG'; omega)))) ?_
  refine Z.t 5 rfl rfl rfl (by rfl) (by kernel_rfl) ⟨_, hs, by first | (simp; done) | exact fun e he => List.mem_append_right _ he⟩ (Z.Yd.mul rfl rfl (fun hG => Z.wi64 (by first | omega | (have hG' := Z.gh rfl hG; simp at hG'; omega)))) ?_
  refine Z.t 6 rfl rfl rfl (by rfl) (by kernel_rfl) ⟨_, hs, by first | (simp; done) | exact fun e he => List.mem_append_right _ he⟩ (Z.Yd.fieldA (m := 1) rfl (by kernel_rfl)) ?_
  refine Z.t 7 rfl rfl rfl (by rfl) (by kernel_rfl) ⟨_, hs, by first | (simp; done) | exact fun e he => List.mem_append_right _ he⟩ (by first | exact Z.Yd.load rfl Try.isAgg29 (fun _ => Z.cellB (by first | ((repeat (first | exact List.mem_cons_self | refine List.mem_cons_of_mem _ ?_ | refine List.mem_append_right _ ?_)); done) | fail) rfl) | exact Z.Yd.load rfl Try.isAgg29 (fun _ => Z.cellO (by assumption) (by simp) (by assumption)) | fail "load 11.7") ?_
  refine Z.t 8 rfl rfl rfl (by rfl) (by kernel_rfl) ⟨_, hs, by first | (simp; done) | exact fun e he => List.mem_append_right _ he⟩ (Z.Yd.elem rfl rfl Try.underlying29 Try.sizeOf5 (fun hG => ⟨(by first | omega | (have hG' := Z.gh rfl hG; simp at hG'; omega)), (by first | omega | (have hG' := Z.gh rfl hG; simp at hG'; omega))⟩)) ?_
  refine Z.t 9 rfl rfl rfl (by rfl) (by kernel_rfl) ⟨_, hs, by first | (simp; done) | exact fun e he => List.mem_append_right _ he⟩ (by first | exact Z.Yd.load rfl Try.isAgg5 (fun _ => Z.cellB (by first | ((repeat (first | exact List.mem_cons_self | refine List.mem_cons_of_mem _ ?_ | refine List.mem_append_right _ ?_)); done) | fail) rfl) | exact Z.Yd.load rfl Try.isAgg5 (fun hG => Z.cellR (by first | ((repeat (first | exact List.mem_cons_self | refine List.mem_cons_of_mem _ ?_ | refine List.mem_append_right _ ?_)); done) | fail) (Z.ints_at (by first | omega | (have hG' := Z.gh rfl hG; simp at hG'; omega)) (by first | omega | (have hG' := Z.gh rfl hG; simp at hG'; omega)))) | exact Z.Yd.load rfl Try.isAgg5 (fun hG => Z.cellXi (by assumption) (by first | omega | (have hG' := Z.gh rfl hG; simp at hG'; omega)) (by first | omega | (have hG' := Z.gh rfl hG; simp at hG'; omega))) | exact Z.Yd.load rfl Try.isAgg5 (fun hG => Z.cellS (by assumption) rfl (by first | omega | (have hG' := Z.gh rfl hG; simp at hG'; omega)) (by first | omega | (have hG' := Z.gh rfl hG; simp at hG'; omega))) | fail "load 11.9") ?_
  refine Z.t 10 rfl rfl rfl (by rfl) (by kernel_rfl) ⟨_, hs, by first | (simp; done) | exact fun e he => List.mem_append_right _ he⟩ (Z.Yd.convI rfl ⟨_, Try.underlying5⟩ Try.underlying3 (fun hG => Z.wi64 (by first | omega | (have hG' := Z.gh rfl hG; simp at hG'; omega)))) ?_
  refine Z.t 11 rfl rfl rfl (by rfl) (by kernel_rfl) ⟨_, hs, by first | (simp; done) | exact fun e he => List.mem_append_right _ he⟩ (Z.Yd.mul rfl rfl (fun hG => Z.wi64 (by first | omega | (have hG' := Z.gh rfl hG; simp at hG'; omega)))) ?_
  refine Z.t 12 rfl rfl rfl (by rfl) (by kernel_rfl) ⟨_, hs, by first | (simp; done) | exact fun e he => List.mem_append_right _ he⟩ (Z.Yd.add rfl rfl (fun hG => Z.wi64 (by first | omega | (have hG' := Z.gh rfl hG; simp at hG'; omega)))) ?_
  refine Z.t 13 rfl rfl rfl (by rfl) (by kernel_rfl) ⟨_, hs, by first | (simp; done) | exact fun e he => List.mem_append_right _ he⟩ (Z.Yd.fieldA (m := 1) rfl (by kernel_rfl)) ?_
  refine Z.t 14 rfl rfl rfl (by rfl) (by kernel_rfl) ⟨_, hs, by first | (simp; done) | exact fun e he => List.mem_append_right _ he⟩ (by first | exact Z.Yd.load rfl Try.isAgg29 (fun _ => Z.cellB (by first | ((repeat (first | exact List.mem_cons_self | refine List.mem_cons_of_mem _ ?_ | refine List.mem_append_right _ ?_)); done) | fail) rfl) | exact Z.Yd.load rfl Try.isAgg29 (fun _ => Z.cellO (by assumption) (by simp) (by assumption)) | fail "load 11.14") ?_
  refine Z.t 15 rfl rfl rfl (by rfl) (by kernel_rfl) ⟨_, hs, by first | (simp; done) | exact fun e he => List.mem_append_right _ he⟩ (Z.Yd.elem rfl rfl Try.underlying29 Try.sizeOf5 (fun hG => ⟨(by first | omega | (have hG' := Z.gh rfl hG; simp at hG'; omega)), (by first | omega | (have hG' := Z.gh rfl hG; simp at hG'; omega))⟩)) ?_
  refine Z.t 16 rfl rfl rfl (by rfl) (by kernel_rfl) ⟨_, hs, by first | (simp; done) | exact fun e he => List.mem_append_right _ he⟩ (by first | exact Z.Yd.load rfl Try.isAgg5 (fun _ => Z.cellB (by first | ((repeat (first | exact List.mem_cons_self | refine List.mem_cons_of_mem _ ?_ | refine List.mem_append_right _ ?_)); done) | fail) rfl) | exact Z.Yd.load rfl Try.isAgg5 (fun hG => Z.cellR (by first | ((repeat (first | exact List.mem_cons_self | refine List.mem_cons_of_mem _ ?_ | refine List.mem_append_right _ ?_)); done) | fail) (Z.ints_at (by first | omega | (have hG' := Z.gh rfl hG; simp at hG'; omega)) (by first | omega | (have hG' := Z.gh rfl hG; simp at hG'; omega)))) | exact Z.Yd.load rfl Try.isAgg5 (fun hG => Z.cellXi (by assumption) (by first | omega | (have hG' := Z.gh rfl hG; simp at hG'; omega)) (by first | omega | (have hG' := Z.gh rfl hG; simp at hG'; omega))) | exact Z.Yd.load rfl Try.isAgg5 (fun hG => Z.cellS (by assumption) rfl (by first | omega | (have hG' := Z.gh rfl hG; simp at hG'; omega)) (by first | omega | (have hG' := Z.gh rfl hG; simp at hG'; omega))) | fail "load 11.16") ?_
  refine Z.t 17 rfl rfl rfl (by rfl) (by kernel_rfl) ⟨_, hs, by first | (simp; done) | exact fun e he => List.mem_append_right _ he⟩ (Z.Yd.convI rfl ⟨_, Try.underlying5⟩ Try.underlying3 (fun hG => Z.wi64 (by first | omega | (have hG' := Z.gh rfl hG; simp at hG'; omega)))) ?_
  refine Z.t 18 rfl rfl rfl (by rfl) (by kernel_rfl) ⟨_, hs, by first | (simp; done) | exact fun e he => List.mem_append_right _ he⟩ (Z.Yd.add rfl rfl (fun hG => Z.wi64 (by first | omega | (have hG' := Z.gh rfl hG; simp at hG'; omega)))) ?_
  refine Z.tb [19] (by kernel_rfl) rfl ⟨_, hs, by first | (simp; done) | exact fun e he => List.mem_append_right _ he⟩ rfl ?_
  refine Z.td (by rfl) (by kernel_rfl) ?_
  refine Z.only [2, 4, 6] rfl ?_
  rw [e0]
  refine Z.nthen ?_
  refine Z.seq ?_
  refine Z.region ?_
  refine Z.l rfl rfl (by rfl) (Z.keepS hs) (Z.Yd.fieldA (m := 0) rfl (by kernel_rfl)) ?_
  refine Z.le rfl trivial ?_
  first | refine Z.ZO.store rfl rfl hs Try.sizeOf4 rfl rfl rfl (by first | exact SX.at0 | exact SX.at1 | exact SX.at2 | exact SX.at3 | exact SX.at4 | exact SX.at5 | exact Z.at6 | exact Z.at7 | exact Z.at8 | exact Z.at9 | exact Z.at10 | exact Z.at11 | exact Z.at12) (by first | (simp; done) | (simp; omega)) ?_ | refine Z.ZO.storeR rfl rfl hs Try.sizeOf4 rfl rfl rfl (by first | exact SX.at0 | exact SX.at1 | exact SX.at2 | exact SX.at3 | exact SX.at4 | exact SX.at5 | exact Z.at6 | exact Z.at7 | exact Z.at8 | exact Z.at9 | exact Z.at10 | exact Z.at11 | exact Z.at12) (by first | omega | (simp [ints_length]; done) | (simp [ints_length]; omega)) ?_
  clear hs; intro ws hs
  simp only [Nat.zero_add, Nat.add_zero, Nat.reduceAdd, Int.reduceToNat, Nat.reduceMul, List.set_cons_zero, List.set_cons_succ, List.setIfInBounds_toArray] at hs
  refine Z.lnil ?_
  refine Z.only [2, 4, 6] rfl ?_
  refine Z.nthen ?_
  refine Z.seq ?_
  refine Z.region ?_
  refine Z.lb 1 rfl ?_
  refine Z.l rfl rfl (by rfl) (Z.keepS hs) (Z.Yd.quo rfl rfl (by intro hG; first | decide | omega) (by intro hG; first | exact Z.qi64 ⟨by omega, by omega⟩ (by omega) | exact rfl)) ?_
  refine Z.lb 1 rfl ?_
  refine Z.l rfl rfl (by rfl) (Z.keepS hs) (Z.Yd.quo rfl rfl (by intro hG; first | decide | omega) (by intro hG; first | exact Z.qi64 ⟨by omega, by omega⟩ (by omega) | exact rfl)) ?_
  refine Z.l rfl rfl (by rfl) (Z.keepS hs) (Z.Yd.rem rfl rfl (by intro hG; first | decide | omega) (by intro hG; first | exact Z.tmodn (by omega) | exact rfl)) ?_
  refine Z.lb 1 rfl ?_
  refine Z.l rfl rfl (by rfl) (Z.keepS hs) (Z.Yd.quo rfl rfl (by intro hG; first | decide | omega) (by intro hG; first | exact Z.qi64 ⟨by omega, by omega⟩ (by omega) | exact rfl)) ?_
  refine Z.l rfl rfl (by rfl) (Z.keepS hs) (Z.Yd.rem rfl rfl (by intro hG; first | decide | omega) (by intro hG; first | exact Z.tmodn (by omega) | exact rfl)) ?_
  refine Z.lb 1 rfl ?_
  refine Z.l rfl rfl (by rfl) (Z.keepS hs) (Z.Yd.rem rfl rfl (by intro hG; first | decide | omega) (by intro hG; first | exact Z.tmodn (by omega) | exact rfl)) ?_
  refine Z.l rfl rfl (by rfl) (Z.keepS hs) (Z.Yd.buildL [(0, 1), (1, 1), (2, 1), (3, 1)] [.int .i64 0, .int .i64 0, .int .i64 0, .int .i64 0] rfl rfl (by intro w; kernel_rfl)) ?_
  refine Z.l rfl rfl (by rfl) (Z.keepS hs) (Z.Yd.fieldA (m := 2) rfl (by kernel_rfl)) ?_
  refine Z.le rfl trivial ?_
  first | refine Z.ZO.storeA rfl rfl hs rfl rfl (by kernel_rfl) (by first | (simp [Value.oneCell']; done) | (refine Z.all_one ?_; assumption)) (by first | exact SX.at0 | exact SX.at1 | exact SX.at2 | exact SX.at3 | exact SX.at4 | exact SX.at5 | exact Z.at6 | exact Z.at7 | exact Z.at8 | exact Z.at9 | exact Z.at10 | exact Z.at11 | exact Z.at12) (by rfl) ?_ | refine Z.ZO.storeP rfl rfl hs rfl rfl (by kernel_rfl) (by first | (simp [Value.oneCell']; done) | (refine Z.all_one ?_; assumption)) (by first | exact SX.at0 | exact SX.at1 | exact SX.at2 | exact SX.at3 | exact SX.at4 | exact SX.at5 | exact Z.at6 | exact Z.at7 | exact Z.at8 | exact Z.at9 | exact Z.at10 | exact Z.at11 | exact Z.at12) (by first | decide | (simp; done) | (simp; omega)) ?_ | refine Z.ZO.storePR rfl rfl hs rfl rfl (by kernel_rfl) (by first | (simp [Value.oneCell']; done) | (refine Z.all_one ?_; assumption)) (by first | exact SX.at0 | exact SX.at1 | exact SX.at2 | exact SX.at3 | exact SX.at4 | exact SX.at5 | exact Z.at6 | exact Z.at7 | exact Z.at8 | exact Z.at9 | exact Z.at10 | exact Z.at11 | exact Z.at12) (by first | decide | (simp; done) | (simp; omega)) ?_
  clear hs; intro ws hs
  simp only [Nat.zero_add, Nat.add_zero, Nat.reduceAdd, Int.reduceToNat, Nat.reduceMul, List.set_cons_zero, List.set_cons_succ, List.setIfInBounds_toArray] at hs
  try simp only [Z.putL, Nat.zero_add] at hs
  refine Z.lnil ?_
  refine Z.only [2, 4] rfl ?_
  refine Z.nthen ?_
  refine Z.seq ?_
  refine Z.region ?_
  refine Z.l rfl rfl (by rfl) (Z.keepS hs) (by first | exact Z.Yd.loadA _ rfl Try.isAgg28 (fun _ => Z.cellsB (by first | ((repeat (first | exact List.mem_cons_self | refine List.mem_cons_of_mem _ ?_ | refine List.mem_append_right _ ?_)); done) | fail)) (by exact Try.sizeOf28) | fail "load 14.0") ?_
  refine Z.le rfl trivial ?_
  first | refine Z.ZO.storeA rfl rfl hs rfl rfl (by kernel_rfl) (by first | (simp [Value.oneCell']; done) | (refine Z.all_one ?_; assumption)) (by first | exact SX.at0 | exact SX.at1 | exact SX.at2 | exact SX.at3 | exact SX.at4 | exact SX.at5 | exact Z.at6 | exact Z.at7 | exact Z.at8 | exact Z.at9 | exact Z.at10 | exact Z.at11 | exact Z.at12) (by rfl) ?_ | refine Z.ZO.storeP rfl rfl hs rfl rfl (by kernel_rfl) (by first | (simp [Value.oneCell']; done) | (refine Z.all_one ?_; assumption)) (by first | exact SX.at0 | exact SX.at1 | exact SX.at2 | exact SX.at3 | exact SX.at4 | exact SX.at5 | exact Z.at6 | exact Z.at7 | exact Z.at8 | exact Z.at9 | exact Z.at10 | exact Z.at11 | exact Z.at12) (by first | decide | (simp; done) | (simp; omega)) ?_ | refine Z.ZO.storePR rfl rfl hs rfl rfl (by kernel_rfl) (by first | (simp [Value.oneCell']; done) | (refine Z.all_one ?_; assumption)) (by first | exact SX.at0 | exact SX.at1 | exact SX.at2 | exact SX.at3 | exact SX.at4 | exact SX.at5 | exact Z.at6 | exact Z.at7 | exact Z.at8 | exact Z.at9 | exact Z.at10 | exact Z.at11 | exact Z.at12) (by first | decide | (simp; done) | (simp; omega)) ?_
  clear hs; intro ws hs
  simp only [Nat.zero_add, Nat.add_zero, Nat.reduceAdd, Int.reduceToNat, Nat.reduceMul, List.set_cons_zero, List.set_cons_succ, List.setIfInBounds_toArray] at hs
  try simp only [Z.putL, Nat.zero_add] at hs
  refine Z.lb 1 rfl ?_
  refine Z.lnil ?_
  refine Z.only [2, 3] rfl ?_
  refine Z.nthen ?_
  refine Z.ret ?_
  -- ret#0
  refine Z.out2 (by exact ⟨⟨_, rfl, Z.rvcA hs Try.isAgg28 (by first | ((repeat (first | exact List.mem_cons_self | refine List.mem_cons_of_mem _ ?_ | refine List.mem_append_right _ ?_)); done) | fail) (by exact Try.sizeOf28)⟩, rfl, trivial⟩) ?_
  exact ⟨_, rfl, rfl, hs.sub (List.nil_sublist _)⟩
theorem rdecrep24 (lc : Int) (A : Option Addr) (m c : Nat) (l : List Int) (w : World) (hx : Sl w A (ints .u8 l)) (hl : l.length = m) (hb : Byts l) :
    Calls Try.prog 26 #[.agg #[.int .i64 lc, .slice A m c]] w (SX.Ret fun v w' => v = .tuple #[.agg (repV lc l).cells.toArray, .int .i64 (repE lc l)] ∧ SX.St w [] w' []) := by
  have hs := SX.St.start w
  by_cases h0 : repE lc l = 0
  · by_cases h30 : lc = 30
    · have eV : repV lc l = RepV.lng (num l) := by unfold repV; rw [if_neg (by omega), if_pos h30]
      rw [h0, eV]
      unfold repE at h0
      rw [if_pos h30] at h0
      subst h30
      exact rdecrep24_long A m c l w hx hl hb (by rw [← opE_sz 30]; exact h0)
    · have eV : repV lc l = RepV.short (num l / 64) (num l % 64) := by unfold repV; rw [if_neg (by omega), if_neg h30]
      rw [h0, eV]
      unfold repE at h0
      rw [if_neg h30] at h0
      obtain ⟨rfl, -⟩ := opE_len h0
      exact rdecrep24_short A m c l w hx hl hb (by rw [← opE_sz 29]; exact h0)
  · have eV : repV lc l = RepV.zero := by unfold repV; rw [if_pos h0]
    rw [eV]
    by_cases hlc : lc = 29 ∨ lc = 30
    · have eE : repE lc l = szE l (1 + 2 * (lc - 29)) := by
        unfold repE
        rcases hlc with rfl | rfl
        · rw [if_neg (by omega), opE_sz]; rfl
        · rw [if_pos rfl, opE_sz]; rfl
      rw [eE] at h0 ⊢
      have hlc2 : 29 ≤ lc ∧ lc ≤ 30 := by omega
      refine Z.enter Try.func26 rfl Try.ntmps26 rfl rfl ?_
      refine Z.seq ?_
      refine Z.region ?_
      refine Z.le rfl trivial ?_
      refine Z.ZO.box rfl rfl (by rfl) rfl rfl hs ?_
      clear hs; intro g1 w1 hs
      refine Z.le rfl trivial ?_
      refine Z.ZO.alloc rfl rfl (by rfl) Try.zeroValue28 rfl hs ?_
      clear hs; intro g2 w2 hs
      refine Z.lb 1 rfl ?_
      refine Z.lnil ?_
      refine Z.only [1, 2] rfl ?_
      refine Z.nthen ?_
      refine Z.seq ?_
      refine Z.region ?_
      refine Z.le rfl trivial ?_
      refine Z.ZO.alloc rfl rfl (by rfl) Try.zeroValue28 rfl hs ?_
      clear hs; intro g4 w4 hs
      refine Z.lnil ?_
      refine Z.only [1, 2, 4] rfl ?_
      refine Z.nthen ?_
      refine Z.seq ?_
      refine Z.seq ?_
      refine Z.region ?_
      refine Z.l rfl rfl (by rfl) (Z.keepS hs) (Z.Yd.fieldA (m := 0) rfl (by kernel_rfl)) ?_
      refine Z.l rfl rfl (by rfl) (Z.keepS hs) (by first | exact Z.Yd.load rfl Try.isAgg3 (fun _ => Z.cellB (by first | ((repeat (first | exact List.mem_cons_self | refine List.mem_cons_of_mem _ ?_ | refine List.mem_append_right _ ?_)); done) | fail) rfl) | exact Z.Yd.load rfl Try.isAgg3 (fun _ => Z.cellO (by assumption) (by simp) (by assumption)) | fail "load 2.1") ?_
      refine Z.lb 2 rfl ?_
      refine Z.l rfl rfl (by rfl) (Z.keepS hs) (Z.Yd.fieldA (m := 0) rfl (by kernel_rfl)) ?_
      refine Z.l rfl rfl (by rfl) (Z.keepS hs) (by first | exact Z.Yd.load rfl Try.isAgg3 (fun _ => Z.cellB (by first | ((repeat (first | exact List.mem_cons_self | refine List.mem_cons_of_mem _ ?_ | refine List.mem_append_right _ ?_)); done) | fail) rfl) | exact Z.Yd.load rfl Try.isAgg3 (fun _ => Z.cellO (by assumption) (by simp) (by assumption)) | fail "load 2.5") ?_
      refine Z.lb 2 rfl ?_
      refine Z.lnil ?_
      refine Z.only [1, 2, 4, 14] rfl ?_
      refine Z.nthen ?_
      refine Z.cond rfl (fun h => absurd h (by simp; omega)) (fun hc2 => ?_)
      refine Z.skip ?_
      refine Z.nthen ?_
      refine Z.seq ?_
      refine Z.seq ?_
      refine Z.region ?_
      refine Z.l rfl rfl (by rfl) (Z.keepS hs) (by first | exact Z.Yd.loadA _ rfl Try.isAgg31 (fun _ => Z.cellsB (by first | ((repeat (first | exact List.mem_cons_self | refine List.mem_cons_of_mem _ ?_ | refine List.mem_append_right _ ?_)); done) | fail)) (by exact Try.sizeOf31) | fail "load 4.0") ?_
      refine Z.l rfl rfl (by rfl) (Z.keepS hs) (Z.Yd.fieldA (m := 0) rfl (by kernel_rfl)) ?_
      refine Z.l rfl rfl (by rfl) (Z.keepS hs) (by first | exact Z.Yd.load rfl Try.isAgg3 (fun _ => Z.cellB (by first | ((repeat (first | exact List.mem_cons_self | refine List.mem_cons_of_mem _ ?_ | refine List.mem_append_right _ ?_)); done) | fail) rfl) | exact Z.Yd.load rfl Try.isAgg3 (fun _ => Z.cellO (by assumption) (by simp) (by assumption)) | fail "load 4.2") ?_
      refine Z.l rfl rfl (by rfl) (Z.keepS hs) (Z.Yd.sub rfl rfl (fun hG => Z.wi64 (by first | omega | (have hG' := Z.gh rfl hG; simp at hG'; omega)))) ?_
      refine Z.l rfl rfl (by rfl) (Z.keepS hs) (Z.Yd.mul rfl rfl (fun hG => Z.wi64 (by first | omega | (have hG' := Z.gh rfl hG; simp at hG'; omega)))) ?_
      refine Z.l rfl rfl (by rfl) (Z.keepS hs) (Z.Yd.add rfl rfl (fun hG => Z.wi64 (by first | omega | (have hG' := Z.gh rfl hG; simp at hG'; omega)))) ?_
      refine Z.le rfl trivial ?_
      refine Z.ZO.call rfl rfl (by rfl) rfl rfl Try.call52 rfl (rsize24 lc _ _ m c l _ hl) ?_
      rintro v4_6 w4_6 ⟨rfl, hy⟩
      replace hs := hs.call hy
      clear hy
      try simp only [List.cons_append, List.nil_append, List.append_nil] at hs
      refine Z.lb 1 rfl ?_
      refine Z.lnil ?_
      refine Z.only [1, 2, 4, 5] rfl ?_
      refine Z.nthen ?_
      refine Z.seq ?_
      refine Z.region ?_
      refine Z.lb 2 rfl ?_
      refine Z.lnil ?_
      refine Z.only [1, 2, 4, 5, 24] rfl ?_
      refine Z.nthen ?_
      refine Z.cond rfl (fun hc5 => ?_) (fun h => absurd h (by simpa using h0))
      refine Z.seq ?_
      refine Z.region ?_
      refine Z.l rfl rfl (by rfl) (Z.keepS hs) (by first | exact Z.Yd.loadA _ rfl Try.isAgg28 (fun _ => Z.cellsB (by first | ((repeat (first | exact List.mem_cons_self | refine List.mem_cons_of_mem _ ?_ | refine List.mem_append_right _ ?_)); done) | fail)) (by exact Try.sizeOf28) | fail "load 6.0") ?_
      refine Z.lb 1 rfl ?_
      refine Z.le rfl trivial ?_
      first | refine Z.ZO.storeA rfl rfl hs rfl rfl (by kernel_rfl) (by first | (simp [Value.oneCell']; done) | (refine Z.all_one ?_; assumption)) (by first | exact SX.at0 | exact SX.at1 | exact SX.at2 | exact SX.at3 | exact SX.at4 | exact SX.at5 | exact Z.at6 | exact Z.at7 | exact Z.at8 | exact Z.at9 | exact Z.at10 | exact Z.at11 | exact Z.at12) (by rfl) ?_ | refine Z.ZO.storeP rfl rfl hs rfl rfl (by kernel_rfl) (by first | (simp [Value.oneCell']; done) | (refine Z.all_one ?_; assumption)) (by first | exact SX.at0 | exact SX.at1 | exact SX.at2 | exact SX.at3 | exact SX.at4 | exact SX.at5 | exact Z.at6 | exact Z.at7 | exact Z.at8 | exact Z.at9 | exact Z.at10 | exact Z.at11 | exact Z.at12) (by first | decide | (simp; done) | (simp; omega)) ?_ | refine Z.ZO.storePR rfl rfl hs rfl rfl (by kernel_rfl) (by first | (simp [Value.oneCell']; done) | (refine Z.all_one ?_; assumption)) (by first | exact SX.at0 | exact SX.at1 | exact SX.at2 | exact SX.at3 | exact SX.at4 | exact SX.at5 | exact Z.at6 | exact Z.at7 | exact Z.at8 | exact Z.at9 | exact Z.at10 | exact Z.at11 | exact Z.at12) (by first | decide | (simp; done) | (simp; omega)) ?_
      clear hs; intro ws hs
      simp only [Nat.zero_add, Nat.add_zero, Nat.reduceAdd, Int.reduceToNat, Nat.reduceMul, List.set_cons_zero, List.set_cons_succ, List.setIfInBounds_toArray] at hs
      try simp only [Z.putL, Nat.zero_add] at hs
      refine Z.lb 1 rfl ?_
      refine Z.lnil ?_
      refine Z.only [2, 3] rfl ?_
      refine Z.nthen ?_
      refine Z.ret ?_
      repeat (first | refine Z.rthen ?_ | refine Z.rblock ?_ | refine Z.rscope ?_)
      -- ret#0
      refine Z.out2 (by exact ⟨⟨_, rfl, Z.rvcA hs Try.isAgg28 (by first | ((repeat (first | exact List.mem_cons_self | refine List.mem_cons_of_mem _ ?_ | refine List.mem_append_right _ ?_)); done) | fail) (by exact Try.sizeOf28)⟩, rfl, trivial⟩) ?_
      exact ⟨_, rfl, rfl, hs.sub (List.nil_sublist _)⟩
    · have eE : repE lc l = 2 := by
        unfold repE
        rw [if_neg (by omega), opE, if_pos (by omega)]
      rw [eE]
      refine Z.enter Try.func26 rfl Try.ntmps26 rfl rfl ?_
      refine Z.seq ?_
      refine Z.region ?_
      refine Z.le rfl trivial ?_
      refine Z.ZO.box rfl rfl (by rfl) rfl rfl hs ?_
      clear hs; intro g1 w1 hs
      refine Z.le rfl trivial ?_
      refine Z.ZO.alloc rfl rfl (by rfl) Try.zeroValue28 rfl hs ?_
      clear hs; intro g2 w2 hs
      refine Z.lb 1 rfl ?_
      refine Z.lnil ?_
      refine Z.only [1, 2] rfl ?_
      refine Z.nthen ?_
      refine Z.seq ?_
      refine Z.region ?_
      refine Z.le rfl trivial ?_
      refine Z.ZO.alloc rfl rfl (by rfl) Try.zeroValue28 rfl hs ?_
      clear hs; intro g4 w4 hs
      refine Z.lnil ?_
      refine Z.only [1, 2, 4] rfl ?_
      refine Z.nthen ?_
      refine Z.seq ?_
      refine Z.seq ?_
      refine Z.region ?_
      refine Z.l rfl rfl (by rfl) (Z.keepS hs) (Z.Yd.fieldA (m := 0) rfl (by kernel_rfl)) ?_
      refine Z.l rfl rfl (by rfl) (Z.keepS hs) (by first | exact Z.Yd.load rfl Try.isAgg3 (fun _ => Z.cellB (by first | ((repeat (first | exact List.mem_cons_self | refine List.mem_cons_of_mem _ ?_ | refine List.mem_append_right _ ?_)); done) | fail) rfl) | exact Z.Yd.load rfl Try.isAgg3 (fun _ => Z.cellO (by assumption) (by simp) (by assumption)) | fail "load 2.1") ?_
      refine Z.lb 2 rfl ?_
      refine Z.l rfl rfl (by rfl) (Z.keepS hs) (Z.Yd.fieldA (m := 0) rfl (by kernel_rfl)) ?_
      refine Z.l rfl rfl (by rfl) (Z.keepS hs) (by first | exact Z.Yd.load rfl Try.isAgg3 (fun _ => Z.cellB (by first | ((repeat (first | exact List.mem_cons_self | refine List.mem_cons_of_mem _ ?_ | refine List.mem_append_right _ ?_)); done) | fail) rfl) | exact Z.Yd.load rfl Try.isAgg3 (fun _ => Z.cellO (by assumption) (by simp) (by assumption)) | fail "load 2.5") ?_
      refine Z.lb 2 rfl ?_
      refine Z.lnil ?_
      refine Z.only [1, 2, 4, 14] rfl ?_
      refine Z.nthen ?_
      refine Z.cond rfl (fun hc2 => ?_) (fun h => absurd h (by simp; omega))
      refine Z.seq ?_
      refine Z.region ?_
      refine Z.l rfl rfl (by rfl) (Z.keepS hs) (by first | exact Z.Yd.loadA _ rfl Try.isAgg28 (fun _ => Z.cellsB (by first | ((repeat (first | exact List.mem_cons_self | refine List.mem_cons_of_mem _ ?_ | refine List.mem_append_right _ ?_)); done) | fail)) (by exact Try.sizeOf28) | fail "load 3.0") ?_
      refine Z.le rfl trivial ?_
      first | refine Z.ZO.storeA rfl rfl hs rfl rfl (by kernel_rfl) (by first | (simp [Value.oneCell']; done) | (refine Z.all_one ?_; assumption)) (by first | exact SX.at0 | exact SX.at1 | exact SX.at2 | exact SX.at3 | exact SX.at4 | exact SX.at5 | exact Z.at6 | exact Z.at7 | exact Z.at8 | exact Z.at9 | exact Z.at10 | exact Z.at11 | exact Z.at12) (by rfl) ?_ | refine Z.ZO.storeP rfl rfl hs rfl rfl (by kernel_rfl) (by first | (simp [Value.oneCell']; done) | (refine Z.all_one ?_; assumption)) (by first | exact SX.at0 | exact SX.at1 | exact SX.at2 | exact SX.at3 | exact SX.at4 | exact SX.at5 | exact Z.at6 | exact Z.at7 | exact Z.at8 | exact Z.at9 | exact Z.at10 | exact Z.at11 | exact Z.at12) (by first | decide | (simp; done) | (simp; omega)) ?_ | refine Z.ZO.storePR rfl rfl hs rfl rfl (by kernel_rfl) (by first | (simp [Value.oneCell']; done) | (refine Z.all_one ?_; assumption)) (by first | exact SX.at0 | exact SX.at1 | exact SX.at2 | exact SX.at3 | exact SX.at4 | exact SX.at5 | exact Z.at6 | exact Z.at7 | exact Z.at8 | exact Z.at9 | exact Z.at10 | exact Z.at11 | exact Z.at12) (by first | decide | (simp; done) | (simp; omega)) ?_
      clear hs; intro ws hs
      simp only [Nat.zero_add, Nat.add_zero, Nat.reduceAdd, Int.reduceToNat, Nat.reduceMul, List.set_cons_zero, List.set_cons_succ, List.setIfInBounds_toArray] at hs
      try simp only [Z.putL, Nat.zero_add] at hs
      refine Z.lb 1 rfl ?_
      refine Z.lnil ?_
      refine Z.only [2, 3] rfl ?_
      refine Z.nthen ?_
      refine Z.ret ?_
      repeat (first | refine Z.rthen ?_ | refine Z.rblock ?_ | refine Z.rscope ?_)
      -- ret#0
      refine Z.out2 (by exact ⟨⟨_, rfl, Z.rvcA hs Try.isAgg28 (by first | ((repeat (first | exact List.mem_cons_self | refine List.mem_cons_of_mem _ ?_ | refine List.mem_append_right _ ?_)); done) | fail) (by exact Try.sizeOf28)⟩, rfl, trivial⟩) ?_
      exact ⟨_, rfl, rfl, hs.sub (List.nil_sublist _)⟩
end Go.Proofs.Yteabcdmgklhijaa

/- Control elements: any part asz each of the elements. -/
namespace Go.Proofs.Yteabcdmgklhijaa
open Go.RowKit
set_option linter.unusedSimpArgs false
set_option linter.unusedVariables false
--newlaws

set_option maxRecDepth 100000 in
theorem controlDecodes_walk (lc : Int) (A : Option Addr) (m c : Nat) (l : List Int) (w : World) (hx : Sl w A (ints .u8 l)) (hl : l.length = m) (hm : m ≤ maxLen) (hb : Byts l) :
    Calls Try.prog 7 #[.agg #[.int .i64 lc, .slice A m c]] w (SX.Ret fun v w' => v = .bool true ∧ SX.St w [] w' []) := by
  have hs := SX.St.start w
  have hone : ∀ u ∈ (repV lc l).cells, u.oneCell' = true := by simp [RepV.cells, Value.oneCell']
  by_cases h20 : m ≤ 20
  · skip
    refine Z.enter Try.func7 rfl Try.ntmps7 rfl rfl ?_
    refine Z.seq ?_
    refine Z.region ?_
    refine Z.le rfl trivial ?_
    refine Z.ZO.box rfl rfl (by rfl) rfl rfl hs ?_
    clear hs; intro g1 w1 hs
    refine Z.lb 1 rfl ?_
    refine Z.lnil ?_
    refine Z.only [1] rfl ?_
    refine Z.nthen ?_
    refine Z.seq ?_
    refine Z.seq ?_
    refine Z.region ?_
    refine Z.l rfl rfl (by rfl) (Z.keepS hs) (Z.Yd.fieldA (m := 1) rfl (by kernel_rfl)) ?_
    refine Z.l rfl rfl (by rfl) (Z.keepS hs) (by first | exact Z.Yd.load rfl Try.isAgg29 (fun _ => Z.cellB (by first | ((repeat (first | exact List.mem_cons_self | refine List.mem_cons_of_mem _ ?_ | refine List.mem_append_right _ ?_)); done) | fail) rfl) | exact Z.Yd.load rfl Try.isAgg29 (fun _ => Z.cellO (by assumption) (by simp) (by assumption)) | fail "load 1.1") ?_
    refine Z.l rfl rfl (by rfl) (Z.keepS hs) (Z.Yd.lenS rfl Try.underlying29) ?_
    refine Z.lb 1 rfl ?_
    refine Z.lnil ?_
    refine Z.only [1, 19] rfl ?_
    refine Z.nthen ?_
    refine Z.cond rfl (fun h => absurd h (by simp; omega)) (fun hc1 => ?_)
    refine Z.skip ?_
    refine Z.nthen ?_
    refine Z.seq ?_
    refine Z.cutt (ι := Nat × Value) [1] rfl (fun x => [(3, [], .pointer (some ⟨x.1, 0, none⟩))]) (fun x wr => SX.St w [] wr [SX.Ent.row x.2 5 1 m (ints .u8 l), SX.Ent.blk x.1 31 #[.int .i64 lc, x.2], SX.Ent.blk g1 31 #[.int .i64 lc, .slice A m c]]) ?_ ?_
    · skip
      refine Z.drawK (fun _ => true) mixed hs ?_
      clear hs; intro wd3 hs
      refine Z.t 0 rfl rfl rfl (by rfl) (by kernel_rfl) ⟨_, hs, by first | (simp; done) | exact fun e he => List.mem_append_right _ he⟩ (Z.Yd.fieldA (m := 0) rfl (by kernel_rfl)) ?_
      refine Z.t 1 rfl rfl rfl (by rfl) (by kernel_rfl) ⟨_, hs, by first | (simp; done) | exact fun e he => List.mem_append_right _ he⟩ (by first | exact Z.Yd.load rfl Try.isAgg3 (fun _ => Z.cellB (by first | ((repeat (first | exact List.mem_cons_self | refine List.mem_cons_of_mem _ ?_ | refine List.mem_append_right _ ?_)); done) | fail) rfl) | exact Z.Yd.load rfl Try.isAgg3 (fun _ => Z.cellO (by assumption) (by simp) (by assumption)) | fail "load 3.1") ?_
      refine Z.t 3 rfl rfl rfl (by rfl) (by kernel_rfl) ⟨_, hs, by first | (simp; done) | exact fun e he => List.mem_append_right _ he⟩ (Z.Yd.fieldA (m := 1) rfl (by kernel_rfl)) ?_
      refine Z.t 4 rfl rfl rfl (by rfl) (by kernel_rfl) ⟨_, hs, by first | (simp; done) | exact fun e he => List.mem_append_right _ he⟩ (by first | exact Z.Yd.load rfl Try.isAgg29 (fun _ => Z.cellB (by first | ((repeat (first | exact List.mem_cons_self | refine List.mem_cons_of_mem _ ?_ | refine List.mem_append_right _ ?_)); done) | fail) rfl) | exact Z.Yd.load rfl Try.isAgg29 (fun _ => Z.cellO (by assumption) (by simp) (by assumption)) | fail "load 3.4") ?_
      refine Z.fork2 2 7 rfl rfl rfl (by kernel_rfl) rfl rfl trivial trivial ?_ ?_
      · skip
        refine Z.ZO.empty rfl rfl (by rfl) Try.underlying29 Try.sizeOf5 hs ?_
        clear hs; intro g23 w23 hs
        refine Z.tk (Dn := fun _ => true) (i := 2) (fun _ => ⟨_, hs, by first | (simp; done) | exact fun e he => List.mem_append_right _ he⟩) ?_
        refine Z.fork2 5 7 rfl rfl rfl (by kernel_rfl) rfl rfl trivial trivial ?_ ?_
        · skip
          refine Z.ZO.appendG (i0 := Try.t5) (size := 1) (bytes := 1) rfl rfl (by rfl) hs Try.underlying29 (by kernel_rfl) rfl rfl rfl rfl (by decide) rfl rfl (by first | exact SX.at0 | exact SX.at1 | exact SX.at2 | exact SX.at3 | exact SX.at4 | exact SX.at5 | exact Z.at6 | exact Z.at7 | exact Z.at8 | exact Z.at9 | exact Z.at10 | exact Z.at11 | exact Z.at12) (hx.st (hs.sub (List.nil_sublist _))) (by first | rfl | (simp [ints_length]; done) | (simp [ints_length]; omega)) (by first | exact Z.ints_one | simp [Value.oneCell']) (by unfold maxLen; omega) (by omega) ?_
          clear hs; intro v26 w26 hs
          simp only [List.set_cons_zero, List.set_cons_succ] at hs
          obtain ⟨B26, c26, rfl, -, -, -⟩ : ∃ B26 c26, v26 = .slice B26 (0 + m) c26 ∧ True ∧ True ∧ True := by
            first
            | (obtain ⟨B, c, h, -, -, -⟩ := SX.row_slv hs (j := 0) rfl; exact ⟨B, c, h, trivial, trivial, trivial⟩)
            | (obtain ⟨B, c, h, -, -, -⟩ := SX.row_slv hs (j := 1) rfl; exact ⟨B, c, h, trivial, trivial, trivial⟩)
            | (obtain ⟨B, c, h, -, -, -⟩ := SX.row_slv hs (j := 2) rfl; exact ⟨B, c, h, trivial, trivial, trivial⟩)
          rw [Nat.zero_add, List.nil_append] at hs
          refine Z.tk (Dn := fun _ => true) (i := 5) (fun _ => ⟨_, hs, by first | (simp; done) | exact fun e he => List.mem_append_right _ he⟩) ?_
          refine Z.t 6 rfl rfl rfl (by rfl) (by kernel_rfl) ⟨_, hs, by first | (simp; done) | exact fun e he => List.mem_append_right _ he⟩ (Z.Yd.buildL [(0, 1), (1, 1)] [.int .i64 0, .slice none 0 0] rfl rfl (by intro w; kernel_rfl)) ?_
          refine Z.tn 7 rfl rfl (by kernel_rfl) rfl trivial ?_
          refine Z.ZO.alloc rfl rfl (by rfl) Try.zeroValue31 rfl hs ?_
          clear hs; intro g3 w3 hs
          refine Z.tk (Dn := fun _ => true) (i := 7) (fun _ => ⟨_, hs, by first | (simp; done) | exact fun e he => List.mem_append_right _ he⟩) ?_
          refine Z.tn 8 rfl rfl (by kernel_rfl) rfl trivial ?_
          first | refine Z.ZO.storeA rfl rfl hs rfl rfl (by kernel_rfl) (by first | (simp [Value.oneCell']; done) | (refine Z.all_one ?_; assumption)) (by first | exact SX.at0 | exact SX.at1 | exact SX.at2 | exact SX.at3 | exact SX.at4 | exact SX.at5 | exact Z.at6 | exact Z.at7 | exact Z.at8 | exact Z.at9 | exact Z.at10 | exact Z.at11 | exact Z.at12) (by rfl) ?_ | refine Z.ZO.storeP rfl rfl hs rfl rfl (by kernel_rfl) (by first | (simp [Value.oneCell']; done) | (refine Z.all_one ?_; assumption)) (by first | exact SX.at0 | exact SX.at1 | exact SX.at2 | exact SX.at3 | exact SX.at4 | exact SX.at5 | exact Z.at6 | exact Z.at7 | exact Z.at8 | exact Z.at9 | exact Z.at10 | exact Z.at11 | exact Z.at12) (by first | decide | (simp; done) | (simp; omega)) ?_ | refine Z.ZO.storePR rfl rfl hs rfl rfl (by kernel_rfl) (by first | (simp [Value.oneCell']; done) | (refine Z.all_one ?_; assumption)) (by first | exact SX.at0 | exact SX.at1 | exact SX.at2 | exact SX.at3 | exact SX.at4 | exact SX.at5 | exact Z.at6 | exact Z.at7 | exact Z.at8 | exact Z.at9 | exact Z.at10 | exact Z.at11 | exact Z.at12) (by first | decide | (simp; done) | (simp; omega)) ?_
          clear hs; intro ws hs
          simp only [Nat.zero_add, Nat.add_zero, Nat.reduceAdd, Int.reduceToNat, Nat.reduceMul, List.set_cons_zero, List.set_cons_succ, List.setIfInBounds_toArray] at hs
          try simp only [Z.putL, Nat.zero_add] at hs
          refine Z.tk (Dn := fun _ => true) (i := 8) (fun _ => ⟨_, hs, by first | (simp; done) | exact fun e he => List.mem_append_right _ he⟩) ?_
          refine Z.td (by rfl) (by kernel_rfl) ?_
          refine Z.only [1, 3] rfl ?_
          refine Z.nthen ?_
          exact Z.meet (g3, _) (by refine ⟨?_, ?_, trivial⟩ <;> (first | rfl | (refine Z.lookv rfl ?_; simp; done) | (refine Z.lookv rfl ?_; simp; omega))) (by first | exact hs | exact hs.sel [1, 0, 2] (by decide))
        · skip
          refine Z.ZO.alloc rfl rfl (by rfl) Try.zeroValue31 rfl hs ?_
          clear hs; intro g3 w3 hs
          refine Z.tk (Dn := fun _ => true) (i := 7) (fun _ => ⟨_, hs, by first | (simp; done) | exact fun e he => List.mem_append_right _ he⟩) ?_
          refine Z.tn 5 rfl rfl (by kernel_rfl) rfl trivial ?_
          refine Z.ZO.appendG (i0 := Try.t5) (size := 1) (bytes := 1) rfl rfl (by rfl) hs Try.underlying29 (by kernel_rfl) rfl rfl rfl rfl (by decide) rfl rfl (by first | exact SX.at0 | exact SX.at1 | exact SX.at2 | exact SX.at3 | exact SX.at4 | exact SX.at5 | exact Z.at6 | exact Z.at7 | exact Z.at8 | exact Z.at9 | exact Z.at10 | exact Z.at11 | exact Z.at12) (hx.st (hs.sub (List.nil_sublist _))) (by first | rfl | (simp [ints_length]; done) | (simp [ints_length]; omega)) (by first | exact Z.ints_one | simp [Value.oneCell']) (by unfold maxLen; omega) (by omega) ?_
          clear hs; intro v26 w26 hs
          simp only [List.set_cons_zero, List.set_cons_succ] at hs
          obtain ⟨B26, c26, rfl, -, -, -⟩ : ∃ B26 c26, v26 = .slice B26 (0 + m) c26 ∧ True ∧ True ∧ True := by
            first
            | (obtain ⟨B, c, h, -, -, -⟩ := SX.row_slv hs (j := 0) rfl; exact ⟨B, c, h, trivial, trivial, trivial⟩)
            | (obtain ⟨B, c, h, -, -, -⟩ := SX.row_slv hs (j := 1) rfl; exact ⟨B, c, h, trivial, trivial, trivial⟩)
            | (obtain ⟨B, c, h, -, -, -⟩ := SX.row_slv hs (j := 2) rfl; exact ⟨B, c, h, trivial, trivial, trivial⟩)
          rw [Nat.zero_add, List.nil_append] at hs
          refine Z.tk (Dn := fun _ => true) (i := 5) (fun _ => ⟨_, hs, by first | (simp; done) | exact fun e he => List.mem_append_right _ he⟩) ?_
          refine Z.t 6 rfl rfl rfl (by rfl) (by kernel_rfl) ⟨_, hs, by first | (simp; done) | exact fun e he => List.mem_append_right _ he⟩ (Z.Yd.buildL [(0, 1), (1, 1)] [.int .i64 0, .slice none 0 0] rfl rfl (by intro w; kernel_rfl)) ?_
          refine Z.tn 8 rfl rfl (by kernel_rfl) rfl trivial ?_
          first | refine Z.ZO.storeA rfl rfl hs rfl rfl (by kernel_rfl) (by first | (simp [Value.oneCell']; done) | (refine Z.all_one ?_; assumption)) (by first | exact SX.at0 | exact SX.at1 | exact SX.at2 | exact SX.at3 | exact SX.at4 | exact SX.at5 | exact Z.at6 | exact Z.at7 | exact Z.at8 | exact Z.at9 | exact Z.at10 | exact Z.at11 | exact Z.at12) (by rfl) ?_ | refine Z.ZO.storeP rfl rfl hs rfl rfl (by kernel_rfl) (by first | (simp [Value.oneCell']; done) | (refine Z.all_one ?_; assumption)) (by first | exact SX.at0 | exact SX.at1 | exact SX.at2 | exact SX.at3 | exact SX.at4 | exact SX.at5 | exact Z.at6 | exact Z.at7 | exact Z.at8 | exact Z.at9 | exact Z.at10 | exact Z.at11 | exact Z.at12) (by first | decide | (simp; done) | (simp; omega)) ?_ | refine Z.ZO.storePR rfl rfl hs rfl rfl (by kernel_rfl) (by first | (simp [Value.oneCell']; done) | (refine Z.all_one ?_; assumption)) (by first | exact SX.at0 | exact SX.at1 | exact SX.at2 | exact SX.at3 | exact SX.at4 | exact SX.at5 | exact Z.at6 | exact Z.at7 | exact Z.at8 | exact Z.at9 | exact Z.at10 | exact Z.at11 | exact Z.at12) (by first | decide | (simp; done) | (simp; omega)) ?_
          clear hs; intro ws hs
          simp only [Nat.zero_add, Nat.add_zero, Nat.reduceAdd, Int.reduceToNat, Nat.reduceMul, List.set_cons_zero, List.set_cons_succ, List.setIfInBounds_toArray] at hs
          try simp only [Z.putL, Nat.zero_add] at hs
          refine Z.tk (Dn := fun _ => true) (i := 8) (fun _ => ⟨_, hs, by first | (simp; done) | exact fun e he => List.mem_append_right _ he⟩) ?_
          refine Z.td (by rfl) (by kernel_rfl) ?_
          refine Z.only [1, 3] rfl ?_
          refine Z.nthen ?_
          exact Z.meet (g3, _) (by refine ⟨?_, ?_, trivial⟩ <;> (first | rfl | (refine Z.lookv rfl ?_; simp; done) | (refine Z.lookv rfl ?_; simp; omega))) (by first | exact hs | exact hs.sel [1, 0, 2] (by decide))
      · skip
        refine Z.ZO.alloc rfl rfl (by rfl) Try.zeroValue31 rfl hs ?_
        clear hs; intro g3 w3 hs
        refine Z.tk (Dn := fun _ => true) (i := 7) (fun _ => ⟨_, hs, by first | (simp; done) | exact fun e he => List.mem_append_right _ he⟩) ?_
        refine Z.tn 2 rfl rfl (by kernel_rfl) rfl trivial ?_
        refine Z.ZO.empty rfl rfl (by rfl) Try.underlying29 Try.sizeOf5 hs ?_
        clear hs; intro g23 w23 hs
        refine Z.tk (Dn := fun _ => true) (i := 2) (fun _ => ⟨_, hs, by first | (simp; done) | exact fun e he => List.mem_append_right _ he⟩) ?_
        refine Z.tn 5 rfl rfl (by kernel_rfl) rfl trivial ?_
        refine Z.ZO.appendG (i0 := Try.t5) (size := 1) (bytes := 1) rfl rfl (by rfl) hs Try.underlying29 (by kernel_rfl) rfl rfl rfl rfl (by decide) rfl rfl (by first | exact SX.at0 | exact SX.at1 | exact SX.at2 | exact SX.at3 | exact SX.at4 | exact SX.at5 | exact Z.at6 | exact Z.at7 | exact Z.at8 | exact Z.at9 | exact Z.at10 | exact Z.at11 | exact Z.at12) (hx.st (hs.sub (List.nil_sublist _))) (by first | rfl | (simp [ints_length]; done) | (simp [ints_length]; omega)) (by first | exact Z.ints_one | simp [Value.oneCell']) (by unfold maxLen; omega) (by omega) ?_
        clear hs; intro v26 w26 hs
        simp only [List.set_cons_zero, List.set_cons_succ] at hs
        obtain ⟨B26, c26, rfl, -, -, -⟩ : ∃ B26 c26, v26 = .slice B26 (0 + m) c26 ∧ True ∧ True ∧ True := by
          first
          | (obtain ⟨B, c, h, -, -, -⟩ := SX.row_slv hs (j := 0) rfl; exact ⟨B, c, h, trivial, trivial, trivial⟩)
          | (obtain ⟨B, c, h, -, -, -⟩ := SX.row_slv hs (j := 1) rfl; exact ⟨B, c, h, trivial, trivial, trivial⟩)
          | (obtain ⟨B, c, h, -, -, -⟩ := SX.row_slv hs (j := 2) rfl; exact ⟨B, c, h, trivial, trivial, trivial⟩)
        rw [Nat.zero_add, List.nil_append] at hs
        refine Z.tk (Dn := fun _ => true) (i := 5) (fun _ => ⟨_, hs, by first | (simp; done) | exact fun e he => List.mem_append_right _ he⟩) ?_
        refine Z.t 6 rfl rfl rfl (by rfl) (by kernel_rfl) ⟨_, hs, by first | (simp; done) | exact fun e he => List.mem_append_right _ he⟩ (Z.Yd.buildL [(0, 1), (1, 1)] [.int .i64 0, .slice none 0 0] rfl rfl (by intro w; kernel_rfl)) ?_
        refine Z.tn 8 rfl rfl (by kernel_rfl) rfl trivial ?_
        first | refine Z.ZO.storeA rfl rfl hs rfl rfl (by kernel_rfl) (by first | (simp [Value.oneCell']; done) | (refine Z.all_one ?_; assumption)) (by first | exact SX.at0 | exact SX.at1 | exact SX.at2 | exact SX.at3 | exact SX.at4 | exact SX.at5 | exact Z.at6 | exact Z.at7 | exact Z.at8 | exact Z.at9 | exact Z.at10 | exact Z.at11 | exact Z.at12) (by rfl) ?_ | refine Z.ZO.storeP rfl rfl hs rfl rfl (by kernel_rfl) (by first | (simp [Value.oneCell']; done) | (refine Z.all_one ?_; assumption)) (by first | exact SX.at0 | exact SX.at1 | exact SX.at2 | exact SX.at3 | exact SX.at4 | exact SX.at5 | exact Z.at6 | exact Z.at7 | exact Z.at8 | exact Z.at9 | exact Z.at10 | exact Z.at11 | exact Z.at12) (by first | decide | (simp; done) | (simp; omega)) ?_ | refine Z.ZO.storePR rfl rfl hs rfl rfl (by kernel_rfl) (by first | (simp [Value.oneCell']; done) | (refine Z.all_one ?_; assumption)) (by first | exact SX.at0 | exact SX.at1 | exact SX.at2 | exact SX.at3 | exact SX.at4 | exact SX.at5 | exact Z.at6 | exact Z.at7 | exact Z.at8 | exact Z.at9 | exact Z.at10 | exact Z.at11 | exact Z.at12) (by first | decide | (simp; done) | (simp; omega)) ?_
        clear hs; intro ws hs
        simp only [Nat.zero_add, Nat.add_zero, Nat.reduceAdd, Int.reduceToNat, Nat.reduceMul, List.set_cons_zero, List.set_cons_succ, List.setIfInBounds_toArray] at hs
        try simp only [Z.putL, Nat.zero_add] at hs
        refine Z.tk (Dn := fun _ => true) (i := 8) (fun _ => ⟨_, hs, by first | (simp; done) | exact fun e he => List.mem_append_right _ he⟩) ?_
        refine Z.td (by rfl) (by kernel_rfl) ?_
        refine Z.only [1, 3] rfl ?_
        refine Z.nthen ?_
        exact Z.meet (g3, _) (by refine ⟨?_, ?_, trivial⟩ <;> (first | rfl | (refine Z.lookv rfl ?_; simp; done) | (refine Z.lookv rfl ?_; simp; omega))) (by first | exact hs | exact hs.sel [1, 0, 2] (by decide))
    · clear hs
      rintro ⟨g3, sv⟩ w2 hs
      obtain ⟨B, d, rfl, -, -, -⟩ := SX.row_slv hs (j := 0) rfl
      refine Z.only [1, 3] rfl ?_
      (try dsimp only at hs)
      refine Z.seq ?_
      refine Z.region ?_
      refine Z.l rfl rfl (by rfl) (Z.keepS hs) (by first | exact Z.Yd.loadA _ rfl Try.isAgg31 (fun _ => Z.cellsB (by first | ((repeat (first | exact List.mem_cons_self | refine List.mem_cons_of_mem _ ?_ | refine List.mem_append_right _ ?_)); done) | fail)) (by exact Try.sizeOf31) | fail "load 4.0") ?_
      refine Z.le rfl trivial ?_
      refine Z.ZO.call rfl rfl (by rfl) rfl rfl Try.call23 rfl (decrep_any lc B m d l _ ((hs.slm (by first | ((repeat (first | exact List.mem_cons_self | refine List.mem_cons_of_mem _ ?_ | refine List.mem_append_right _ ?_)); done) | fail)).sx) hl (by omega) hb) ?_
      rintro v4_1 w4_1 ⟨rfl, hy⟩
      replace hs := hs.call hy
      clear hy
      try simp only [List.cons_append, List.nil_append, List.append_nil] at hs
      refine Z.lb 3 rfl ?_
      refine Z.le rfl trivial ?_
      refine Z.ZO.alloc rfl rfl (by rfl) Try.zeroValue28 rfl hs ?_
      clear hs; intro g4 w4 hs
      refine Z.le rfl trivial ?_
      first | refine Z.ZO.storeA rfl rfl hs rfl rfl (by kernel_rfl) (by first | (simp [Value.oneCell']; done) | (refine Z.all_one ?_; assumption)) (by first | exact SX.at0 | exact SX.at1 | exact SX.at2 | exact SX.at3 | exact SX.at4 | exact SX.at5 | exact Z.at6 | exact Z.at7 | exact Z.at8 | exact Z.at9 | exact Z.at10 | exact Z.at11 | exact Z.at12) (by rfl) ?_ | refine Z.ZO.storeP rfl rfl hs rfl rfl (by kernel_rfl) (by first | (simp [Value.oneCell']; done) | (refine Z.all_one ?_; assumption)) (by first | exact SX.at0 | exact SX.at1 | exact SX.at2 | exact SX.at3 | exact SX.at4 | exact SX.at5 | exact Z.at6 | exact Z.at7 | exact Z.at8 | exact Z.at9 | exact Z.at10 | exact Z.at11 | exact Z.at12) (by first | decide | (simp; done) | (simp; omega)) ?_ | refine Z.ZO.storePR rfl rfl hs rfl rfl (by kernel_rfl) (by first | (simp [Value.oneCell']; done) | (refine Z.all_one ?_; assumption)) (by first | exact SX.at0 | exact SX.at1 | exact SX.at2 | exact SX.at3 | exact SX.at4 | exact SX.at5 | exact Z.at6 | exact Z.at7 | exact Z.at8 | exact Z.at9 | exact Z.at10 | exact Z.at11 | exact Z.at12) (by first | decide | (simp; done) | (simp; omega)) ?_
      clear hs; intro ws hs
      simp only [Nat.zero_add, Nat.add_zero, Nat.reduceAdd, Int.reduceToNat, Nat.reduceMul, List.set_cons_zero, List.set_cons_succ, List.setIfInBounds_toArray] at hs
      try simp only [Z.putL, Nat.zero_add] at hs
      refine Z.lb 1 rfl ?_
      refine Z.lnil ?_
      refine Z.only [1, 3, 4, 5] rfl ?_
      refine Z.nthen ?_
      refine Z.seq ?_
      refine Z.region ?_
      refine Z.l rfl rfl (by rfl) (Z.keepS hs) (by first | exact Z.Yd.loadA _ rfl Try.isAgg31 (fun _ => Z.cellsB (by first | ((repeat (first | exact List.mem_cons_self | refine List.mem_cons_of_mem _ ?_ | refine List.mem_append_right _ ?_)); done) | fail)) (by exact Try.sizeOf31) | fail "load 5.0") ?_
      refine Z.le rfl trivial ?_
      refine Z.ZO.call rfl rfl (by rfl) rfl rfl Try.call24 rfl (decpow_any lc B m d l _ ((hs.slm (by first | ((repeat (first | exact List.mem_cons_self | refine List.mem_cons_of_mem _ ?_ | refine List.mem_append_right _ ?_)); done) | fail)).sx) hl (by omega) hb) ?_
      rintro v5_1 w5_1 ⟨rfl, hy⟩
      replace hs := hs.call hy
      clear hy
      try simp only [List.cons_append, List.nil_append, List.append_nil] at hs
      refine Z.lb 5 rfl ?_
      refine Z.lnil ?_
      refine Z.only [1, 3, 4, 5, 6, 7] rfl ?_
      refine Z.nthen ?_
      refine Z.seq ?_
      refine Z.region ?_
      refine Z.l rfl rfl (by rfl) (Z.keepS hs) (by first | exact Z.Yd.loadA _ rfl Try.isAgg31 (fun _ => Z.cellsB (by first | ((repeat (first | exact List.mem_cons_self | refine List.mem_cons_of_mem _ ?_ | refine List.mem_append_right _ ?_)); done) | fail)) (by exact Try.sizeOf31) | fail "load 6.0") ?_
      refine Z.le rfl trivial ?_
      refine Z.ZO.call rfl rfl (by rfl) rfl rfl Try.call25 rfl (decid_any lc B m d l _ ((hs.slm (by first | ((repeat (first | exact List.mem_cons_self | refine List.mem_cons_of_mem _ ?_ | refine List.mem_append_right _ ?_)); done) | fail)).sx) hl (by omega) hb) ?_
      rintro v6_1 w6_1 ⟨rfl, hy⟩
      replace hs := hs.call hy
      clear hy
      try simp only [List.cons_append, List.nil_append, List.append_nil] at hs
      refine Z.lb 5 rfl ?_
      refine Z.lnil ?_
      refine Z.only [1, 3, 4, 5, 6, 7, 8, 9] rfl ?_
      refine Z.nthen ?_
      refine Z.seq ?_
      refine Z.region ?_
      refine Z.l rfl rfl (by rfl) (Z.keepS hs) (by first | exact Z.Yd.loadA _ rfl Try.isAgg31 (fun _ => Z.cellsB (by first | ((repeat (first | exact List.mem_cons_self | refine List.mem_cons_of_mem _ ?_ | refine List.mem_append_right _ ?_)); done) | fail)) (by exact Try.sizeOf31) | fail "load 7.0") ?_
      refine Z.le rfl trivial ?_
      refine Z.ZO.call rfl rfl (by rfl) rfl rfl Try.call26 rfl (rdecrep24 lc A m c l _ (hx.st (hs.sub (List.nil_sublist _))) hl hb) ?_
      rintro v7_1 w7_1 ⟨rfl, hy⟩
      replace hs := hs.call hy
      clear hy
      try simp only [List.cons_append, List.nil_append, List.append_nil] at hs
      refine Z.lb 3 rfl ?_
      refine Z.le rfl trivial ?_
      refine Z.ZO.alloc rfl rfl (by rfl) Try.zeroValue28 rfl hs ?_
      clear hs; intro g10 w10 hs
      refine Z.le rfl trivial ?_
      first | refine Z.ZO.storeA rfl rfl hs rfl rfl (by kernel_rfl) (by first | (simp [Value.oneCell']; done) | (refine Z.all_one ?_; assumption)) (by first | exact SX.at0 | exact SX.at1 | exact SX.at2 | exact SX.at3 | exact SX.at4 | exact SX.at5 | exact Z.at6 | exact Z.at7 | exact Z.at8 | exact Z.at9 | exact Z.at10 | exact Z.at11 | exact Z.at12) (by rfl) ?_ | refine Z.ZO.storeP rfl rfl hs rfl rfl (by kernel_rfl) (by first | (simp [Value.oneCell']; done) | (refine Z.all_one ?_; assumption)) (by first | exact SX.at0 | exact SX.at1 | exact SX.at2 | exact SX.at3 | exact SX.at4 | exact SX.at5 | exact Z.at6 | exact Z.at7 | exact Z.at8 | exact Z.at9 | exact Z.at10 | exact Z.at11 | exact Z.at12) (by first | decide | (simp; done) | (simp; omega)) ?_ | refine Z.ZO.storePR rfl rfl hs rfl rfl (by kernel_rfl) (by first | (simp [Value.oneCell']; done) | (refine Z.all_one ?_; assumption)) (by first | exact SX.at0 | exact SX.at1 | exact SX.at2 | exact SX.at3 | exact SX.at4 | exact SX.at5 | exact Z.at6 | exact Z.at7 | exact Z.at8 | exact Z.at9 | exact Z.at10 | exact Z.at11 | exact Z.at12) (by first | decide | (simp; done) | (simp; omega)) ?_
      clear hs; intro ws hs
      simp only [Nat.zero_add, Nat.add_zero, Nat.reduceAdd, Int.reduceToNat, Nat.reduceMul, List.set_cons_zero, List.set_cons_succ, List.setIfInBounds_toArray] at hs
      try simp only [Z.putL, Nat.zero_add] at hs
      refine Z.lb 1 rfl ?_
      refine Z.lnil ?_
      refine Z.only [1, 3, 4, 5, 6, 7, 8, 9, 10, 11] rfl ?_
      refine Z.nthen ?_
      refine Z.seq ?_
      refine Z.region ?_
      refine Z.l rfl rfl (by rfl) (Z.keepS hs) (by first | exact Z.Yd.loadA _ rfl Try.isAgg31 (fun _ => Z.cellsB (by first | ((repeat (first | exact List.mem_cons_self | refine List.mem_cons_of_mem _ ?_ | refine List.mem_append_right _ ?_)); done) | fail)) (by exact Try.sizeOf31) | fail "load 8.0") ?_
      refine Z.le rfl trivial ?_
      refine Z.ZO.call rfl rfl (by rfl) rfl rfl Try.call27 rfl (rdecpow24 lc A m c l _ (hx.st (hs.sub (List.nil_sublist _))) hl (by omega) hb) ?_
      rintro v8_1 w8_1 ⟨rfl, hy⟩
      replace hs := hs.call hy
      clear hy
      try simp only [List.cons_append, List.nil_append, List.append_nil] at hs
      refine Z.lb 5 rfl ?_
      refine Z.lnil ?_
      refine Z.only [1, 3, 4, 5, 6, 7, 8, 9, 10, 11, 12, 13] rfl ?_
      refine Z.nthen ?_
      refine Z.seq ?_
      refine Z.region ?_
      refine Z.l rfl rfl (by rfl) (Z.keepS hs) (by first | exact Z.Yd.loadA _ rfl Try.isAgg31 (fun _ => Z.cellsB (by first | ((repeat (first | exact List.mem_cons_self | refine List.mem_cons_of_mem _ ?_ | refine List.mem_append_right _ ?_)); done) | fail)) (by exact Try.sizeOf31) | fail "load 9.0") ?_
      refine Z.le rfl trivial ?_
      refine Z.ZO.call rfl rfl (by rfl) rfl rfl Try.call28 rfl (rdecid24 lc A m c l _ (hx.st (hs.sub (List.nil_sublist _))) hl (by omega) hb) ?_
      rintro v9_1 w9_1 ⟨rfl, hy⟩
      replace hs := hs.call hy
      clear hy
      try simp only [List.cons_append, List.nil_append, List.append_nil] at hs
      refine Z.lb 5 rfl ?_
      refine Z.lnil ?_
      refine Z.only [1, 3, 4, 5, 6, 7, 8, 9, 10, 11, 12, 13, 14, 15] rfl ?_
      refine Z.nthen ?_
      refine Z.seq ?_
      refine Z.region ?_
      refine Z.l rfl rfl (by rfl) (Z.keepS hs) (by first | exact Z.Yd.loadA _ rfl Try.isAgg28 (fun _ => Z.cellsB (by first | ((repeat (first | exact List.mem_cons_self | refine List.mem_cons_of_mem _ ?_ | refine List.mem_append_right _ ?_)); done) | fail)) (by exact Try.sizeOf28) | fail "load 10.0") ?_
      refine Z.l rfl rfl (by rfl) (Z.keepS hs) (by first | exact Z.Yd.loadA _ rfl Try.isAgg28 (fun _ => Z.cellsB (by first | ((repeat (first | exact List.mem_cons_self | refine List.mem_cons_of_mem _ ?_ | refine List.mem_append_right _ ?_)); done) | fail)) (by exact Try.sizeOf28) | fail "load 10.1") ?_
      refine Z.l rfl rfl (by rfl) (Z.keepS hs) (Z.Yd.eqA (.st (.fc 0 1 (.b) (.fc 1 1 (.i) (.fc 2 4 (.ar 4 1 (.i)) (.fn))))) rfl rfl rfl rfl (by kernel_rfl) (by kernel_rfl) rfl) ?_
      refine Z.lb 1 rfl ?_
      refine Z.yes (s := 61) (b := true) rfl ((by simp)) rfl ?_
      refine Z.lb 1 rfl ?_
      refine Z.yes (s := 61) (b := true) rfl rfl rfl ?_
      refine Z.le rfl (by exact ⟨rfl, trivial⟩) ?_
      refine Z.ZO.call rfl rfl (by rfl) rfl rfl Try.call17 rfl (num24 _ _) ?_
      rintro v10_5 w10_5 ⟨rfl, hy⟩
      replace hs := hs.call hy
      clear hy
      try simp only [List.cons_append, List.nil_append, List.append_nil] at hs
      refine Z.lb 2 rfl ?_
      refine Z.yes (s := 61) (b := true) rfl rfl rfl ?_
      refine Z.l rfl rfl (by rfl) (Z.keepS hs) (Z.Yd.pickT rfl rfl) ?_
      refine Z.lb 1 rfl ?_
      refine Z.yes (s := 67) (b := true) rfl ((by simp)) rfl ?_
      refine Z.lb 4 rfl ?_
      refine Z.yes (s := 67) (b := true) rfl rfl rfl ?_
      refine Z.le rfl (by exact ⟨rfl, trivial⟩) ?_
      refine Z.ZO.call rfl rfl (by rfl) rfl rfl Try.call29 rfl (counts24 _ _ _ _ _) ?_
      rintro v10_14 w10_14 ⟨rfl, hy⟩
      replace hs := hs.call hy
      clear hy
      try simp only [List.cons_append, List.nil_append, List.append_nil] at hs
      refine Z.l rfl rfl (by rfl) (Z.keepS hs) (Z.Yd.pickT rfl rfl) ?_
      refine Z.lb 1 rfl ?_
      refine Z.yes (s := 74) (b := true) rfl ((by simp)) rfl ?_
      refine Z.lb 3 rfl ?_
      refine Z.yes (s := 74) (b := true) rfl rfl rfl ?_
      refine Z.l rfl rfl (by rfl) (Z.keepS hs) (Z.Yd.pickT rfl rfl) ?_
      refine Z.lb 1 rfl ?_
      refine Z.yes (s := 79) (b := true) rfl ((by simp)) rfl ?_
      refine Z.lb 1 rfl ?_
      refine Z.yes (s := 79) (b := true) rfl rfl rfl ?_
      refine Z.le rfl (by exact ⟨rfl, trivial⟩) ?_
      refine Z.ZO.call rfl rfl (by rfl) rfl rfl Try.call17 rfl (num24 _ _) ?_
      rintro v10_23 w10_23 ⟨rfl, hy⟩
      replace hs := hs.call hy
      clear hy
      try simp only [List.cons_append, List.nil_append, List.append_nil] at hs
      refine Z.lb 2 rfl ?_
      refine Z.yes (s := 79) (b := true) rfl rfl rfl ?_
      refine Z.l rfl rfl (by rfl) (Z.keepS hs) (Z.Yd.pickT rfl rfl) ?_
      refine Z.lb 1 rfl ?_
      refine Z.yes (s := 85) (b := true) rfl ((by simp)) rfl ?_
      refine Z.l rfl rfl (by rfl) (Z.keepS hs) (by first | exact Z.Yd.loadA _ rfl Try.isAgg31 (fun _ => Z.cellsB (by first | ((repeat (first | exact List.mem_cons_self | refine List.mem_cons_of_mem _ ?_ | refine List.mem_append_right _ ?_)); done) | fail)) (by exact Try.sizeOf31) | fail "load 10.28") ?_
      refine Z.l rfl rfl (by rfl) (Z.keepS hs) (by first | exact Z.Yd.loadA _ rfl Try.isAgg31 (fun _ => Z.cellsB (by first | ((repeat (first | exact List.mem_cons_self | refine List.mem_cons_of_mem _ ?_ | refine List.mem_append_right _ ?_)); done) | fail)) (by exact Try.sizeOf31) | fail "load 10.29") ?_
      refine Z.yes (s := 85) (b := true) rfl rfl rfl ?_
      refine Z.le rfl (by exact ⟨rfl, trivial⟩) ?_
      refine Z.ZO.call rfl rfl (by rfl) rfl rfl Try.call16 rfl (same24 lc lc B A _ _ _ _ l l _ (hs.slm (by first | ((repeat (first | exact List.mem_cons_self | refine List.mem_cons_of_mem _ ?_ | refine List.mem_append_right _ ?_)); done) | fail)) (hx.st (hs.sub (List.nil_sublist _))) hl hl hb hb) ?_
      rintro v10_30 w10_30 ⟨rfl, hy⟩
      replace hs := hs.call hy
      clear hy
      try simp only [List.cons_append, List.nil_append, List.append_nil] at hs
      refine Z.l rfl rfl (by rfl) (Z.keepS hs) (Z.Yd.pickT rfl rfl) ?_
      refine Z.lb 1 rfl ?_
      refine Z.yes (s := 90) (b := true) rfl ((by simp)) rfl ?_
      refine Z.le rfl (by exact ⟨rfl, trivial⟩) ?_
      refine Z.ZO.call rfl rfl (by rfl) rfl rfl Try.call12 rfl (works24 _) ?_
      rintro v10_33 w10_33 ⟨rfl, hy⟩
      replace hs := hs.call hy
      clear hy
      try simp only [List.cons_append, List.nil_append, List.append_nil] at hs
      refine Z.l rfl rfl (by rfl) (Z.keepS hs) (Z.Yd.pickT rfl rfl) ?_
      refine Z.lb 1 rfl ?_
      refine Z.lnil ?_
      refine Z.only [2] rfl ?_
      refine Z.nthen ?_
      refine Z.ret ?_
      -- ret#0
      refine Z.out1 (by exact ⟨rfl, trivial⟩) ?_
      first | exact ⟨_, rfl, rfl, hs⟩ | exact ⟨_, rfl, rfl, hs.sub (List.nil_sublist _)⟩
  · skip
    refine Z.enter Try.func7 rfl Try.ntmps7 rfl rfl ?_
    refine Z.seq ?_
    refine Z.region ?_
    refine Z.le rfl trivial ?_
    refine Z.ZO.box rfl rfl (by rfl) rfl rfl hs ?_
    clear hs; intro g1 w1 hs
    refine Z.lb 1 rfl ?_
    refine Z.lnil ?_
    refine Z.only [1] rfl ?_
    refine Z.nthen ?_
    refine Z.seq ?_
    refine Z.seq ?_
    refine Z.region ?_
    refine Z.l rfl rfl (by rfl) (Z.keepS hs) (Z.Yd.fieldA (m := 1) rfl (by kernel_rfl)) ?_
    refine Z.l rfl rfl (by rfl) (Z.keepS hs) (by first | exact Z.Yd.load rfl Try.isAgg29 (fun _ => Z.cellB (by first | ((repeat (first | exact List.mem_cons_self | refine List.mem_cons_of_mem _ ?_ | refine List.mem_append_right _ ?_)); done) | fail) rfl) | exact Z.Yd.load rfl Try.isAgg29 (fun _ => Z.cellO (by assumption) (by simp) (by assumption)) | fail "load 1.1") ?_
    refine Z.l rfl rfl (by rfl) (Z.keepS hs) (Z.Yd.lenS rfl Try.underlying29) ?_
    refine Z.lb 1 rfl ?_
    refine Z.lnil ?_
    refine Z.only [1, 19] rfl ?_
    refine Z.nthen ?_
    refine Z.cond rfl (fun hc1 => ?_) (fun h => absurd h (by simp; omega))
    refine Z.seq ?_
    refine Z.region ?_
    refine Z.le rfl trivial ?_
    refine Z.ZO.call rfl rfl (by rfl) rfl rfl Try.call12 rfl (works24 _) ?_
    rintro v2_0 w2_0 ⟨rfl, hy⟩
    replace hs := hs.call hy
    clear hy
    try simp only [List.cons_append, List.nil_append, List.append_nil] at hs
    refine Z.lb 1 rfl ?_
    refine Z.lnil ?_
    refine Z.only [2] rfl ?_
    refine Z.nthen ?_
    refine Z.ret ?_
    repeat (first | refine Z.rthen ?_ | refine Z.rblock ?_ | refine Z.rscope ?_)
    -- ret#0
    refine Z.out1 (by exact ⟨rfl, trivial⟩) ?_
    first | exact ⟨_, rfl, rfl, hs⟩ | exact ⟨_, rfl, rfl, hs.sub (List.nil_sublist _)⟩
theorem rd_part {W : World} {cs : List Value} (z : Rd Try.prog W 31 cs) : ∃ (lc : Int) (A : Option Addr) (m c : Nat) (l : List Int), cs = [.int .i64 lc, .slice A m c] ∧ l.length = m ∧ m ≤ maxLen ∧ Byts l ∧ Sl W A (ints .u8 l) := by
  obtain ⟨hl, hf⟩ := Rd.field Try.underlying31 z
  have c2 : Try.prog.cellsOf 31 = 2 := by kernel_rfl
  have c1 : Try.prog.cellsOf 3 = 1 := by kernel_rfl
  have c0 : Try.prog.cellsOf 29 = 1 := by kernel_rfl
  rw [c2] at hl
  obtain ⟨x0, x1, rfl⟩ := list2 hl
  obtain ⟨lc, hlc, -⟩ := Rd.int Try.underlying3 (hf 0 _ rfl)
  have zb := hf 1 _ rfl
  obtain ⟨A, n, c, hb⟩ := Rd.sliceV Try.underlying29 zb
  rw [hb] at zb
  simp [c1, c0] at hlc hb
  subst hlc hb
  obtain ⟨l, h1, h2, h4, h5⟩ := rd_bytes zb
  exact ⟨lc, A, n, c, l, rfl, h1, h2, h4, h5⟩
theorem controlDecodes_rd (cs0 : Array Value) (w : World) (z0 : Rd Try.prog w 31 (Value.agg cs0).cells.toList) :
    Calls Try.prog 7 #[.agg cs0] w fun e w' => e = .returned (.bool true) ∧ Below w.heap.size w w' := by
  obtain ⟨lc, A, m, c, l, hr, h1, h2, h3, h4⟩ := rd_part z0
  have e : cs0 = #[.int .i64 lc, .slice A m c] := by
    have : cs0.toList = [.int .i64 lc, .slice A m c] := by simpa [Value.cells] using hr
    exact Array.toList_inj.1 this
  rw [e]
  refine (controlDecodes_walk lc A m c l w h4 h1 h2 h3).mono ?_
  rintro e w' ⟨v, rfl, rfl, h⟩
  exact ⟨rfl, h.below⟩
end Go.Proofs.Yteabcdmgklhijaa

/- Control elements: decoding undoes encoding; levels are monotonic. -/
namespace Go.Proofs.Yteabcdmgklhijaa
open Go.RowKit
set_option linter.unusedSimpArgs false
set_option linter.unusedVariables false
--newlaws

theorem be3 (n : Int) : be 3 n = [n / 256 / 256 % 256, n / 256 % 256, n % 256] := rfl
theorem rep_ext {r s : RepV} (h1 : r.long = s.long) (h2 : r.group = s.group) (h3 : r.a = s.a) (h4 : r.b = s.b) (h5 : r.c = s.c) (h6 : r.d = s.d) : r = s := by
  cases r; cases s; simp_all
theorem rep_back {r : RepV} (hr : r.ok) : repE (encLc r) (encL r) = 0 ∧ repV (encLc r) (encL r) = r := by
  have hE : repE (encLc r) (encL r) = 0 := by
    unfold repE encLc encL
    cases hl : r.long with
    | true => simp [opE]
    | false => simp [opE]
  refine ⟨hE, ?_⟩
  unfold repV
  rw [if_neg (by omega)]
  obtain ⟨hg, hlg, hj⟩ := (ok_iff r).1 hr
  have ha := (hj 0 (by omega)).1
  have hb := (hj 1 (by omega)).1
  have hc := (hj 2 (by omega)).1
  have hd := (hj 3 (by omega)).1
  unfold okL at ha hb hc hd
  simp only [RepV.lv] at ha hb hc hd
  cases hl : r.long with
  | true =>
    have hg0 := hlg hl
    have e1 : encLc r = 30 := by simp [encLc, hl]
    have e2 : encL r = be 3 (((r.a * 64 + r.b) * 64 + r.c) * 64 + r.d) := by simp [encL, hl]
    rw [e1, e2, if_pos rfl]
    have e3 : num (be 3 (((r.a * 64 + r.b) * 64 + r.c) * 64 + r.d)) = ((r.a * 64 + r.b) * 64 + r.c) * 64 + r.d := by
      rw [be3]
      simp only [num, List.foldl_cons, List.foldl_nil]
      omega
    rw [e3]
    refine rep_ext hl.symm hg0.symm ?_ ?_ ?_ ?_ <;> simp only [RepV.lng] <;> omega
  | false =>
    have e1 : encLc r = 29 := by simp [encLc, hl]
    have e2 : encL r = [64 * r.group + r.lv r.group.toNat] := by simp [encL, hl]
    have h4 := (hj r.group.toNat (by omega)).1
    unfold okL at h4
    have e3 : num [64 * r.group + r.lv r.group.toNat] = 64 * r.group + r.lv r.group.toNat := by simp [num]
    rw [e1, e2, if_neg (by decide), e3, show (64 * r.group + r.lv r.group.toNat) / 64 = r.group from by omega, show (64 * r.group + r.lv r.group.toNat) % 64 = r.lv r.group.toNat from by omega]
    have k0 := (hj 0 (by omega)).2 hl
    have k1 := (hj 1 (by omega)).2 hl
    have k2 := (hj 2 (by omega)).2 hl
    have k3 := (hj 3 (by omega)).2 hl
    simp only [RepV.lv] at k0 k1 k2 k3
    have hgc : r.group = 0 ∨ r.group = 1 ∨ r.group = 2 ∨ r.group = 3 := by omega
    rcases hgc with h | h | h | h <;> rw [h] at k0 k1 k2 k3 ⊢ <;> refine rep_ext hl.symm h.symm ?_ ?_ ?_ ?_ <;> simp [RepV.short, RepV.lv] <;> omega
theorem lng_ok {n : Int} (h : 0 ≤ n ∧ n < 16777216) : (RepV.lng n).ok := by
  refine ⟨by simp [RepV.lng], ?_⟩
  have e : (RepV.lng n).long = true := rfl
  rw [if_pos e]
  refine ⟨rfl, ?_, ?_, ?_, ?_⟩ <;> simp only [RepV.lng, okL] <;> omega
theorem short_ok {g v : Int} (hg : 0 ≤ g ∧ g ≤ 3) (hv : 0 ≤ v ∧ v ≤ 63) : (RepV.short g v).ok := by
  refine (ok_iff _).2 ⟨hg, by simp [RepV.short], fun j hj => ?_⟩
  have hgc : g = 0 ∨ g = 1 ∨ g = 2 ∨ g = 3 := by omega
  have hjc : j = 0 ∨ j = 1 ∨ j = 2 ∨ j = 3 := by omega
  rcases hgc with rfl | rfl | rfl | rfl <;> rcases hjc with rfl | rfl | rfl | rfl <;> simp [RepV.short, RepV.lv, okL] <;> omega
theorem rep_forth {lc : Int} {l : List Int} (hb : Byts l) (h : repE lc l = 0) : (repV lc l).ok ∧ encLc (repV lc l) = lc ∧ encL (repV lc l) = l := by
  have h0 := num_nonneg hb
  unfold repV
  rw [if_neg (by omega)]
  unfold repE at h
  by_cases h30 : lc = 30
  · rw [if_pos h30] at h ⊢
    have hl := (opE_len h).2
    have hn := num_lt hb
    rw [show l.length = 3 from by omega] at hn
    have hn2 : num l < 16777216 := hn
    refine ⟨lng_ok ⟨h0, hn2⟩, by rw [h30]; rfl, ?_⟩
    have e : encL (RepV.lng (num l)) = be 3 (((num l / 262144 * 64 + num l / 4096 % 64) * 64 + num l / 64 % 64) * 64 + num l % 64) := rfl
    rw [e, show ((num l / 262144 * 64 + num l / 4096 % 64) * 64 + num l / 64 % 64) * 64 + num l % 64 = num l from by omega]
    have := be_num hb
    rwa [show l.length = 3 from by omega] at this
  · rw [if_neg h30] at h ⊢
    obtain ⟨hlc, hl⟩ := opE_len h
    obtain ⟨h1, h2, h3⟩ := one_byte hb (by omega)
    obtain ⟨n, hn⟩ : ∃ n, num l = n := ⟨_, rfl⟩
    rw [hn] at h1 h2 h3 ⊢
    refine ⟨short_ok (by omega) (by omega), by rw [hlc]; rfl, ?_⟩
    have hg : n / 64 = 0 ∨ n / 64 = 1 ∨ n / 64 = 2 ∨ n / 64 = 3 := by omega
    have e : encL (RepV.short (n / 64) (n % 64)) = [64 * (n / 64) + n % 64] := by
      rcases hg with h | h | h | h <;> rw [h] <;> rfl
    rw [e, h3, show 64 * (n / 64) + n % 64 = n from by omega]
theorem pow_back {h : Int} (hh : 0 ≤ h ∧ h ≤ 63) : powE 26 [h] = 0 ∧ powV 26 [h] = h := by
  have e1 : num [h] = h := by simp [num]
  have e2 : powE 26 [h] = 0 := by
    unfold powE
    rw [show opE 26 [h] 26 1 = 0 from by simp [opE], if_neg (by simp), e1, if_neg (by omega)]
  exact ⟨e2, by unfold powV; rw [e2, if_pos rfl, e1]⟩
theorem id_back {lc : Int} {id : Nat} (hi : isId lc) (hh : id / 2 ^ (8 * wid lc).toNat = 0) : idE lc (be (wid lc).toNat (id : Int)) = 0 ∧ idV lc (be (wid lc).toNat (id : Int)) = (id : Int) := by
  have hw : 0 ≤ wid lc := by unfold wid; split <;> omega
  have e1 : idE lc (be (wid lc).toNat (id : Int)) = 0 := by
    unfold idE
    rw [if_pos hi, opE_sz]
    unfold szE
    rw [be_length, if_neg (by omega), if_neg (by omega)]
  refine ⟨e1, ?_⟩
  unfold idV
  rw [e1, if_pos rfl, num_be _ _ (by omega)]
  rw [show (8 * wid lc).toNat = (wid lc).toNat * 8 from by omega] at hh
  have hp : 0 < 2 ^ ((wid lc).toNat * 8) := Nat.pow_pos (by decide)
  have hlt : id < 2 ^ ((wid lc).toNat * 8) := by
    rcases Nat.lt_or_ge id (2 ^ ((wid lc).toNat * 8)) with h | h
    · exact h
    · have := Nat.div_pos h hp
      omega
  have : ((id : Int) % ((2 ^ ((wid lc).toNat * 8) : Nat) : Int)) = ((id % 2 ^ ((wid lc).toNat * 8) : Nat) : Int) := rfl
  rw [this, Nat.mod_eq_of_lt hlt]
theorem id_forth {lc : Int} {l : List Int} (hb : Byts l) (h : idE lc l = 0) : isId lc ∧ ∃ id : Nat, num l = (id : Int) ∧ id < 18446744073709551616 ∧ id / 2 ^ (8 * wid lc).toNat = 0 ∧ be (wid lc).toNat (id : Int) = l := by
  unfold idE at h
  by_cases hi : isId lc
  · rw [if_pos hi, opE_sz] at h
    have hl := szE_len h
    have hw : 0 ≤ wid lc ∧ wid lc ≤ 6 := by unfold wid; split <;> omega
    have h0 := num_nonneg hb
    obtain ⟨id, hid⟩ := Int.eq_ofNat_of_zero_le h0
    have hn := num_lt hb
    have hb2 := be_num hb
    rw [hid] at hn hb2
    have hlt : id < 2 ^ (l.length * 8) := by exact_mod_cast hn
    have hle : 2 ^ (l.length * 8) ≤ 2 ^ 48 := Nat.pow_le_pow_right (by decide) (by omega)
    have h48 : (2 : Nat) ^ 48 = 281474976710656 := rfl
    refine ⟨hi, id, hid, by omega, ?_, ?_⟩
    · rw [show (8 * wid lc).toNat = l.length * 8 from by omega]
      exact Nat.div_eq_of_lt hlt
    · rw [show (wid lc).toNat = l.length from by omega]
      exact hb2
  · rw [if_neg hi] at h
    simp at h
theorem lvl_mono {x y : Int} (h : x ≤ y) : lvl x ≤ lvl y := by
  obtain ⟨h1, h2, h3⟩ := lvl_spec x
  obtain ⟨g1, g2, g3⟩ := lvl_spec y
  rcases Nat.lt_or_ge (lvl y) (lvl x) with hlt | hge
  · have a1 := h2 (lvl y) hlt
    have a2 := g3 (lvl y) (Nat.le_refl _) (by omega)
    omega
  · exact hge
theorem lvl_top (x : Int) : lim 62 < x ↔ lvl x = 63 := by
  obtain ⟨h1, h2, h3⟩ := lvl_spec x
  constructor
  · intro h
    rcases Nat.lt_or_ge (lvl x) 63 with hlt | hge
    · have := h3 62 (by omega) (by omega)
      omega
    · omega
  · intro h
    exact h2 62 (by omega)
theorem lvl_near {x : Int} (h10 : 10 ≤ x) (h : x ≤ lim 62) : lvl x ≤ 62 ∧ x ≤ lim (lvl x) ∧ 12 * lim (lvl x) < 17 * x + 48 := by
  obtain ⟨h1, h2, h3⟩ := lvl_spec x
  have h63 : lvl x ≠ 63 := fun e => by have := (lvl_top x).2 e; omega
  have hle : x ≤ lim (lvl x) := h3 _ (Nat.le_refl _) (by omega)
  refine ⟨by omega, hle, ?_⟩
  have hpos : 1 ≤ lvl x := by
    rcases Nat.eq_zero_or_pos (lvl x) with e | e
    · rw [e] at hle
      have : lim 0 = 0 := rfl
      omega
    · exact e
  obtain ⟨k, hk⟩ : ∃ k, lvl x = k + 1 := ⟨lvl x - 1, by omega⟩
  have h4 := h2 k (by omega)
  rw [hk]
  rcases Nat.eq_zero_or_pos k with e | e
  · subst e
    have : lim (0 + 1) = 10 := rfl
    omega
  · have h0 : 0 ≤ lim k := (lim_bd (by omega)).1
    rw [lim_succ k e]
    omega
/-- what an encoder returns: an element and an error -/
def Enc (e lc : Int) (l : List Int) (v : Value) (w w' : World) : Prop := ∃ B c co, v = .tuple #[.agg #[.int .i64 lc, .slice B l.length c], .int .i64 e] ∧ SX.St w [] w' [SX.Ent.row (.slice B l.length co) 5 1 l.length (ints .u8 l)]
theorem Enc.ok {lc : Int} {l : List Int} {v : Value} {w w' : World} (h : ∃ u, v = .tuple #[u, .int .i64 0] ∧ IsPart lc l u w w') : Enc 0 lc l v w w' := by
  obtain ⟨u, rfl, B, co, rfl, h⟩ := h
  exact ⟨B, _, co, rfl, h⟩
theorem Enc.bad {v : Value} {w w' : World} (h : v = .tuple #[.agg #[.int .i64 0, .slice none 0 0], .int .i64 2] ∧ SX.St w [] w' []) : Enc 2 0 [] v w w' := by
  obtain ⟨rfl, h⟩ := h
  exact ⟨none, 0, 0, rfl, h.nil _ 1⟩
theorem encrep_en (r : RepV) (w : World) : Calls Try.prog 14 #[.agg r.cells.toArray] w (SX.Ret fun v w' => Enc (if r.ok then 0 else 2) (if r.ok then encLc r else 0) (if r.ok then encL r else []) v w w') := by
  by_cases h : r.ok
  · rw [if_pos h, if_pos h, if_pos h]
    refine (encrep_ok r w h).mono ?_
    rintro e w' ⟨v, rfl, hv⟩
    exact ⟨v, rfl, Enc.ok hv⟩
  · rw [if_neg h, if_neg h, if_neg h]
    refine (encrep_bad r w h).mono ?_
    rintro e w' ⟨v, rfl, hv⟩
    exact ⟨v, rfl, Enc.bad hv⟩
theorem encpow_en (x : Int) (w : World) : Calls Try.prog 18 #[.int .i64 x] w (SX.Ret fun v w' => Enc (if 0 ≤ x ∧ x ≤ 63 then 0 else 2) (if 0 ≤ x ∧ x ≤ 63 then 26 else 0) (if 0 ≤ x ∧ x ≤ 63 then [x] else []) v w w') := by
  by_cases h : 0 ≤ x ∧ x ≤ 63
  · rw [if_pos h, if_pos h, if_pos h]
    refine (encpow_ok x w h).mono ?_
    rintro e w' ⟨v, rfl, hv⟩
    exact ⟨v, rfl, Enc.ok hv⟩
  · rw [if_neg h, if_neg h, if_neg h]
    refine (encpow_bad x w h).mono ?_
    rintro e w' ⟨v, rfl, hv⟩
    exact ⟨v, rfl, Enc.bad hv⟩
def idOk (lc : Int) (id : Nat) : Prop := isId lc ∧ id / 2 ^ (8 * wid lc).toNat = 0
instance (lc : Int) (id : Nat) : Decidable (idOk lc id) := by unfold idOk isId; infer_instance
theorem encid_en (lc : Int) (id : Nat) (w : World) (hid : id < 18446744073709551616) : Calls Try.prog 19 #[.int .i64 lc, .int .u64 (id : Int)] w (SX.Ret fun v w' => Enc (if idOk lc id then 0 else 2) (if idOk lc id then lc else 0) (if idOk lc id then be (wid lc).toNat (id : Int) else []) v w w') := by
  by_cases h : idOk lc id
  · rw [if_pos h, if_pos h, if_pos h]
    refine (encid_ok lc id w hid h.1 h.2).mono ?_
    rintro e w' ⟨v, rfl, hv⟩
    exact ⟨v, rfl, Enc.ok hv⟩
  · rw [if_neg h, if_neg h, if_neg h]
    refine (encid_bad lc id w hid h).mono ?_
    rintro e w' ⟨v, rfl, hv⟩
    exact ⟨v, rfl, Enc.bad hv⟩
end Go.Proofs.Yteabcdmgklhijaa
