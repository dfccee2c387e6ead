/- QamBack: the walk. -/
import Derived.Test.YthncbdoiilgnhaaQmV
import Derived.Test.YthncbdoiilgnhaaZw
import Derived.Test.YthncbdoiilgnhaaRb
namespace Go.Proofs.Ythncbdoiilgnhaa
open Go.RowKit
set_option linter.unusedSimpArgs false
set_option linter.unusedVariables false

def encPt (p : Int × Int) : List Value := [.int .i64 p.1, .int .i64 p.2]
theorem encPt_length (p : Int × Int) : (encPt p).length = 2 := rfl
theorem pcells_enc (l : List (Int × Int)) : pcells l = l.flatMap encPt := rfl
theorem mpt_near {k j : Nat} {bs : List Int} (hb : ∀ b ∈ bs, b = 0 ∨ b = 1) (hk : 1 ≤ k) (hk3 : k ≤ 3) : -128 < (mpt k bs j).1 ∧ (mpt k bs j).1 < 128 ∧ -128 < (mpt k bs j).2 ∧ (mpt k bs j).2 < 128 := by
  obtain ⟨g1, h1, e1, -⟩ := evn_grp bs hb (j * (2 * k)) k hk hk3
  obtain ⟨g2, h2, e2, -⟩ := evn_grp bs hb (j * (2 * k) + 1) k hk hk3
  have b1 := lev_lt k g1 hk hk3
  have b2 := lev_lt k g2 hk hk3
  unfold mpt
  rw [e1, e2]
  simp only
  omega
theorem near_ins {k j : Nat} {bs : List Int} {p : Int × Int} (hb : ∀ b ∈ bs, b = 0 ∨ b = 1) (hk : 1 ≤ k) (hk3 : k ≤ 3) (h : Near k bs j p) : ins p = true := by
  have h1 := mpt_near (j := j) hb hk hk3
  unfold Near at h
  simp only [ins, Bool.and_eq_true, decide_eq_true_eq]
  omega
theorem set_same {α : Type} {l : List α} {i : Nat} {x : α} (h : l[i]? = some x) : l.set i x = l := by
  apply List.ext_getElem?
  intro j
  rw [List.getElem?_set]
  split
  · rename_i e
    subst e
    rw [if_pos (List.getElem?_eq_some_iff.1 h).1, h]
  · rfl
structure BkI (k q : Nat) (bs : List Int) (i : Nat) (qs : List (Int × Int)) : Prop where
  len : qs.length = q
  near : ∀ j p, qs[j]? = some p → Near k bs j p
  same : ∀ j, i ≤ j → j < q → qs[j]? = some (mpt k bs j)
theorem BkI.start {k q : Nat} {bs : List Int} : BkI k q bs 0 ((List.range q).map (mpt k bs)) := by
  refine ⟨by simp, fun j p h => ?_, fun j _ h => ?_⟩
  · rw [List.getElem?_map] at h
    cases hr : (List.range q)[j]? with
    | none => rw [hr] at h; cases h
    | some i =>
      rw [hr] at h
      obtain ⟨hi, rfl⟩ := List.getElem?_eq_some_iff.1 hr
      simp only [List.getElem_range, Option.map_some, Option.some.injEq] at h
      subst h
      unfold Near
      omega
  · rw [List.getElem?_map, List.getElem?_range h]
    rfl
theorem BkI.next {k q i : Nat} {bs : List Int} {qs : List (Int × Int)} (h : BkI k q bs i qs) (hi : i < q) {p : Int × Int} (hp : Near k bs i p) : BkI k q bs (i + 1) (qs.set i p) := by
  refine ⟨by simp [h.len], fun j p' hj => ?_, fun j h1 h2 => ?_⟩
  · rw [List.getElem?_set] at hj
    by_cases e : i = j
    · rw [if_pos e] at hj
      subst e
      rw [if_pos (by rw [h.len]; exact hi)] at hj
      obtain rfl := Option.some.inj hj
      exact hp
    · rw [if_neg e] at hj
      exact h.near j p' hj
  · rw [List.getElem?_set, if_neg (by omega)]
    exact h.same j (by omega) h2

theorem back_long (m : Int) (A B : Option Addr) (n c n2 c2 : Nat) (w : World) (hn : 600 < n) :
    Calls Try.prog 7 #[.int .i64 m, .slice A n c, .slice B n2 c2] w (SX.Ret fun v w' => v = .bool true ∧ SX.St w [] w' []) := by
  have hs := SX.St.start w
  refine Z.enter Try.func7 rfl Try.ntmps7 rfl rfl ?_
  refine Z.seq ?_
  refine Z.region ?_
  refine Z.lb 1 rfl ?_
  refine Z.lnil ?_
  refine Z.only [0, 1, 2] rfl ?_
  refine Z.nthen ?_
  refine Z.seq ?_
  refine Z.seq ?_
  refine Z.region ?_
  refine Z.lb 1 rfl ?_
  refine Z.l rfl rfl (by rfl) (Z.keepS hs) (Z.Yd.lenS rfl Try.underlying23) ?_
  refine Z.lb 1 rfl ?_
  refine Z.lnil ?_
  refine Z.only [0, 1, 2, 14] rfl ?_
  refine Z.nthen ?_
  refine Z.cond rfl (fun hc1 => ?_) (fun h => absurd h (by simp; omega))
  refine Z.seq ?_
  refine Z.region ?_
  refine Z.le rfl trivial ?_
  refine Z.ZO.call rfl rfl (by rfl) rfl rfl Try.call10 rfl (known_any _) ?_
  rintro v2_0 w2_0 ⟨rfl, hy⟩
  replace hs := hs.call hy
  clear hy
  try simp only [List.cons_append, List.nil_append, List.append_nil] at hs
  refine Z.lb 1 rfl ?_
  refine Z.lnil ?_
  refine Z.only [6] rfl ?_
  refine Z.nthen ?_
  refine Z.ret ?_
  repeat (first | refine Z.rthen ?_ | refine Z.rblock ?_ | refine Z.rscope ?_)
  -- ret#0
  refine Z.out1 (by exact ⟨rfl, trivial⟩) ?_
  first | exact ⟨_, rfl, rfl, hs⟩ | exact ⟨_, rfl, rfl, hs.sub (List.nil_sublist _)⟩
theorem back_bad (m e : Int) (A B : Option Addr) (n c n2 c2 : Nat) (w : World) (hn : n ≤ 600) (he : e ≠ 0)
    (h : ∀ W L, SX.St w [] W L → Calls Try.prog 11 #[.int .i64 m, .slice A n c] W (SX.Ret fun v w' => v = .tuple #[.slice none 0 0, .int .i64 e] ∧ SX.St W [] w' [])) :
    Calls Try.prog 7 #[.int .i64 m, .slice A n c, .slice B n2 c2] w (SX.Ret fun v w' => v = .bool true ∧ SX.St w [] w' []) := by
  have hs := SX.St.start w
  refine Z.enter Try.func7 rfl Try.ntmps7 rfl rfl ?_
  refine Z.seq ?_
  refine Z.region ?_
  refine Z.lb 1 rfl ?_
  refine Z.lnil ?_
  refine Z.only [0, 1, 2] rfl ?_
  refine Z.nthen ?_
  refine Z.seq ?_
  refine Z.seq ?_
  refine Z.region ?_
  refine Z.lb 1 rfl ?_
  refine Z.l rfl rfl (by rfl) (Z.keepS hs) (Z.Yd.lenS rfl Try.underlying23) ?_
  refine Z.lb 1 rfl ?_
  refine Z.lnil ?_
  refine Z.only [0, 1, 2, 14] rfl ?_
  refine Z.nthen ?_
  refine Z.cond rfl (fun h => absurd h (by simp; omega)) (fun hc1 => ?_)
  refine Z.skip ?_
  refine Z.nthen ?_
  refine Z.seq ?_
  refine Z.region ?_
  refine Z.lb 2 rfl ?_
  refine Z.le rfl trivial ?_
  refine Z.ZO.call rfl rfl (by rfl) rfl rfl Try.call11 rfl (h _ _ hs) ?_
  rintro v3_2 w3_2 ⟨rfl, hy⟩
  replace hs := hs.call hy
  clear hy
  try simp only [List.cons_append, List.nil_append, List.append_nil] at hs
  refine Z.lb 5 rfl ?_
  refine Z.lnil ?_
  refine Z.only [0, 1, 2, 7, 8] rfl ?_
  refine Z.nthen ?_
  refine Z.seq ?_
  refine Z.seq ?_
  refine Z.region ?_
  refine Z.lb 2 rfl ?_
  refine Z.lnil ?_
  refine Z.only [0, 1, 2, 7, 23] rfl ?_
  refine Z.nthen ?_
  refine Z.cond rfl (fun hc4 => ?_) (fun h => absurd h (by simpa using he))
  refine Z.seq ?_
  refine Z.region ?_
  refine Z.le rfl trivial ?_
  refine Z.ZO.call rfl rfl (by rfl) rfl rfl Try.call10 rfl (known_any _) ?_
  rintro v5_0 w5_0 ⟨rfl, hy⟩
  replace hs := hs.call hy
  clear hy
  try simp only [List.cons_append, List.nil_append, List.append_nil] at hs
  refine Z.lb 1 rfl ?_
  refine Z.lnil ?_
  refine Z.only [6] rfl ?_
  refine Z.nthen ?_
  refine Z.ret ?_
  repeat (first | refine Z.rthen ?_ | refine Z.rblock ?_ | refine Z.rscope ?_)
  -- ret#0
  refine Z.out1 (by exact ⟨rfl, trivial⟩) ?_
  first | exact ⟨_, rfl, rfl, hs⟩ | exact ⟨_, rfl, rfl, hs.sub (List.nil_sublist _)⟩

set_option maxRecDepth 100000 in
theorem back_ok (A B : Option Addr) (n c k q m c2 : Nat) (bs : List Int) (ns : List (Int × Int)) (w : World) (hr : Sl w A (ints .u8 bs)) (hl : bs.length = n) (hn : n = q * (2 * k)) (hk : 1 ≤ k) (hk3 : k ≤ 3) (hn6 : n ≤ 600) (hnc : n ≤ c) (hc : (c : Int) ≤ 9223372036854775807)
    (hb : ∀ b ∈ bs, b = 0 ∨ b = 1) (hrn : Sl w B (pcells ns)) (hln : ns.length = m) (hm : m ≤ 9223372036854775807) :
    Calls Try.prog 7 #[.int .i64 ((2 * k : Nat) : Int), .slice A n c, .slice B m c2] w (SX.Ret fun v w' => v = .bool true ∧ SX.St w [] w' []) := by
  have hs := SX.St.start w
  have hq : q ≤ n := by rw [hn]; exact Nat.le_mul_of_pos_right q (by omega)
  refine Z.enter Try.func7 rfl Try.ntmps7 rfl rfl ?_
  refine Z.seq ?_
  refine Z.region ?_
  refine Z.lb 1 rfl ?_
  refine Z.lnil ?_
  refine Z.only [0, 1, 2] rfl ?_
  refine Z.nthen ?_
  refine Z.seq ?_
  refine Z.seq ?_
  refine Z.region ?_
  refine Z.lb 1 rfl ?_
  refine Z.l rfl rfl (by rfl) (Z.keepS hs) (Z.Yd.lenS rfl Try.underlying23) ?_
  refine Z.lb 1 rfl ?_
  refine Z.lnil ?_
  refine Z.only [0, 1, 2, 14] rfl ?_
  refine Z.nthen ?_
  refine Z.cond rfl (fun h => absurd h (by simp; omega)) (fun hc1 => ?_)
  refine Z.skip ?_
  refine Z.nthen ?_
  refine Z.seq ?_
  refine Z.region ?_
  refine Z.lb 2 rfl ?_
  refine Z.le rfl trivial ?_
  refine Z.ZO.call rfl rfl (by rfl) rfl rfl Try.call11 rfl (modulate_ok A n c k q bs _ (hr.st hs) hl hn hk hk3 hn6 hnc hc hb) ?_
  rintro v3_2 w3_2 ⟨sv, rfl, hy⟩
  replace hs := hs.call hy
  clear hy
  try simp only [List.cons_append, List.nil_append, List.append_nil] at hs
  obtain ⟨Ad, cd, rfl, -, -, -⟩ := SX.row_slv hs (j := 0) rfl
  refine Z.lb 5 rfl ?_
  refine Z.lnil ?_
  refine Z.only [0, 1, 2, 7, 8] rfl ?_
  refine Z.nthen ?_
  refine Z.seq ?_
  refine Z.seq ?_
  refine Z.region ?_
  refine Z.lb 2 rfl ?_
  refine Z.lnil ?_
  refine Z.only [0, 1, 2, 7, 23] rfl ?_
  refine Z.nthen ?_
  refine Z.cond rfl (fun h => absurd h (by simp)) (fun hc4 => ?_)
  refine Z.skip ?_
  refine Z.nthen ?_
  refine Z.seq ?_
  refine Z.seq ?_
  refine Z.region ?_
  refine Z.lb 1 rfl ?_
  refine Z.lnil ?_
  refine Z.only [0, 1, 2, 7, 9] rfl ?_
  refine Z.nthen ?_
  refine Z.block ?_
  refine Z.loopk (ι := Nat × List (Int × Int)) [0, 1, 2, 7] rfl (fun x => [(9, [], .int .i64 (x.1 : Int))]) (fun x wr => (x.1 ≤ q ∧ BkI k q bs x.1 x.2) ∧ SX.St w [] wr [SX.Ent.row (.slice Ad q cd) 32 2 q (pcells x.2)]) (fun x => q - x.1) (0, (List.range q).map (mpt k bs)) (by refine ⟨?_, trivial⟩ <;> (first | rfl | (refine Z.lookv rfl ?_; simp; done) | (refine Z.lookv rfl ?_; simp; omega))) ⟨⟨by omega, BkI.start⟩, by simpa using hs⟩ ?_
  clear hs
  rintro ⟨i, qs⟩ w1 ⟨⟨hiq, hI⟩, hs⟩
  refine Z.only [0, 1, 2, 7, 9] rfl ?_
  dsimp only at hs
  dsimp only at hiq hI
  refine Z.seq ?_
  refine Z.seq ?_
  refine Z.region ?_
  refine Z.lb 2 rfl ?_
  refine Z.l rfl rfl (by rfl) (Z.keepS hs) (Z.Yd.lenS rfl Try.underlying25) ?_
  refine Z.lb 4 rfl ?_
  refine Z.l rfl rfl (by rfl) (Z.keepS hs) (Z.Yd.lenS rfl Try.underlying25) ?_
  refine Z.lb 2 rfl ?_
  refine Z.lnil ?_
  refine Z.only [0, 1, 2, 7, 9, 34] rfl ?_
  refine Z.nthen ?_
  refine Z.cond rfl (fun hc7 => ?_) (fun hc7 => ?_)
  · first
      | (exfalso; simp at hc7 <;> omega)
      | (
        (try simp at hc7)
        obtain ⟨b2, off2, rfl, hx2⟩ := hrn.sx.some (by rw [pcells_length]; omega)
        have hf2 : ns[i]? = some (ptAt ns (i : Int)) := by
          rw [List.getElem?_eq_getElem (by omega)]
          simp [ptAt, show i < ns.length by omega]
        have hpl := pcells_length qs
        have hlen := hI.len
        have hsame := hI.same i (Nat.le_refl i) (by omega)
        have hbd := mpt_near (j := i) hb hk hk3
        obtain ⟨gw, cw', e0, -, -⟩ := row_form (j := 0) hs rfl (by omega)
        simp only [Value.slice.injEq, true_and] at e0
        obtain ⟨rfl, rfl⟩ := e0
        refine Z.skip ?_
        refine Z.nthen ?_
        refine Z.seq ?_
        refine Z.block ?_
        refine Z.seq ?_
        refine Z.seq ?_
        refine Z.region ?_
        refine Z.lb 2 rfl ?_
        refine Z.l rfl rfl (by rfl) (Z.keepS hs) (Z.Yd.elem rfl rfl Try.underlying25 Try.sizeOf32 (fun hG => ⟨(by first | omega | (have hG' := Z.gh rfl hG; simp at hG'; omega)), (by first | omega | (have hG' := Z.gh rfl hG; simp at hG'; omega))⟩)) ?_
        refine Z.l rfl rfl (by rfl) (Z.keepS hs) (Z.Yd.fieldA (m := 0) rfl (by kernel_rfl)) ?_
        refine Z.l rfl rfl (by rfl) (Z.keepS hs) (Z.Yd.load rfl Try.isAgg3 (fun _ => Z.cellXf (enc := encPt) (s := 2) hx2 encPt_length hf2 rfl)) ?_
        refine Z.lb 4 rfl ?_
        refine Z.l rfl rfl (by rfl) (Z.keepS hs) (Z.Yd.elem rfl rfl Try.underlying25 Try.sizeOf32 (fun hG => ⟨(by first | omega | (have hG' := Z.gh rfl hG; simp at hG'; omega)), (by first | omega | (have hG' := Z.gh rfl hG; simp at hG'; omega))⟩)) ?_
        refine Z.l rfl rfl (by rfl) (Z.keepS hs) (Z.Yd.fieldA (m := 0) rfl (by kernel_rfl)) ?_
        refine Z.l rfl rfl (by rfl) (Z.keepS hs) (Z.Yd.load rfl Try.isAgg3 (fun _ => Z.cellXf (enc := encPt) (s := 2) hx2 encPt_length hf2 rfl)) ?_
        refine Z.lb 2 rfl ?_
        refine Z.lnil ?_
        refine Z.only [0, 1, 2, 7, 9, 50] rfl ?_
        refine Z.nthen ?_
        refine Z.cutt (ι := List (Int × Int)) [0, 1, 2, 7, 9] rfl (fun x => []) (fun x wr => (∃ y, x = qs.set i (y, (mpt k bs i).2) ∧ -16 < y - (mpt k bs i).1 ∧ y - (mpt k bs i).1 < 16) ∧ SX.St w [] wr [SX.Ent.row (.slice (some ⟨gw, 0, none⟩) q cd) 32 2 q (pcells x)]) ?_ ?_
        · skip
          refine Z.cond rfl (fun hc9 => ?_) (fun hc9 => ?_)
          · first
              | (exfalso; simp at hc9 <;> omega)
              | (
                (try simp at hc9)
                refine Z.drawK (fun j => j != 13) mixed hs ?_
                clear hs; intro wd10 hs
                refine Z.tb [0, 1] (by kernel_rfl) rfl ⟨_, hs, by first | (simp; done) | exact fun e he => List.mem_append_right _ he⟩ rfl ?_
                refine Z.t 2 rfl rfl rfl (by rfl) (by kernel_rfl) ⟨_, hs, by first | (simp; done) | exact fun e he => List.mem_append_right _ he⟩ (Z.Yd.elem rfl rfl Try.underlying25 Try.sizeOf32 (fun hG => ⟨(by first | omega | (have hG' := Z.gh rfl hG; simp at hG'; omega)), (by first | omega | (have hG' := Z.gh rfl hG; simp at hG'; omega))⟩)) ?_
                refine Z.t 3 rfl rfl rfl (by rfl) (by kernel_rfl) ⟨_, hs, by first | (simp; done) | exact fun e he => List.mem_append_right _ he⟩ (Z.Yd.fieldA (m := 0) rfl (by kernel_rfl)) ?_
                refine Z.t 4 rfl rfl rfl (by rfl) (by kernel_rfl) ⟨_, hs, by first | (simp; done) | exact fun e he => List.mem_append_right _ he⟩ (Z.Yd.load rfl Try.isAgg3 (fun _ => Z.cellR (xs := pcells qs) (by first | ((repeat (first | exact List.mem_cons_self | refine List.mem_cons_of_mem _ ?_ | refine List.mem_append_right _ ?_)); done) | fail) (Z.flat_pos (enc := encPt) encPt_length hsame rfl))) ?_
                refine Z.tb [5, 6] (by kernel_rfl) rfl ⟨_, hs, by first | (simp; done) | exact fun e he => List.mem_append_right _ he⟩ rfl ?_
                refine Z.t 7 rfl rfl rfl (by rfl) (by kernel_rfl) ⟨_, hs, by first | (simp; done) | exact fun e he => List.mem_append_right _ he⟩ (Z.Yd.elem rfl rfl Try.underlying25 Try.sizeOf32 (fun hG => ⟨(by first | omega | (have hG' := Z.gh rfl hG; simp at hG'; omega)), (by first | omega | (have hG' := Z.gh rfl hG; simp at hG'; omega))⟩)) ?_
                refine Z.t 8 rfl rfl rfl (by rfl) (by kernel_rfl) ⟨_, hs, by first | (simp; done) | exact fun e he => List.mem_append_right _ he⟩ (Z.Yd.fieldA (m := 0) rfl (by kernel_rfl)) ?_
                refine Z.t 9 rfl rfl rfl (by rfl) (by kernel_rfl) ⟨_, hs, by first | (simp; done) | exact fun e he => List.mem_append_right _ he⟩ (Z.Yd.load rfl Try.isAgg3 (fun _ => Z.cellXf (enc := encPt) (s := 2) hx2 encPt_length hf2 rfl)) ?_
                refine Z.t 10 rfl rfl rfl (by rfl) (by kernel_rfl) ⟨_, hs, by first | (simp; done) | exact fun e he => List.mem_append_right _ he⟩ (Z.Yd.add rfl rfl (fun hG => Z.wi64 (by first | omega | (have hG' := Z.gh rfl hG; simp at hG'; omega)))) ?_
                refine Z.tn 11 rfl rfl (by kernel_rfl) rfl trivial ?_
                refine Z.ZO.quiet rfl (by rfl) (Z.keepS hs) (Z.Yd.elem rfl rfl Try.underlying25 Try.sizeOf32 (fun hG => ⟨(by first | omega | (have hG' := Z.gh rfl hG; simp at hG'; omega)), (by first | omega | (have hG' := Z.gh rfl hG; simp at hG'; omega))⟩)) ?_
                refine Z.tk (Dn := fun j => j != 13) (i := 11) (fun _ => ⟨_, hs, by first | (simp; done) | exact fun e he => List.mem_append_right _ he⟩) ?_
                refine Z.t 12 rfl rfl rfl (by rfl) (by kernel_rfl) ⟨_, hs, by first | (simp; done) | exact fun e he => List.mem_append_right _ he⟩ (Z.Yd.fieldA (m := 0) rfl (by kernel_rfl)) ?_
                refine Z.tn 13 rfl rfl (by kernel_rfl) rfl trivial ?_
                first | refine Z.ZO.store rfl rfl hs Try.sizeOf3 rfl rfl rfl (by first | exact SX.at0 | exact SX.at1 | exact SX.at2 | exact SX.at3 | exact SX.at4 | exact SX.at5 | exact Z.at6 | exact Z.at7 | exact Z.at8 | exact Z.at9 | exact Z.at10 | exact Z.at11 | exact Z.at12) (by first | (simp; done) | (simp; omega)) ?_ | refine Z.ZO.storeR rfl rfl hs Try.sizeOf3 rfl rfl rfl (by first | exact SX.at0 | exact SX.at1 | exact SX.at2 | exact SX.at3 | exact SX.at4 | exact SX.at5 | exact Z.at6 | exact Z.at7 | exact Z.at8 | exact Z.at9 | exact Z.at10 | exact Z.at11 | exact Z.at12) (by first | omega | (simp [ints_length]; done) | (simp [ints_length]; omega)) ?_
                clear hs; intro ws hs
                simp only [Nat.zero_add, Nat.add_zero, Nat.reduceAdd, List.set_cons_zero, List.set_cons_succ, List.setIfInBounds_toArray] at hs
                refine Z.tk (Dn := fun j => j != 13) (i := 13) (fun h => absurd h (by decide)) ?_
                refine Z.td (by rfl) (by kernel_rfl) ?_
                refine Z.only [0, 1, 2, 7, 9] rfl ?_
                refine Z.nthen ?_
                first | exact Z.meet (qs.set i ((mpt k bs i).1 + (ptAt ns (i : Int)).1, (mpt k bs i).2)) (by refine ⟨?_, ?_, ?_, ?_, ?_, trivial⟩ <;> (first | rfl | (refine Z.lookv rfl ?_; simp; done) | (refine Z.lookv rfl ?_; simp; omega))) ⟨⟨_, rfl, by omega, by omega⟩, by have e := Z.flat_set (j := 0) (x' := ((mpt k bs i).1 + (ptAt ns (i : Int)).1, (mpt k bs i).2)) (u := .int .i64 ((mpt k bs i).1 + (ptAt ns (i : Int)).1)) encPt_length hsame (by omega) rfl; rw [← pcells_enc, ← pcells_enc] at e; rw [show (i : Int).toNat * 2 = i * 2 + 0 from by omega, e] at hs; exact hs⟩ | exact Z.meet (qs.set i (mpt k bs i)) (by refine ⟨?_, ?_, ?_, ?_, ?_, trivial⟩ <;> (first | rfl | (refine Z.lookv rfl ?_; simp; done) | (refine Z.lookv rfl ?_; simp; omega))) ⟨⟨(mpt k bs i).1, rfl, by omega, by omega⟩, by rw [set_same hsame]; exact hs⟩
                )
          · first
              | (exfalso; simp at hc9 <;> omega)
              | (
                (try simp at hc9)
                refine Z.skip ?_
                refine Z.nthen ?_
                first | exact Z.meet (qs.set i ((mpt k bs i).1 + (ptAt ns (i : Int)).1, (mpt k bs i).2)) (by refine ⟨?_, ?_, ?_, ?_, ?_, trivial⟩ <;> (first | rfl | (refine Z.lookv rfl ?_; simp; done) | (refine Z.lookv rfl ?_; simp; omega))) ⟨⟨_, rfl, by omega, by omega⟩, by have e := Z.flat_set (j := 0) (x' := ((mpt k bs i).1 + (ptAt ns (i : Int)).1, (mpt k bs i).2)) (u := .int .i64 ((mpt k bs i).1 + (ptAt ns (i : Int)).1)) encPt_length hsame (by omega) rfl; rw [← pcells_enc, ← pcells_enc] at e; rw [show (i : Int).toNat * 2 = i * 2 + 0 from by omega, e] at hs; exact hs⟩ | exact Z.meet (qs.set i (mpt k bs i)) (by refine ⟨?_, ?_, ?_, ?_, ?_, trivial⟩ <;> (first | rfl | (refine Z.lookv rfl ?_; simp; done) | (refine Z.lookv rfl ?_; simp; omega))) ⟨⟨(mpt k bs i).1, rfl, by omega, by omega⟩, by rw [set_same hsame]; exact hs⟩
                )
        · clear hs
          rintro x w2 ⟨⟨y, rfl, hy1, hy2⟩, hs⟩
          refine Z.only [0, 1, 2, 7, 9] rfl ?_
          have hpl2 := pcells_length (qs.set i (y, (mpt k bs i).2))
          rw [List.length_set] at hpl2
          have hs2 : (qs.set i (y, (mpt k bs i).2))[i]? = some (y, (mpt k bs i).2) := List.getElem?_set_self (by have := hI.len; omega)
          refine Z.seq ?_
          refine Z.region ?_
          refine Z.lb 2 rfl ?_
          refine Z.l rfl rfl (by rfl) (Z.keepS hs) (Z.Yd.elem rfl rfl Try.underlying25 Try.sizeOf32 (fun hG => ⟨(by first | omega | (have hG' := Z.gh rfl hG; simp at hG'; omega)), (by first | omega | (have hG' := Z.gh rfl hG; simp at hG'; omega))⟩)) ?_
          refine Z.l rfl rfl (by rfl) (Z.keepS hs) (Z.Yd.fieldA (m := 1) rfl (by kernel_rfl)) ?_
          refine Z.l rfl rfl (by rfl) (Z.keepS hs) (Z.Yd.load rfl Try.isAgg3 (fun _ => Z.cellXf (enc := encPt) (s := 2) hx2 encPt_length hf2 rfl)) ?_
          refine Z.lb 4 rfl ?_
          refine Z.l rfl rfl (by rfl) (Z.keepS hs) (Z.Yd.elem rfl rfl Try.underlying25 Try.sizeOf32 (fun hG => ⟨(by first | omega | (have hG' := Z.gh rfl hG; simp at hG'; omega)), (by first | omega | (have hG' := Z.gh rfl hG; simp at hG'; omega))⟩)) ?_
          refine Z.l rfl rfl (by rfl) (Z.keepS hs) (Z.Yd.fieldA (m := 1) rfl (by kernel_rfl)) ?_
          refine Z.l rfl rfl (by rfl) (Z.keepS hs) (Z.Yd.load rfl Try.isAgg3 (fun _ => Z.cellXf (enc := encPt) (s := 2) hx2 encPt_length hf2 rfl)) ?_
          refine Z.lb 2 rfl ?_
          refine Z.lnil ?_
          refine Z.only [0, 1, 2, 7, 9, 77] rfl ?_
          refine Z.nthen ?_
          refine Z.cond rfl (fun hc11 => ?_) (fun hc11 => ?_)
          · first
              | (exfalso; simp at hc11 <;> omega)
              | (
                (try simp at hc11)
                refine Z.drawK (fun j => j != 13) mixed hs ?_
                clear hs; intro wd12 hs
                refine Z.tb [0, 1] (by kernel_rfl) rfl ⟨_, hs, by first | (simp; done) | exact fun e he => List.mem_append_right _ he⟩ rfl ?_
                refine Z.t 2 rfl rfl rfl (by rfl) (by kernel_rfl) ⟨_, hs, by first | (simp; done) | exact fun e he => List.mem_append_right _ he⟩ (Z.Yd.elem rfl rfl Try.underlying25 Try.sizeOf32 (fun hG => ⟨(by first | omega | (have hG' := Z.gh rfl hG; simp at hG'; omega)), (by first | omega | (have hG' := Z.gh rfl hG; simp at hG'; omega))⟩)) ?_
                refine Z.t 3 rfl rfl rfl (by rfl) (by kernel_rfl) ⟨_, hs, by first | (simp; done) | exact fun e he => List.mem_append_right _ he⟩ (Z.Yd.fieldA (m := 1) rfl (by kernel_rfl)) ?_
                refine Z.t 4 rfl rfl rfl (by rfl) (by kernel_rfl) ⟨_, hs, by first | (simp; done) | exact fun e he => List.mem_append_right _ he⟩ (Z.Yd.load rfl Try.isAgg3 (fun _ => Z.cellR (xs := pcells (qs.set i (y, (mpt k bs i).2))) (by first | ((repeat (first | exact List.mem_cons_self | refine List.mem_cons_of_mem _ ?_ | refine List.mem_append_right _ ?_)); done) | fail) (Z.flat_pos (enc := encPt) encPt_length hs2 rfl))) ?_
                refine Z.tb [5, 6] (by kernel_rfl) rfl ⟨_, hs, by first | (simp; done) | exact fun e he => List.mem_append_right _ he⟩ rfl ?_
                refine Z.t 7 rfl rfl rfl (by rfl) (by kernel_rfl) ⟨_, hs, by first | (simp; done) | exact fun e he => List.mem_append_right _ he⟩ (Z.Yd.elem rfl rfl Try.underlying25 Try.sizeOf32 (fun hG => ⟨(by first | omega | (have hG' := Z.gh rfl hG; simp at hG'; omega)), (by first | omega | (have hG' := Z.gh rfl hG; simp at hG'; omega))⟩)) ?_
                refine Z.t 8 rfl rfl rfl (by rfl) (by kernel_rfl) ⟨_, hs, by first | (simp; done) | exact fun e he => List.mem_append_right _ he⟩ (Z.Yd.fieldA (m := 1) rfl (by kernel_rfl)) ?_
                refine Z.t 9 rfl rfl rfl (by rfl) (by kernel_rfl) ⟨_, hs, by first | (simp; done) | exact fun e he => List.mem_append_right _ he⟩ (Z.Yd.load rfl Try.isAgg3 (fun _ => Z.cellXf (enc := encPt) (s := 2) hx2 encPt_length hf2 rfl)) ?_
                refine Z.t 10 rfl rfl rfl (by rfl) (by kernel_rfl) ⟨_, hs, by first | (simp; done) | exact fun e he => List.mem_append_right _ he⟩ (Z.Yd.add rfl rfl (fun hG => Z.wi64 (by first | omega | (have hG' := Z.gh rfl hG; simp at hG'; omega)))) ?_
                refine Z.tn 11 rfl rfl (by kernel_rfl) rfl trivial ?_
                refine Z.ZO.quiet rfl (by rfl) (Z.keepS hs) (Z.Yd.elem rfl rfl Try.underlying25 Try.sizeOf32 (fun hG => ⟨(by first | omega | (have hG' := Z.gh rfl hG; simp at hG'; omega)), (by first | omega | (have hG' := Z.gh rfl hG; simp at hG'; omega))⟩)) ?_
                refine Z.tk (Dn := fun j => j != 13) (i := 11) (fun _ => ⟨_, hs, by first | (simp; done) | exact fun e he => List.mem_append_right _ he⟩) ?_
                refine Z.t 12 rfl rfl rfl (by rfl) (by kernel_rfl) ⟨_, hs, by first | (simp; done) | exact fun e he => List.mem_append_right _ he⟩ (Z.Yd.fieldA (m := 1) rfl (by kernel_rfl)) ?_
                refine Z.tn 13 rfl rfl (by kernel_rfl) rfl trivial ?_
                first | refine Z.ZO.store rfl rfl hs Try.sizeOf3 rfl rfl rfl (by first | exact SX.at0 | exact SX.at1 | exact SX.at2 | exact SX.at3 | exact SX.at4 | exact SX.at5 | exact Z.at6 | exact Z.at7 | exact Z.at8 | exact Z.at9 | exact Z.at10 | exact Z.at11 | exact Z.at12) (by first | (simp; done) | (simp; omega)) ?_ | refine Z.ZO.storeR rfl rfl hs Try.sizeOf3 rfl rfl rfl (by first | exact SX.at0 | exact SX.at1 | exact SX.at2 | exact SX.at3 | exact SX.at4 | exact SX.at5 | exact Z.at6 | exact Z.at7 | exact Z.at8 | exact Z.at9 | exact Z.at10 | exact Z.at11 | exact Z.at12) (by first | omega | (simp [ints_length]; done) | (simp [ints_length]; omega)) ?_
                clear hs; intro ws hs
                simp only [Nat.zero_add, Nat.add_zero, Nat.reduceAdd, List.set_cons_zero, List.set_cons_succ, List.setIfInBounds_toArray] at hs
                refine Z.tk (Dn := fun j => j != 13) (i := 13) (fun h => absurd h (by decide)) ?_
                refine Z.td (by rfl) (by kernel_rfl) ?_
                refine Z.only [0, 1, 2, 7, 9] rfl ?_
                refine Z.nblock ?_
                refine Z.nthen ?_
                refine Z.region ?_
                refine Z.lb 1 rfl ?_
                refine Z.l rfl rfl (by rfl) (Z.keepS hs) (Z.Yd.add rfl rfl (fun hG => Z.wi64 (by first | omega | (have hG' := Z.gh rfl hG; simp at hG'; omega)))) ?_
                refine Z.lb 1 rfl ?_
                refine Z.lnil ?_
                refine Z.only [0, 1, 2, 7, 9] rfl ?_
                refine Z.nthen ?_
                first
                | exact Z.again (i + 1, qs.set i (y, (mpt k bs i).2 + (ptAt ns (i : Int)).2)) (by refine ⟨?_, ?_, ?_, ?_, ?_, trivial⟩ <;> (first | rfl | (refine Z.lookv rfl ?_; simp; done) | (refine Z.lookv rfl ?_; simp; omega))) ⟨⟨by simp only; omega, hI.next (by omega) (by unfold Near; simp only; omega)⟩, by have e := Z.flat_set (j := 1) (x' := (y, (mpt k bs i).2 + (ptAt ns (i : Int)).2)) (u := .int .i64 ((mpt k bs i).2 + (ptAt ns (i : Int)).2)) encPt_length hs2 (by omega) rfl; rw [← pcells_enc, ← pcells_enc] at e; rw [show (i : Int).toNat * 2 + 1 = i * 2 + 1 from by omega, e, List.set_set] at hs; exact hs⟩ (by simp only; omega)
                | exact Z.again (i + 1, qs.set i (y, (mpt k bs i).2)) (by refine ⟨?_, ?_, ?_, ?_, ?_, trivial⟩ <;> (first | rfl | (refine Z.lookv rfl ?_; simp; done) | (refine Z.lookv rfl ?_; simp; omega))) ⟨⟨by simp only; omega, hI.next (by omega) (by unfold Near; simp only; omega)⟩, hs⟩ (by simp only; omega)
                )
          · first
              | (exfalso; simp at hc11 <;> omega)
              | (
                (try simp at hc11)
                refine Z.skip ?_
                refine Z.nblock ?_
                refine Z.nthen ?_
                refine Z.region ?_
                refine Z.lb 1 rfl ?_
                refine Z.l rfl rfl (by rfl) (Z.keepS hs) (Z.Yd.add rfl rfl (fun hG => Z.wi64 (by first | omega | (have hG' := Z.gh rfl hG; simp at hG'; omega)))) ?_
                refine Z.lb 1 rfl ?_
                refine Z.lnil ?_
                refine Z.only [0, 1, 2, 7, 9] rfl ?_
                refine Z.nthen ?_
                first
                | exact Z.again (i + 1, qs.set i (y, (mpt k bs i).2 + (ptAt ns (i : Int)).2)) (by refine ⟨?_, ?_, ?_, ?_, ?_, trivial⟩ <;> (first | rfl | (refine Z.lookv rfl ?_; simp; done) | (refine Z.lookv rfl ?_; simp; omega))) ⟨⟨by simp only; omega, hI.next (by omega) (by unfold Near; simp only; omega)⟩, by have e := Z.flat_set (j := 1) (x' := (y, (mpt k bs i).2 + (ptAt ns (i : Int)).2)) (u := .int .i64 ((mpt k bs i).2 + (ptAt ns (i : Int)).2)) encPt_length hs2 (by omega) rfl; rw [← pcells_enc, ← pcells_enc] at e; rw [show (i : Int).toNat * 2 + 1 = i * 2 + 1 from by omega, e, List.set_set] at hs; exact hs⟩ (by simp only; omega)
                | exact Z.again (i + 1, qs.set i (y, (mpt k bs i).2)) (by refine ⟨?_, ?_, ?_, ?_, ?_, trivial⟩ <;> (first | rfl | (refine Z.lookv rfl ?_; simp; done) | (refine Z.lookv rfl ?_; simp; omega))) ⟨⟨by simp only; omega, hI.next (by omega) (by unfold Near; simp only; omega)⟩, hs⟩ (by simp only; omega)
                )
        )
  · first
      | (exfalso; simp at hc7 <;> omega)
      | (
        (try simp at hc7)
        refine Z.exit ?_
        refine Z.xthen ?_
        refine Z.xthen ?_
        refine Z.xblock ?_
        refine Z.nthen ?_
        refine Z.seq ?_
        refine Z.region ?_
        have hins : ∀ p ∈ qs, ins p = true := fun p hp => by
          obtain ⟨j, hj⟩ := List.getElem?_of_mem hp
          exact near_ins hb hk hk3 (hI.near j p hj)
        have hback := back_all hb hk hk3 (by omega) hI.len hI.near
        refine Z.l rfl rfl (by rfl) (Z.keepS hs) (Z.Yd.pure rfl) ?_
        refine Z.lb 1 rfl ?_
        refine Z.le rfl trivial ?_
        refine Z.ZO.call rfl rfl (by rfl) rfl rfl Try.call18 rfl (decide_ok Ad q cd k qs _ (SX.row_slB hs (j := 0) rfl) hI.len (by omega) hk hk3 hins) ?_
        rintro v13_2 w13_2 ⟨Bd, co, rfl, hy⟩
        replace hs := hs.call hy
        clear hy
        try simp only [List.cons_append, List.nil_append, List.append_nil] at hs
        rw [hback, ← hn] at hs
        rw [← hn]
        refine Z.lb 5 rfl ?_
        refine Z.lnil ?_
        refine Z.only [1, 10, 11] rfl ?_
        refine Z.nthen ?_
        refine Z.seq ?_
        refine Z.region ?_
        refine Z.lb 3 rfl ?_
        refine Z.yes (s := 99) (b := true) rfl ((by decide)) rfl ?_
        refine Z.lb 2 rfl ?_
        have hsB := SX.row_slB hs (j := 0) rfl
        have hsA := hr.st (hs.sub (List.nil_sublist _))
        have hn1 : n ≤ 1000000 := by omega
        have HB := sameB_any Bd A n n n c bs bs _ hsB hsA hl hl rfl hn1
        refine Z.yes (s := 99) (b := true) rfl rfl rfl ?_
        refine Z.le rfl (by exact ⟨rfl, trivial⟩) ?_
        refine Z.ZO.call rfl rfl (by rfl) rfl rfl Try.call21 rfl (HB) ?_
        rintro v14_5 w14_5 ⟨rfl, hy⟩
        replace hs := hs.call hy
        clear hy
        try simp only [List.cons_append, List.nil_append, List.append_nil] at hs
        refine Z.l rfl rfl (by rfl) (Z.keepS hs) (Z.Yd.pickT rfl rfl) ?_
        refine Z.lb 1 rfl ?_
        refine Z.yes (s := 104) (b := true) rfl ((by decide)) rfl ?_
        refine Z.le rfl (by exact ⟨rfl, trivial⟩) ?_
        refine Z.ZO.call rfl rfl (by rfl) rfl rfl Try.call10 rfl (known_any _) ?_
        rintro v14_8 w14_8 ⟨rfl, hy⟩
        replace hs := hs.call hy
        clear hy
        try simp only [List.cons_append, List.nil_append, List.append_nil] at hs
        refine Z.l rfl rfl (by rfl) (Z.keepS hs) (Z.Yd.pickT rfl rfl) ?_
        refine Z.lb 1 rfl ?_
        refine Z.lnil ?_
        refine Z.only [6] rfl ?_
        refine Z.nthen ?_
        refine Z.ret ?_
        -- ret#0
        refine Z.out1 (by exact ⟨rfl, trivial⟩) ?_
        first | exact ⟨_, rfl, rfl, hs⟩ | exact ⟨_, rfl, rfl, hs.sub (List.nil_sublist _)⟩
        )

theorem qamBack_rd (a0 : Int) (a1 : Option Addr) (len1 cap1 : Nat) (a2 : Option Addr) (len2 cap2 : Nat) (w : World) (z0 : Rd Try.prog w 22 (Value.int .i64 a0).cells.toList) (z1 : Rd Try.prog w 23 (Value.slice a1 len1 cap1).cells.toList) (z2 : Rd Try.prog w 25 (Value.slice a2 len2 cap2).cells.toList) :
    Calls Try.prog 7 #[.int .i64 a0, .slice a1 len1 cap1, .slice a2 len2 cap2] w fun e w' => e = .returned (.bool true) ∧ Below w.heap.size w w' := by
  obtain ⟨bs, hl, hnc, hcm, hwf, hs⟩ := Rb.rd_bytes z1
  obtain ⟨ps, h1, h2, h3⟩ := rd_points z2
  have hc : (cap1 : Int) ≤ 9223372036854775807 := by unfold maxLen at hcm; omega
  have hl2 : len2 ≤ 9223372036854775807 := by unfold maxLen at h2; omega
  have key : Calls Try.prog 7 #[.int .i64 a0, .slice a1 len1 cap1, .slice a2 len2 cap2] w (SX.Ret fun v w' => v = .bool true ∧ SX.St w [] w' []) := by
    by_cases h6 : 600 < len1
    · exact back_long a0 a1 a2 len1 cap1 len2 cap2 w (by omega)
    have h6' : len1 ≤ 600 := by omega
    by_cases hv : vm a0 = true
    · have hm : a0 = 2 ∨ a0 = 4 ∨ a0 = 6 := by simp [vm] at hv; omega
      by_cases hr : (len1 : Int).tmod a0 = 0
      · obtain ⟨k, hk, hk3, rfl⟩ : ∃ k : Nat, 1 ≤ k ∧ k ≤ 3 ∧ a0 = ((2 * k : Nat) : Int) := by
          rcases hm with rfl | rfl | rfl
          · exact ⟨1, by omega, by omega, rfl⟩
          · exact ⟨2, by omega, by omega, rfl⟩
          · exact ⟨3, by omega, by omega, rfl⟩
        obtain ⟨q, hq⟩ : ∃ q, len1 = q * (2 * k) := by
          rw [Int.tmod_eq_emod_of_nonneg (by omega)] at hr
          have h1 : len1 % (2 * k) = 0 := by omega
          exact ⟨len1 / (2 * k), (Nat.div_mul_cancel (Nat.dvd_of_mod_eq_zero h1)).symm⟩
        by_cases hb : bs.any (fun x => decide (1 < x)) = true
        · exact back_bad _ 3 a1 a2 len1 cap1 len2 cap2 w h6' (by decide) fun W L hW => modulate_bit a1 len1 cap1 k q bs W (hs.st hW) hl hq hk hk3 h6' hb
        · refine back_ok a1 a2 len1 cap1 k q len2 cap2 bs ps w hs hl hq hk hk3 h6' hnc hc (fun b hbm => ?_) h3 h1 hl2
          have h1 := hwf b hbm
          have h2 : ¬ 1 < b := fun h => hb (List.any_eq_true.2 ⟨b, hbm, by simpa using h⟩)
          omega
      · exact back_bad _ 2 a1 a2 len1 cap1 len2 cap2 w h6' (by decide) fun W L hW => modulate_arg a1 len1 cap1 a0 W (.inr ⟨by omega, hr⟩) h6'
    · exact back_bad _ 2 a1 a2 len1 cap1 len2 cap2 w h6' (by decide) fun W L hW => modulate_arg a1 len1 cap1 a0 W (.inl (by simpa using hv)) h6'
  refine key.mono ?_
  rintro e w' ⟨v, rfl, rfl, h⟩
  exact ⟨rfl, h.below⟩
end Go.Proofs.Ythncbdoiilgnhaa
