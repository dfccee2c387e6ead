/- Part 5 of the proofs that lead to the statement. -/
import Derived.Test.YtogjkgoiofngaaaY4
import Derived.Lib.ConvBytes
import Derived.Test.YtogjkgoiofngaaaRows
/- MAC PDUs: Parse. -/
namespace Go.Proofs.Ytogjkgoiofngaaa
open Go.RowKit
set_option linter.unusedSimpArgs false
set_option linter.unusedVariables false
--newlaws

def rowsQ (qs : List (MpV × Nat)) : List SX.Ent := qs.map fun x => SX.Ent.row (.slice x.1.B x.1.l.length x.2) 5 1 x.1.l.length (ints .u8 x.1.l)
def cellsQ (qs : List (MpV × Nat)) : List Value := qs.flatMap fun x => x.1.cells
def plainQ (qs : List (MpV × Nat)) : List Prt := qs.map fun x => x.1.plain
def ParR (R : Int × List Prt) (v : Value) (w w' : World) : Prop := ∃ qs sv, v = .tuple #[sv, .int .i64 R.1] ∧ plainQ qs = R.2 ∧ SX.St w [] w' (SX.Ent.row sv 47 2 qs.length (cellsQ qs) :: rowsQ qs)
theorem ParR.fail {e : Int} {w w' : World} (hs : SX.St w [] w' []) : ParR (e, []) (.tuple #[.slice none 0 0, .int .i64 e]) w w' := ⟨[], _, rfl, rfl, hs.nil _ 2⟩
theorem mm_clearP (gp T : Nat) (a : Value) (W : World) (hs : SX.St W (SX.idsOf [SX.Ent.blk gp T #[a]]) W [SX.Ent.blk gp T #[a]]) :
    Calls Try.prog 44 #[.pointer (some ⟨gp, 0, none⟩)] W (SX.Ret fun v w' => v = .tuple #[] ∧ SX.St W (SX.idsOf [SX.Ent.blk gp T #[a]]) w' [SX.Ent.blk gp T #[.slice none 0 0]]) := by
  generalize SX.idsOf [SX.Ent.blk gp T #[a]] = M at *
  refine Z.enter Try.func44 rfl Try.ntmps44 rfl rfl ?_
  refine Z.region ?_
  refine Z.le rfl trivial ?_
  first | refine Z.ZO.store rfl rfl hs Try.sizeOf22 rfl rfl rfl (by first | exact SX.at0 | exact SX.at1 | exact SX.at2 | exact SX.at3 | exact SX.at4 | exact SX.at5 | exact Z.at6 | exact Z.at7 | exact Z.at8 | exact Z.at9 | exact Z.at10 | exact Z.at11 | exact Z.at12) (by first | (simp; done) | (simp; omega)) ?_ | refine Z.ZO.storeR rfl rfl hs Try.sizeOf22 rfl rfl rfl (by first | exact SX.at0 | exact SX.at1 | exact SX.at2 | exact SX.at3 | exact SX.at4 | exact SX.at5 | exact Z.at6 | exact Z.at7 | exact Z.at8 | exact Z.at9 | exact Z.at10 | exact Z.at11 | exact Z.at12) (by first | omega | (simp [ints_length]; done) | (simp [ints_length]; omega)) ?_
  clear hs; intro ws hs
  simp only [Nat.zero_add, Nat.add_zero, Nat.reduceAdd, Int.reduceToNat, Nat.reduceMul, List.set_cons_zero, List.set_cons_succ, List.setIfInBounds_toArray] at hs
  refine Z.lnil ?_
  refine Z.only [] rfl ?_
  -- ret#0
  refine Z.out0n trivial ?_
  first | exact ⟨_, rfl, rfl, hs⟩ | exact ⟨_, rfl, rfl, hs.sub (List.nil_sublist _)⟩
theorem mm_part (g T : Nat) (sv : Value) (l : List Int) (p : Nat) (x n : Int) (la : Bool) (k : Nat) (w : World) (hs : SX.St w (SX.idsOf (RdL g T sv l (8 * p))) w (RdL g T sv l (8 * p))) (hl : l.length ≤ 1000000) (hb : ∀ x ∈ l, 0 ≤ x ∧ x < 256) (hp : p ≤ l.length) (hk : ptN l p x n la = k) :
    Calls Try.prog 47 #[.agg #[.pointer (some ⟨g, 0, none⟩)], .agg #[.int .i64 x, .int .i64 n], .bool la] w (PtR g T sv l p x la k w) := by
  cases la
  · exact mm_part_mid g T sv l p x n k w hs hl hb hp hk
  · exact mm_part_last g T sv l p x n k w hs hl hb hp hk
theorem ptN_nat {l : List Int} {p : Nat} {a : List (Int × Int)} {z : Int × Int} {i : Nat} {h : Int × Int} (hp : p ≤ l.length) (ha : ∀ x ∈ a, hdG x) (hz : hdT z) (hh : (a ++ [z])[i]? = some h) (h31 : h.1 ≠ 31) {la : Bool} (hla : la = decide (i + 1 = (a ++ [z]).length)) : ∃ k : Nat, ptN l p h.1 h.2 la = k := by
  have hn : 0 ≤ ptN l p h.1 h.2 la := by
    unfold ptN
    by_cases hc : ctlN h.1 ≠ 0
    · rw [if_pos hc]; exact (ctlN_bd h.1).1
    · rw [if_neg hc]
      by_cases hl : la = true
      · rw [if_pos hl]; omega
      · rw [if_neg hl]
        have hi : i < (a ++ [z]).length := (List.getElem?_eq_some_iff.1 hh).1
        have hne : i + 1 ≠ (a ++ [z]).length := fun e => hl (by rw [hla, decide_eq_true e])
        rw [List.length_append, List.length_singleton] at hi hne
        rw [List.getElem?_append_left (by omega)] at hh
        obtain ⟨hT, hG⟩ := ha h (List.mem_of_getElem? hh)
        rcases hT with h1 | h1 | h1
        · have := hG h1; omega
        · exact absurd h1 hc
        · exact absurd h1 h31
  exact ⟨_, (Int.toNat_of_nonneg hn).symm⟩
theorem _root_.Go.Proofs.Ytogjkgoiofngaaa.SX.St.tailU {w0 w : World} {M : List Nat} {A Q : List SX.Ent} {r : SX.Ent} (h : SX.St w0 M w (A ++ [r] ++ Q)) : SX.St w0 M w (A ++ (Q ++ [r])) := h.perm (by rw [List.append_assoc]; exact (List.perm_append_comm).append_left _)
theorem drop_emp {α : Type} {H : List α} {i : Nat} (hi : i < H.length) : (H.drop (i + 1)).isEmpty = decide (i + 1 = H.length) := by
  rw [Bool.eq_iff_iff]
  simp
  omega
theorem drop_at {α : Type} {H : List α} {i : Nat} {h : α} (hh : H[i]? = some h) : H.drop i = h :: H.drop (i + 1) := by
  obtain ⟨hi, hq⟩ := List.getElem?_eq_some_iff.1 hh
  rw [List.drop_eq_getElem_cons hi, hq]
set_option maxHeartbeats 4000000 in
set_option maxRecDepth 100000 in
theorem mc_Parse (A : Option Addr) (n c : Nat) (l : List Int) (w : World) (hx : Sl w A (ints .u8 l)) (hl : l.length = n) (hn : n ≤ 100000) (hb : ∀ x ∈ l, 0 ≤ x ∧ x < 256) :
    Calls Try.prog 23 #[.slice A n c] w (SX.Ret fun v w' => ParR (parV l) v w w') := by
  have hs := SX.St.start w
  obtain ⟨R, hR⟩ : ∃ R, parV l = R := ⟨_, rfl⟩
  rw [hR]
  obtain ⟨⟨E0, H, P0⟩, hV⟩ : ∃ V, hdV l = V := ⟨_, rfl⟩
  have hgd : E0 = 0 → ∃ a z, H = a ++ [z] ∧ (∀ x ∈ a, hdG x) ∧ hdT z := fun h => by
    have := hGo_good hb (l.length + 1) 0 [] false false (by simp)
    rw [show hGo l (l.length + 1) 0 [] false false = _ from hV] at this
    exact this h
  unfold parV at hR
  rw [hV] at hR
  simp only at hR
  have hz0 : A = none → n = 0 := fun hA => by
    subst hA
    rcases Nat.eq_zero_or_pos n with h0 | h0
    · exact h0
    · obtain ⟨b, off, e, -⟩ := hx (by simp [ints]; omega)
      cases e
  refine Z.enterD Try.func23 rfl Try.ntmps23 rfl rfl ?_
  refine Z.seq ?_
  refine Z.region ?_
  refine Z.le rfl trivial ?_
  refine Z.ZO.alloc rfl rfl (by rfl) Try.zeroValue22 rfl hs ?_
  clear hs; intro g2 w2 hs
  refine Z.le rfl trivial ?_
  refine Z.ZO.alloc rfl rfl (by rfl) Try.zeroValue27 rfl hs ?_
  clear hs; intro g3 w3 hs
  refine Z.lnil ?_
  refine Z.only [0, 2, 3] rfl ?_
  refine Z.nthen ?_
  refine Z.seq ?_
  refine Z.region ?_
  refine Z.lb 1 rfl ?_
  refine Z.le rfl trivial ?_
  refine Z.ZO.defer rfl rfl rfl rfl ?_
  refine Z.lnil ?_
  refine Z.only [0, 2, 3] rfl ?_
  refine Z.nthen ?_
  refine Z.seq ?_
  refine Z.region ?_
  refine Z.lb 1 rfl ?_
  refine Z.l rfl rfl (by rfl) (Z.keepS hs) (Z.Yd.lenS rfl Try.underlying26) ?_
  refine Z.lb 1 rfl ?_
  refine Z.le rfl trivial ?_
  refine Z.ZO.callB rfl rfl (by rfl) rfl rfl Try.call31 rfl (mm_must_any _ 4 _) ?_ ?_
  · skip
    rintro v2_3 w2_3 ⟨hm2, rfl, hy⟩
    replace hs := hs.call hy
    clear hy
    try simp only [List.cons_append, List.nil_append, List.append_nil] at hs
    rw [if_neg (by simp at hm2; omega)] at hR
    refine Z.lnil ?_
    refine Z.only [0, 2, 3] rfl ?_
    refine Z.nthen ?_
    refine Z.seq ?_
    refine Z.region ?_
    refine Z.lb 1 rfl ?_
    refine Z.le rfl trivial ?_
    refine Z.ZO.call rfl rfl (by rfl) rfl rfl Try.call45 rfl (newreader_any A n c l _ ((hx.st (hs.sub (List.nil_sublist _))).sx) hl (by omega) hz0) ?_
    rintro v3_1 w3_1 ⟨gr, sv, rfl, hy⟩
    replace hs := hs.call hy
    clear hy
    try simp only [List.cons_append, List.nil_append, List.append_nil] at hs
    refine Z.l rfl rfl (by rfl) (Z.keepS hs) (Z.Yd.buildL [(0, 1)] [.pointer none] rfl rfl (by intro w; kernel_rfl)) ?_
    refine Z.le rfl trivial ?_
    refine Z.ZO.alloc rfl rfl (by rfl) Try.zeroValue88 rfl hs ?_
    clear hs; intro g4 w4 hs
    refine Z.le rfl trivial ?_
    first | refine Z.ZO.storeA rfl rfl hs rfl rfl (by kernel_rfl) (by first | (simp [Value.oneCell']; done) | (refine Z.all_one ?_; assumption)) (by first | exact SX.at0 | exact SX.at1 | exact SX.at2 | exact SX.at3 | exact SX.at4 | exact SX.at5 | exact Z.at6 | exact Z.at7 | exact Z.at8 | exact Z.at9 | exact Z.at10 | exact Z.at11 | exact Z.at12) (by rfl) ?_ | refine Z.ZO.storeP rfl rfl hs rfl rfl (by kernel_rfl) (by first | (simp [Value.oneCell']; done) | (refine Z.all_one ?_; assumption)) (by first | exact SX.at0 | exact SX.at1 | exact SX.at2 | exact SX.at3 | exact SX.at4 | exact SX.at5 | exact Z.at6 | exact Z.at7 | exact Z.at8 | exact Z.at9 | exact Z.at10 | exact Z.at11 | exact Z.at12) (by first | decide | (simp; done) | (simp; omega)) ?_ | refine Z.ZO.storePR rfl rfl hs rfl rfl (by kernel_rfl) (by first | (simp [Value.oneCell']; done) | (refine Z.all_one ?_; assumption)) (by first | exact SX.at0 | exact SX.at1 | exact SX.at2 | exact SX.at3 | exact SX.at4 | exact SX.at5 | exact Z.at6 | exact Z.at7 | exact Z.at8 | exact Z.at9 | exact Z.at10 | exact Z.at11 | exact Z.at12) (by first | decide | (simp; done) | (simp; omega)) ?_
    clear hs; intro ws hs
    simp only [Nat.zero_add, Nat.add_zero, Nat.reduceAdd, Int.reduceToNat, Nat.reduceMul, List.set_cons_zero, List.set_cons_succ, List.setIfInBounds_toArray] at hs
    try simp only [Z.putL, Nat.zero_add] at hs
    refine Z.lnil ?_
    refine Z.only [2, 3, 4] rfl ?_
    refine Z.nthen ?_
    refine Z.seq ?_
    refine Z.region ?_
    refine Z.l rfl rfl (by rfl) (Z.keepS hs) (by first | exact Z.Yd.loadA _ rfl Try.isAgg88 (fun _ => Z.cellsB (by first | ((repeat (first | exact List.mem_cons_self | refine List.mem_cons_of_mem _ ?_ | refine List.mem_append_right _ ?_)); done) | fail)) (by exact Try.sizeOf88) | fail "load 4.0") ?_
    replace hs : SX.St w [] _ (RdL gr 106 sv l (8 * 0) ++ [_, _, _]) := hs.rot (L1 := [_])
    refine Z.le rfl trivial ?_
    refine Z.ZO.callB rfl rfl (by rfl) rfl rfl Try.call46 rfl (mm_heads gr _ sv l _ hs.lend (by omega) hb _ hV) ?_ ?_
    · skip
      rintro v4_1 w4_1 ⟨hE, hP, hHl, hz⟩
      replace hs := hs.regain hz
      simp only [RdL, List.cons_append, List.nil_append] at hE hP hHl hs
      obtain ⟨Ah, ch, rfl, -, -, -⟩ := SX.row_slv hs (j := 2) rfl
      rw [if_neg (fun h => h hE)] at hR
      obtain ⟨a0, z0, rfl, hga, hgz⟩ := hgd hE
      obtain ⟨H, hH⟩ : ∃ H, a0 ++ [z0] = H := ⟨_, rfl⟩
      rw [hH] at hR hHl hs
      rw [hH]
      replace hs := hs.nil 47 2
      refine Z.lb 1 rfl ?_
      refine Z.lnil ?_
      refine Z.only [2, 3, 4, 5] rfl ?_
      refine Z.nthen ?_
      refine Z.seq ?_
      refine Z.seq ?_
      refine Z.region ?_
      refine Z.lb 1 rfl ?_
      refine Z.l rfl rfl (by rfl) (Z.keepS hs) (Z.Yd.lenS rfl Try.underlying89) ?_
      refine Z.lb 1 rfl ?_
      refine Z.lnil ?_
      refine Z.only [2, 3, 4, 5, 18, 19, 20] rfl ?_
      refine Z.nthen ?_
      refine Z.block ?_
      refine Z.loopk (ι := Nat × Nat × List (MpV × Nat) × Value) [2, 3, 4, 5, 18, 19] rfl (fun x => [(20, [], .int .i64 (x.1 : Int))]) (fun x wr => (x.1 ≤ H.length ∧ x.2.1 ≤ l.length ∧ x.2.2.1.length ≤ x.1 ∧ ptGo l (H.drop x.1) x.2.1 (plainQ x.2.2.1) = R) ∧ SX.St w [] wr ((RdL gr 106 sv l (8 * x.2.1) ++ [SX.Ent.row (.slice Ah H.length ch) 92 2 H.length (H.flatMap encH), SX.Ent.row x.2.2.2 47 2 x.2.2.1.length (cellsQ x.2.2.1), SX.Ent.blk g4 88 #[.pointer (some ⟨gr, 0, none⟩)], SX.Ent.blk g3 27 #[.int .i64 0], SX.Ent.blk g2 22 #[x.2.2.2]]) ++ rowsQ x.2.2.1)) (fun x => H.length - x.1) (0, P0, [], .slice none 0 0) (by refine ⟨?_, trivial⟩ <;> (first | rfl | (refine Z.lookv rfl ?_; simp; done) | (refine Z.lookv rfl ?_; simp; omega))) ⟨⟨Nat.zero_le _, hP, Nat.zero_le _, by simpa [plainQ] using hR⟩, (hs.sel [1, 2, 3, 0, 6, 4, 5] (by decide))⟩ ?_
      clear hs
      rintro ⟨i, p, qs, svo⟩ w6 ⟨⟨hi, hp, hqi, hgo⟩, hs⟩
      refine Z.only [2, 3, 4, 5, 18, 19, 20] rfl ?_
      (try dsimp only at hs)
      dsimp only at hi hp hqi hgo
      simp only [RdL, List.cons_append, List.nil_append] at hs
      obtain ⟨Ao, co, rfl, -, -, -⟩ := SX.row_slv hs (j := 3) rfl
      refine Z.seq ?_
      refine Z.region ?_
      refine Z.lb 1 rfl ?_
      refine Z.lnil ?_
      refine Z.only [2, 3, 4, 5, 18, 19, 20, 21] rfl ?_
      refine Z.nthen ?_
      refine Z.seq ?_
      refine Z.cond rfl (fun hc6 => ?_) (fun hc6 => ?_)
      · first
          | (exfalso; simp at hc6 <;> omega)
          | (
            (try simp at hc6)
            obtain ⟨h, hh⟩ : ∃ h, H[i]? = some h := ⟨_, List.getElem?_eq_getElem (by omega)⟩
            have hdr := drop_at hh
            rw [hdr, ptGo] at hgo
            obtain ⟨gh, ch', e9, -, -⟩ := row_form (j := 2) hs rfl (by omega)
            cases e9
            have hone : ∀ u ∈ encH h, u.oneCell' = true := by simp [encH, Value.oneCell']
            refine Z.skip ?_
            refine Z.nthen ?_
            refine Z.seq ?_
            refine Z.block ?_
            refine Z.seq ?_
            refine Z.region ?_
            refine Z.lb 1 rfl ?_
            refine Z.l rfl rfl (by rfl) (Z.keepS hs) (Z.Yd.elem rfl rfl Try.underlying89 Try.sizeOf92 (fun hG => ⟨(by first | omega | (have hG' := Z.gh rfl hG; simp at hG'; omega)), (by first | omega | (have hG' := Z.gh rfl hG; simp at hG'; omega))⟩)) ?_
            refine Z.l rfl rfl (by rfl) (Z.keepS hs) (Z.Yd.loadA _ rfl Try.isAgg92 (fun _ => Z.cellsRf (by first | ((repeat (first | exact List.mem_cons_self | refine List.mem_cons_of_mem _ ?_ | refine List.mem_append_right _ ?_)); done) | fail) encH_len hh rfl) (by exact Try.sizeOf92)) ?_
            refine Z.le rfl trivial ?_
            refine Z.ZO.alloc rfl rfl (by rfl) Try.zeroValue92 rfl hs ?_
            clear hs; intro g7 w7 hs
            refine Z.lb 1 rfl ?_
            refine Z.le rfl trivial ?_
            first | refine Z.ZO.storeA rfl rfl hs rfl rfl (by kernel_rfl) (by first | (simp [Value.oneCell']; done) | (refine Z.all_one ?_; assumption)) (by first | exact SX.at0 | exact SX.at1 | exact SX.at2 | exact SX.at3 | exact SX.at4 | exact SX.at5 | exact Z.at6 | exact Z.at7 | exact Z.at8 | exact Z.at9 | exact Z.at10 | exact Z.at11 | exact Z.at12) (by rfl) ?_ | refine Z.ZO.storeP rfl rfl hs rfl rfl (by kernel_rfl) (by first | (simp [Value.oneCell']; done) | (refine Z.all_one ?_; assumption)) (by first | exact SX.at0 | exact SX.at1 | exact SX.at2 | exact SX.at3 | exact SX.at4 | exact SX.at5 | exact Z.at6 | exact Z.at7 | exact Z.at8 | exact Z.at9 | exact Z.at10 | exact Z.at11 | exact Z.at12) (by first | decide | (simp; done) | (simp; omega)) ?_ | refine Z.ZO.storePR rfl rfl hs rfl rfl (by kernel_rfl) (by first | (simp [Value.oneCell']; done) | (refine Z.all_one ?_; assumption)) (by first | exact SX.at0 | exact SX.at1 | exact SX.at2 | exact SX.at3 | exact SX.at4 | exact SX.at5 | exact Z.at6 | exact Z.at7 | exact Z.at8 | exact Z.at9 | exact Z.at10 | exact Z.at11 | exact Z.at12) (by first | decide | (simp; done) | (simp; omega)) ?_
            clear hs; intro ws hs
            simp only [Nat.zero_add, Nat.add_zero, Nat.reduceAdd, Int.reduceToNat, Nat.reduceMul, List.set_cons_zero, List.set_cons_succ, List.setIfInBounds_toArray] at hs
            try simp only [Z.putL, Nat.zero_add] at hs
            refine Z.lnil ?_
            refine Z.only [2, 3, 4, 5, 6, 7, 18, 19, 20] rfl ?_
            refine Z.nthen ?_
            refine Z.seq ?_
            refine Z.region ?_
            refine Z.l rfl rfl (by rfl) (Z.keepS hs) (Z.Yd.fieldA (m := 0) rfl (by kernel_rfl)) ?_
            refine Z.l rfl rfl (by rfl) (Z.keepS hs) (by first | exact Z.Yd.load rfl Try.isAgg3 (fun _ => Z.cellB (by first | ((repeat (first | exact List.mem_cons_self | refine List.mem_cons_of_mem _ ?_ | refine List.mem_append_right _ ?_)); done) | fail) rfl) | exact Z.Yd.load rfl Try.isAgg3 (fun _ => Z.cellO (by assumption) (by simp) (by assumption)) | fail "load 8.1") ?_
            refine Z.lb 1 rfl ?_
            refine Z.lnil ?_
            refine Z.only [2, 3, 4, 5, 6, 7, 18, 19, 20, 27] rfl ?_
            refine Z.nthen ?_
            refine Z.cond rfl (fun hc8 => ?_) (fun hc8 => ?_)
            · first
                | (exfalso; simp at hc8 <;> omega)
                | (
                  (try simp at hc8)
                  refine Z.drawP [SX.Ent.blk g4 88 #[.pointer (some ⟨gr, 0, none⟩)], SX.Ent.blk g2 22 #[.slice Ao qs.length co], SX.Ent.blk g7 92 (encH h).toArray] (fun j => j != 11) mixed hs ?_
                  clear hs; intro wd9 hs
                  refine Z.tXD 0 [0, 10, 11] (fun _ _ _ _ h => Z.leaves_put (by kernel_rfl) h) rfl rfl rfl (by rfl) (by kernel_rfl) ⟨_, hs, by first | (simp; done) | exact fun e he => List.mem_append_right _ he⟩ (by first | exact Z.Yd.load rfl Try.isAgg22 (fun _ => Z.cellB (by first | ((repeat (first | exact List.mem_cons_self | refine List.mem_cons_of_mem _ ?_ | refine List.mem_append_right _ ?_)); done) | fail) rfl) | exact Z.Yd.load rfl Try.isAgg22 (fun _ => Z.cellO (by assumption) (by simp) (by assumption)) | fail "load 9.0") ?_
                  refine Z.tXD 1 [1, 8, 9, 10, 11] (fun _ _ _ _ h => Z.leaves_put (by kernel_rfl) h) rfl rfl rfl (by rfl) (by kernel_rfl) ⟨_, hs, by first | (simp; done) | exact fun e he => List.mem_append_right _ he⟩ (by first | exact Z.Yd.loadA _ rfl Try.isAgg88 (fun _ => Z.cellsB (by first | ((repeat (first | exact List.mem_cons_self | refine List.mem_cons_of_mem _ ?_ | refine List.mem_append_right _ ?_)); done) | fail)) (by exact Try.sizeOf88) | fail "load 9.1") ?_
                  refine Z.tXD 2 [2, 8, 9, 10, 11] (fun _ _ _ _ h => Z.leaves_put (by kernel_rfl) h) rfl rfl rfl (by rfl) (by kernel_rfl) ⟨_, hs, by first | (simp; done) | exact fun e he => List.mem_append_right _ he⟩ (Z.Yd.loadA _ rfl Try.isAgg92 (fun _ => Z.cellsB (cs := encH h) (by first | ((repeat (first | exact List.mem_cons_self | refine List.mem_cons_of_mem _ ?_ | refine List.mem_append_right _ ?_)); done) | fail)) (by exact Try.sizeOf92)) ?_
                  refine Z.tXD 3 [3, 7, 8, 9, 10, 11] (fun _ _ _ _ h => Z.leaves_put (by kernel_rfl) h) rfl rfl rfl (by rfl) (by kernel_rfl) ⟨_, hs, by first | (simp; done) | exact fun e he => List.mem_append_right _ he⟩ (Z.Yd.pure rfl) ?_
                  refine Z.tXD 4 [4, 5, 6, 7, 8, 9, 10, 11] (fun _ _ _ _ h => Z.leaves_put (by kernel_rfl) h) rfl rfl rfl (by rfl) (by kernel_rfl) ⟨_, hs, by first | (simp; done) | exact fun e he => List.mem_append_right _ he⟩ (Z.Yd.pure rfl) ?_
                  refine Z.tXD 5 [5, 6, 7, 8, 9, 10, 11] (fun _ _ _ _ h => Z.leaves_put (by kernel_rfl) h) rfl rfl rfl (by rfl) (by kernel_rfl) ⟨_, hs, by first | (simp; done) | exact fun e he => List.mem_append_right _ he⟩ (Z.Yd.lenS rfl Try.underlying89) ?_
                  refine Z.tXD 6 [6, 7, 8, 9, 10, 11] (fun _ _ _ _ h => Z.leaves_put (by kernel_rfl) h) rfl rfl rfl (by rfl) (by kernel_rfl) ⟨_, hs, by first | (simp; done) | exact fun e he => List.mem_append_right _ he⟩ (Z.Yd.sub rfl rfl (fun hG => Z.wi64 (by first | omega | (have hG' := Z.gh rfl hG; simp at hG'; omega)))) ?_
                  refine Z.tXD 7 [7, 8, 9, 10, 11] (fun _ _ _ _ h => Z.leaves_put (by kernel_rfl) h) rfl rfl rfl (by rfl) (by kernel_rfl) ⟨_, hs, by first | (simp; done) | exact fun e he => List.mem_append_right _ he⟩ (Z.Yd.pure rfl) ?_
                  have ela : ((i : Int) == (H.length : Int) - 1) = decide (i + 1 = H.length) := by rw [Bool.eq_iff_iff]; simp; omega
                  obtain ⟨k, hk⟩ := ptN_nat hp hga hgz (by rw [hH]; exact hh) hc8 (la := ((i : Int) == (H.length : Int) - 1)) (by rw [ela, hH])
                  rw [if_neg hc8, drop_emp (by omega), ← ela, hk, Int.toNat_natCast] at hgo
                  replace hs : SX.St w [] _ (RdL gr 106 sv l (8 * p) ++ (_ :: _ :: _ :: _ :: _ :: _ :: rowsQ qs)) := hs.selT (L1 := [_, _, _, _, _, _, _, _]) [1, 2, 3, 4, 5, 6, 7, 0] (by decide)
                  refine Z.tnP 8 rfl rfl (by kernel_rfl) rfl trivial ?_
                  refine Z.ZO.callB rfl rfl (by rfl) rfl rfl Try.call47 rfl (mm_part gr _ sv l p h.1 h.2 _ k _ hs.lend (by omega) hb hp hk) ?_ ?_
                  · skip
                    rintro v9_8 w9_8 ⟨⟨hpk, hpl⟩, B, cB, rfl, hz⟩
                    replace hs := hs.regain hz
                    simp only [RdL, List.cons_append, List.nil_append] at hs
                    rw [if_neg (fun hh => hh hpk), if_neg (fun hh => hh.2 (hpl hh.1))] at hgo
                    obtain ⟨D, hD⟩ : ∃ D, (l.drop p).take k = D := ⟨_, rfl⟩
                    have hlk : D.length = k := by rw [← hD, List.length_take, List.length_drop]; omega
                    rw [hD] at hgo hs
                    subst hlk
                    refine Z.tkP (Dn := fun j => j != 11) (i := 8) (fun _ => ⟨_, hs, by first | (simp; done) | exact fun e he => List.mem_append_right _ he⟩) ?_
                    refine Z.tnP 9 rfl rfl (by kernel_rfl) rfl trivial ?_
                    refine Z.ZO.litL (T' := 47) [(0, 2)] [.int .i64 0, .slice none 0 0] rfl rfl (by rfl) rfl rfl (by intro W; kernel_rfl) hs ?_
                    clear hs; intro g37 w37 hs
                    refine Z.tkP (Dn := fun j => j != 11) (i := 9) (fun _ => ⟨_, hs, by first | (simp; done) | exact fun e he => List.mem_append_right _ he⟩) ?_
                    refine Z.tnP 10 rfl rfl (by kernel_rfl) rfl trivial ?_
                    refine Z.ZO.append (i0 := Try.t47) (size := 2) (bytes := 32) rfl rfl (by rfl) hs Try.underlying22 (by kernel_rfl) rfl rfl rfl rfl (by decide) rfl rfl (by first | exact SX.at0 | exact SX.at1 | exact SX.at2 | exact SX.at3 | exact SX.at4 | exact SX.at5 | exact Z.at6 | exact Z.at7 | exact Z.at8 | exact Z.at9 | exact Z.at10 | exact Z.at11 | exact Z.at12) (by first | exact SX.at0 | exact SX.at1 | exact SX.at2 | exact SX.at3 | exact SX.at4 | exact SX.at5 | exact Z.at6 | exact Z.at7 | exact Z.at8 | exact Z.at9 | exact Z.at10 | exact Z.at11 | exact Z.at12) (by first | rfl | simp) (by simp [Value.oneCell']) (by decide) (by unfold maxLen; omega) (by omega) ?_
                    clear hs; intro g38 cap38 w38 hs
                    simp only [List.set_cons_zero, List.set_cons_succ, List.eraseIdx_cons_zero, List.eraseIdx_cons_succ] at hs
                    refine Z.tkP (Dn := fun j => j != 11) (i := 10) (fun _ => ⟨_, hs, by first | (simp; done) | exact fun e he => List.mem_append_right _ he⟩) ?_
                    refine Z.tnP 11 rfl rfl (by kernel_rfl) rfl trivial ?_
                    first | refine Z.ZO.store rfl rfl hs Try.sizeOf22 rfl rfl rfl (by first | exact SX.at0 | exact SX.at1 | exact SX.at2 | exact SX.at3 | exact SX.at4 | exact SX.at5 | exact Z.at6 | exact Z.at7 | exact Z.at8 | exact Z.at9 | exact Z.at10 | exact Z.at11 | exact Z.at12) (by first | (simp; done) | (simp; omega)) ?_ | refine Z.ZO.storeR rfl rfl hs Try.sizeOf22 rfl rfl rfl (by first | exact SX.at0 | exact SX.at1 | exact SX.at2 | exact SX.at3 | exact SX.at4 | exact SX.at5 | exact Z.at6 | exact Z.at7 | exact Z.at8 | exact Z.at9 | exact Z.at10 | exact Z.at11 | exact Z.at12) (by first | omega | (simp [ints_length]; done) | (simp [ints_length]; omega)) ?_
                    clear hs; intro ws hs
                    simp only [Nat.zero_add, Nat.add_zero, Nat.reduceAdd, Int.reduceToNat, Nat.reduceMul, List.set_cons_zero, List.set_cons_succ, List.setIfInBounds_toArray] at hs
                    refine Z.tkP (Dn := fun j => j != 11) (i := 11) (fun h => absurd h (by decide)) ?_
                    refine Z.tdP (by rfl) (by kernel_rfl) ?_
                    refine Z.only [2, 3, 4, 5, 18, 19, 20] rfl ?_
                    refine Z.nblock ?_
                    refine Z.nthen ?_
                    refine Z.region ?_
                    refine Z.l rfl rfl (by rfl) (Z.keepS hs) (Z.Yd.add rfl rfl (fun hG => Z.wi64 (by first | omega | (have hG' := Z.gh rfl hG; simp at hG'; omega)))) ?_
                    refine Z.lb 1 rfl ?_
                    refine Z.lnil ?_
                    refine Z.only [2, 3, 4, 5, 18, 19, 20] rfl ?_
                    refine Z.nthen ?_
                    first
                    | (rw [if_pos hc8] at hgo
                       exact Z.again (i + 1, p, qs, .slice Ao qs.length co) (by refine ⟨?_, ?_, ?_, ?_, ?_, ?_, ?_, trivial⟩ <;> (first | rfl | (refine Z.lookv rfl ?_; simp; done) | (refine Z.lookv rfl ?_; simp; omega))) ⟨⟨by simp only; omega, hp, by simp only; omega, hgo⟩, hs.tl⟩ (by simp only; omega))
                    | (have e1 : (qs ++ [((⟨h.1, B, D.length, D⟩ : MpV), cB)]).length = qs.length + 1 := by simp
                       have e2 : cellsQ (qs ++ [((⟨h.1, B, D.length, D⟩ : MpV), cB)]) = cellsQ qs ++ [.int .i64 h.1, .slice B D.length D.length] := by simp [cellsQ, MpV.cells]
                       have e3 : rowsQ (qs ++ [((⟨h.1, B, D.length, D⟩ : MpV), cB)]) = rowsQ qs ++ [SX.Ent.row (.slice B D.length cB) 5 1 D.length (ints .u8 D)] := by simp [rowsQ]
                       have e4 : plainQ (qs ++ [((⟨h.1, B, D.length, D⟩ : MpV), cB)]) = plainQ qs ++ [(h.1, D)] := by simp [plainQ, MpV.plain]
                       have hs2 := SX.St.tailU (A := [_, _, _, _, _, _, _]) (Q := rowsQ qs) (hs.selT (L1 := [_, _, _, _, _, _, _, _, _]) [0, 1, 3, 4, 5, 6, 7, 2] (by decide))
                       rw [← e4] at hgo
                       rw [← e1, ← e2, ← e3] at hs2
                       exact Z.again (i + 1, p + D.length, qs ++ [((⟨h.1, B, D.length, D⟩ : MpV), cB)], _) (by refine ⟨?_, ?_, ?_, ?_, ?_, ?_, ?_, trivial⟩ <;> (first | rfl | (refine Z.lookv rfl ?_; simp; done) | (refine Z.lookv rfl ?_; simp; omega))) ⟨⟨by simp only; omega, hpk, by simp only [e1]; omega, hgo⟩, hs2⟩ (by simp only; omega))
                  · skip
                    rintro c9_8 w9_8 ⟨hbad, rfl, a', hz⟩
                    replace hs := (hs.regain hz).sel [5, 6] (by decide)
                    have hgo' : R = (if p + k ≤ l.length then 9 else 5, []) := by
                      rw [← hgo]
                      by_cases hpk : p + k ≤ l.length
                      · rw [if_neg (fun hh => hh hpk), if_pos (hbad.resolve_left (fun hh => hh hpk)), if_pos hpk]
                      · rw [if_pos hpk, if_neg hpk]
                    subst hgo'
                    repeat (first | refine Z.pthen ?_ | refine Z.pblock ?_ | refine Z.pscope ?_)
                    -- ret#0
                    refine Z.outDp Try.call29 (mm_caught_pan g3 _ _ _ _ _ [SX.Ent.blk g2 _ _] _ _ (hs.lend (L2 := [])) Try.call44 (fun W hW ↦ mm_clearP g2 _ _ W hW)) ?_
                    rintro vD wD ⟨rfl, hz⟩
                    replace hs := hs.regain (L2 := []) hz
                    refine ⟨[_, _], (by exact ⟨⟨_, rfl, Z.rvc hs Try.isAgg22 (by first | ((repeat (first | exact List.mem_cons_self | refine List.mem_cons_of_mem _ ?_ | refine List.mem_append_right _ ?_)); done) | fail) rfl⟩, ⟨_, rfl, Z.rvc hs Try.isAgg27 (by first | ((repeat (first | exact List.mem_cons_self | refine List.mem_cons_of_mem _ ?_ | refine List.mem_append_right _ ?_)); done) | fail) rfl⟩, trivial⟩), ?_⟩
                    exact ⟨_, rfl, ParR.fail (hs.sub (List.nil_sublist _))⟩
                  )
            · first
                | (exfalso; simp at hc8 <;> omega)
                | (
                  (try simp at hc8)
                  refine Z.skip ?_
                  refine Z.nblock ?_
                  refine Z.nthen ?_
                  refine Z.region ?_
                  refine Z.l rfl rfl (by rfl) (Z.keepS hs) (Z.Yd.add rfl rfl (fun hG => Z.wi64 (by first | omega | (have hG' := Z.gh rfl hG; simp at hG'; omega)))) ?_
                  refine Z.lb 1 rfl ?_
                  refine Z.lnil ?_
                  refine Z.only [2, 3, 4, 5, 18, 19, 20] rfl ?_
                  refine Z.nthen ?_
                  first
                  | (rw [if_pos hc8] at hgo
                     exact Z.again (i + 1, p, qs, .slice Ao qs.length co) (by refine ⟨?_, ?_, ?_, ?_, ?_, ?_, ?_, trivial⟩ <;> (first | rfl | (refine Z.lookv rfl ?_; simp; done) | (refine Z.lookv rfl ?_; simp; omega))) ⟨⟨by simp only; omega, hp, by simp only; omega, hgo⟩, hs.tl⟩ (by simp only; omega))
                  | (have e1 : (qs ++ [((⟨h.1, B, D.length, D⟩ : MpV), cB)]).length = qs.length + 1 := by simp
                     have e2 : cellsQ (qs ++ [((⟨h.1, B, D.length, D⟩ : MpV), cB)]) = cellsQ qs ++ [.int .i64 h.1, .slice B D.length D.length] := by simp [cellsQ, MpV.cells]
                     have e3 : rowsQ (qs ++ [((⟨h.1, B, D.length, D⟩ : MpV), cB)]) = rowsQ qs ++ [SX.Ent.row (.slice B D.length cB) 5 1 D.length (ints .u8 D)] := by simp [rowsQ]
                     have e4 : plainQ (qs ++ [((⟨h.1, B, D.length, D⟩ : MpV), cB)]) = plainQ qs ++ [(h.1, D)] := by simp [plainQ, MpV.plain]
                     have hs2 := SX.St.tailU (A := [_, _, _, _, _, _, _]) (Q := rowsQ qs) (hs.selT (L1 := [_, _, _, _, _, _, _, _, _]) [0, 1, 3, 4, 5, 6, 7, 2] (by decide))
                     rw [← e4] at hgo
                     rw [← e1, ← e2, ← e3] at hs2
                     exact Z.again (i + 1, p + D.length, qs ++ [((⟨h.1, B, D.length, D⟩ : MpV), cB)], _) (by refine ⟨?_, ?_, ?_, ?_, ?_, ?_, ?_, trivial⟩ <;> (first | rfl | (refine Z.lookv rfl ?_; simp; done) | (refine Z.lookv rfl ?_; simp; omega))) ⟨⟨by simp only; omega, hpk, by simp only [e1]; omega, hgo⟩, hs2⟩ (by simp only; omega))
                  )
            )
      · first
          | (exfalso; simp at hc6 <;> omega)
          | (
            (try simp at hc6)
            refine Z.exit ?_
            refine Z.xthen ?_
            refine Z.xthen ?_
            refine Z.xblock ?_
            refine Z.nthen ?_
            refine Z.seq ?_
            refine Z.region ?_
            refine Z.l rfl rfl (by rfl) (Z.keepS hs) (by first | exact Z.Yd.load rfl Try.isAgg22 (fun _ => Z.cellB (by first | ((repeat (first | exact List.mem_cons_self | refine List.mem_cons_of_mem _ ?_ | refine List.mem_append_right _ ?_)); done) | fail) rfl) | exact Z.Yd.load rfl Try.isAgg22 (fun _ => Z.cellO (by assumption) (by simp) (by assumption)) | fail "load 11.0") ?_
            refine Z.l rfl rfl (by rfl) (Z.keepS hs) (Z.Yd.lenS rfl Try.underlying22) ?_
            refine Z.lb 1 rfl ?_
            refine Z.le rfl trivial ?_
            refine Z.ZO.callB rfl rfl (by rfl) rfl rfl Try.call31 rfl (mm_must_any _ 9 _) ?_ ?_
            · skip
              rintro v11_3 w11_3 ⟨hm11, rfl, hy⟩
              replace hs := hs.call hy
              clear hy
              try simp only [List.cons_append, List.nil_append, List.append_nil] at hs
              have hqp : 0 < qs.length := by simp at hm11; omega
              rw [List.drop_of_length_le (by omega), ptGo, if_neg (by intro hh; rw [plainQ, List.map_eq_nil_iff] at hh; subst hh; simp at hqp)] at hgo
              subst hgo
              refine Z.lnil ?_
              refine Z.only [2, 3] rfl ?_
              refine Z.nthen ?_
              refine Z.seq ?_
              refine Z.region ?_
              refine Z.l rfl rfl (by rfl) (Z.keepS hs) (by first | exact Z.Yd.load rfl Try.isAgg22 (fun _ => Z.cellB (by first | ((repeat (first | exact List.mem_cons_self | refine List.mem_cons_of_mem _ ?_ | refine List.mem_append_right _ ?_)); done) | fail) rfl) | exact Z.Yd.load rfl Try.isAgg22 (fun _ => Z.cellO (by assumption) (by simp) (by assumption)) | fail "load 12.0") ?_
              refine Z.le rfl trivial ?_
              first | refine Z.ZO.store rfl rfl hs Try.sizeOf22 rfl rfl rfl (by first | exact SX.at0 | exact SX.at1 | exact SX.at2 | exact SX.at3 | exact SX.at4 | exact SX.at5 | exact Z.at6 | exact Z.at7 | exact Z.at8 | exact Z.at9 | exact Z.at10 | exact Z.at11 | exact Z.at12) (by first | (simp; done) | (simp; omega)) ?_ | refine Z.ZO.storeR rfl rfl hs Try.sizeOf22 rfl rfl rfl (by first | exact SX.at0 | exact SX.at1 | exact SX.at2 | exact SX.at3 | exact SX.at4 | exact SX.at5 | exact Z.at6 | exact Z.at7 | exact Z.at8 | exact Z.at9 | exact Z.at10 | exact Z.at11 | exact Z.at12) (by first | omega | (simp [ints_length]; done) | (simp [ints_length]; omega)) ?_
              clear hs; intro ws hs
              simp only [Nat.zero_add, Nat.add_zero, Nat.reduceAdd, Int.reduceToNat, Nat.reduceMul, List.set_cons_zero, List.set_cons_succ, List.setIfInBounds_toArray] at hs
              refine Z.le rfl trivial ?_
              first | refine Z.ZO.store rfl rfl hs Try.sizeOf27 rfl rfl rfl (by first | exact SX.at0 | exact SX.at1 | exact SX.at2 | exact SX.at3 | exact SX.at4 | exact SX.at5 | exact Z.at6 | exact Z.at7 | exact Z.at8 | exact Z.at9 | exact Z.at10 | exact Z.at11 | exact Z.at12) (by first | (simp; done) | (simp; omega)) ?_ | refine Z.ZO.storeR rfl rfl hs Try.sizeOf27 rfl rfl rfl (by first | exact SX.at0 | exact SX.at1 | exact SX.at2 | exact SX.at3 | exact SX.at4 | exact SX.at5 | exact Z.at6 | exact Z.at7 | exact Z.at8 | exact Z.at9 | exact Z.at10 | exact Z.at11 | exact Z.at12) (by first | omega | (simp [ints_length]; done) | (simp [ints_length]; omega)) ?_
              clear hs; intro ws hs
              simp only [Nat.zero_add, Nat.add_zero, Nat.reduceAdd, Int.reduceToNat, Nat.reduceMul, List.set_cons_zero, List.set_cons_succ, List.setIfInBounds_toArray] at hs
              refine Z.lnil ?_
              refine Z.only [2, 3] rfl ?_
              refine Z.nthen ?_
              refine Z.ret ?_
              -- ret#1
              refine Z.outDr Try.call29 (mm_caught_ret g3 _ _ _) ?_
              rintro vD wD ⟨rfl, hy⟩
              replace hs := hs.call hy
              refine ⟨[_, _], (by exact ⟨⟨_, rfl, Z.rvc hs Try.isAgg22 (by first | ((repeat (first | exact List.mem_cons_self | refine List.mem_cons_of_mem _ ?_ | refine List.mem_append_right _ ?_)); done) | fail) rfl⟩, ⟨_, rfl, Z.rvc hs Try.isAgg27 (by first | ((repeat (first | exact List.mem_cons_self | refine List.mem_cons_of_mem _ ?_ | refine List.mem_append_right _ ?_)); done) | fail) rfl⟩, trivial⟩), ?_⟩
              exact ⟨_, rfl, qs, _, rfl, rfl, hs.selT (L1 := [_, _, _, _, _, _, _]) [3] (by decide)⟩
            · skip
              rintro c11_3 w11_3 ⟨hm11, rfl, hy⟩
              replace hs := hs.call hy
              clear hy
              try simp only [List.cons_append, List.nil_append, List.append_nil] at hs
              rw [List.drop_of_length_le (by omega), ptGo, if_pos (by rw [plainQ, List.map_eq_nil_iff]; simpa using hm11)] at hgo
              subst hgo
              replace hs := hs.sel [5, 6] (by decide)
              repeat (first | refine Z.pthen ?_ | refine Z.pblock ?_ | refine Z.pscope ?_)
              -- ret#2
              refine Z.outDp Try.call29 (mm_caught_pan g3 _ _ _ _ _ [SX.Ent.blk g2 _ _] _ _ (hs.lend (L2 := [])) Try.call44 (fun W hW ↦ mm_clearP g2 _ _ W hW)) ?_
              rintro vD wD ⟨rfl, hz⟩
              replace hs := hs.regain (L2 := []) hz
              refine ⟨[_, _], (by exact ⟨⟨_, rfl, Z.rvc hs Try.isAgg22 (by first | ((repeat (first | exact List.mem_cons_self | refine List.mem_cons_of_mem _ ?_ | refine List.mem_append_right _ ?_)); done) | fail) rfl⟩, ⟨_, rfl, Z.rvc hs Try.isAgg27 (by first | ((repeat (first | exact List.mem_cons_self | refine List.mem_cons_of_mem _ ?_ | refine List.mem_append_right _ ?_)); done) | fail) rfl⟩, trivial⟩), ?_⟩
              exact ⟨_, rfl, ParR.fail (hs.sub (List.nil_sublist _))⟩
            )
    · skip
      rintro c4_1 w4_1 ⟨hE, rfl, a', hz⟩
      simp only at hE
      rw [if_pos hE] at hR
      subst hR
      replace hs := (hs.regain hz).sel [2, 3] (by decide)
      repeat (first | refine Z.pthen ?_ | refine Z.pblock ?_ | refine Z.pscope ?_)
      -- ret#3
      refine Z.outDp Try.call29 (mm_caught_pan g3 _ _ _ _ _ [SX.Ent.blk g2 _ _] _ _ (hs.lend (L2 := [])) Try.call44 (fun W hW ↦ mm_clearP g2 _ _ W hW)) ?_
      rintro vD wD ⟨rfl, hz⟩
      replace hs := hs.regain (L2 := []) hz
      refine ⟨[_, _], (by exact ⟨⟨_, rfl, Z.rvc hs Try.isAgg22 (by first | ((repeat (first | exact List.mem_cons_self | refine List.mem_cons_of_mem _ ?_ | refine List.mem_append_right _ ?_)); done) | fail) rfl⟩, ⟨_, rfl, Z.rvc hs Try.isAgg27 (by first | ((repeat (first | exact List.mem_cons_self | refine List.mem_cons_of_mem _ ?_ | refine List.mem_append_right _ ?_)); done) | fail) rfl⟩, trivial⟩), ?_⟩
      exact ⟨_, rfl, ParR.fail (hs.sub (List.nil_sublist _))⟩
  · skip
    rintro c2_3 w2_3 ⟨hm2, rfl, hy⟩
    replace hs := hs.call hy
    clear hy
    try simp only [List.cons_append, List.nil_append, List.append_nil] at hs
    rw [if_pos (by simp at hm2; omega)] at hR
    subst hR
    replace hs := hs.sel [0, 1] (by decide)
    repeat (first | refine Z.pthen ?_ | refine Z.pblock ?_ | refine Z.pscope ?_)
    -- ret#4
    refine Z.outDp Try.call29 (mm_caught_pan g3 _ _ _ _ _ [SX.Ent.blk g2 _ _] _ _ (hs.lend (L2 := [])) Try.call44 (fun W hW ↦ mm_clearP g2 _ _ W hW)) ?_
    rintro vD wD ⟨rfl, hz⟩
    replace hs := hs.regain (L2 := []) hz
    refine ⟨[_, _], (by exact ⟨⟨_, rfl, Z.rvc hs Try.isAgg22 (by first | ((repeat (first | exact List.mem_cons_self | refine List.mem_cons_of_mem _ ?_ | refine List.mem_append_right _ ?_)); done) | fail) rfl⟩, ⟨_, rfl, Z.rvc hs Try.isAgg27 (by first | ((repeat (first | exact List.mem_cons_self | refine List.mem_cons_of_mem _ ?_ | refine List.mem_append_right _ ?_)); done) | fail) rfl⟩, trivial⟩), ?_⟩
    exact ⟨_, rfl, ParR.fail (hs.sub (List.nil_sublist _))⟩
end Go.Proofs.Ytogjkgoiofngaaa

/- Bytes of a string: []byte(s), read only. -/
namespace Go.Proofs.Ytogjkgoiofngaaa
open Go.RowKit
set_option linter.unusedVariables false
set_option linter.unusedSimpArgs false
namespace Z
variable {N : Nat} {E : Env} {D : List Deferred} {F : Fence} {n : Nat} {P : Program} {o : Oper}
variable {K : Act → World → Prop} {Q : Exit → Act → World → Prop} {w w0 : World} {M : List Nat} {L : List SX.Ent}
variable {x : Operand} {T T' : TypeId} {d : Nat}
theorem ZO.s2b [Wide F] {s : ByteArray} {e : TypeId} {u : TypeDesc} (ho : o.op = .convert T T' x) (hd : o.dst = some d) (hc : chk N d E [] = true) (hs : SX.St w0 M w L) (hx : ev E [] x = some (.string s))
    (ht : P.underlying T = some u) (ht' : P.underlying T' = some (.slice e)) (he : P.underlying e = some (.int .u8)) (l : List Int) (hl : s.data.toList.map (fun b => (b.toNat : Int)) = l)
    (h : ∀ g c w', SX.St w0 M w' L → Sl w' (some ⟨g, 0, none⟩) (ints .u8 l) → Z N ((d, [], .slice (some ⟨g, 0, none⟩) l.length c) :: E) D K w') : ZO F n P N E D o K Q w := by
  have hsz : s.size = l.length := by rw [← hl]; simp
  have hst : SX.St w0 M (Lib.bytesWorld w e s) L := by
    have h1 := hs.add (w' := Lib.bytesWorld w e s) (e' := ⟨[], fun _ => True, fun _ _ _ _ => trivial, fun _ _ _ hb => (by cases hb)⟩) rfl rfl rfl (by rw [Lib.bytesWorld_size]; omega) (fun b hb => Lib.bytesWorld_at_old w e s b hb) (by simp) (fun b hb => by cases hb) trivial
    exact h1.tl
  have hsl : Sl (Lib.bytesWorld w e s) (some ⟨w.heap.size, 0, none⟩) (ints .u8 l) := fun hp => by
    refine ⟨w.heap.size, 0, rfl, by rw [Lib.bytesWorld_size]; omega, fun j v hv => ?_⟩
    have hj : j < l.length := by
      have := (List.getElem?_eq_some_iff.1 hv).1
      simpa [ints] using this
    rw [Nat.zero_add, Lib.bytesWorld_cell w e s j (by omega)]
    have hv' : v = .int .u8 (l[j]) := by
      have := (List.getElem?_eq_some_iff.1 hv).2
      rw [← this]
      simp [ints]
    rw [hv']
    subst hl
    have hj2 : j < s.data.size := by simpa using hj
    simp [Array.getElem?_eq_getElem hj2]
  refine ZO.value (v := .slice (some ⟨w.heap.size, 0, none⟩) l.length (grownCap w s.size 0 e)) (w' := Lib.bytesWorld w e s) (by intro c e; rw [ho] at e; cases e) hd hc (fun a ha => ?_) (h _ _ _ hst hsl)
  have h1 := ev0 ha hx
  simp only [execOp, ho, h1]
  rw [Sem.run_bind, Lib.run_convert_string_bytes w T T' e s ht ht' he, hsz]
  rfl
end Z
end Go.Proofs.Ytogjkgoiofngaaa

/- MAC PDUs compared; the law's small functions. -/
namespace Go.Proofs.Ytogjkgoiofngaaa
open Go.RowKit
set_option linter.unusedSimpArgs false
set_option linter.unusedVariables false
--newlaws

theorem mp_at {ps : List MpV} {i : Nat} {q : MpV} (h : ps[i]? = some q) : (ps.map MpV.plain)[i]? = some q.plain := by rw [List.getElem?_map, h]; rfl
theorem mp_ne {l k : List Prt} {i : Nat} {x y : Prt} (hx : l[i]? = some x) (hy : k[i]? = some y) (h : x ≠ y) : l ≠ k := fun e => by
  subst e
  rw [hx] at hy
  exact h (Option.some.inj hy)
set_option maxRecDepth 100000 in
theorem mr_Same (A B : Option Addr) (n c m d : Nat) (ps ks : List MpV) (w : World) (hx : Sl w A (ps.flatMap MpV.cells)) (hy : Sl w B (ks.flatMap MpV.cells)) (hl : ps.length = n) (hk : ks.length = m) (hn : n ≤ 9223372036854775807)
    (hB : ∀ q ∈ ps, Sl w q.B (ints .u8 q.l)) (hC : ∀ q ∈ ks, Sl w q.B (ints .u8 q.l)) (hb : ∀ q ∈ ps, ∀ x ∈ q.l, 0 ≤ x ∧ x < 256) (hc : ∀ q ∈ ks, ∀ x ∈ q.l, 0 ≤ x ∧ x < 256) :
    Calls Try.prog 18 #[.slice A n c, .slice B m d] w (SX.Ret fun v w' => v = .bool (decide (ps.map MpV.plain = ks.map MpV.plain)) ∧ SX.St w [] w' []) := by
  have hs := SX.St.start w
  refine Z.enter Try.func18 rfl Try.ntmps18 rfl rfl ?_
  refine Z.seq ?_
  refine Z.region ?_
  refine Z.lb 1 rfl ?_
  refine Z.lnil ?_
  refine Z.only [0, 1] rfl ?_
  refine Z.nthen ?_
  refine Z.seq ?_
  refine Z.seq ?_
  refine Z.region ?_
  refine Z.lb 1 rfl ?_
  refine Z.l rfl rfl (by rfl) (Z.keepS hs) (Z.Yd.lenS rfl Try.underlying22) ?_
  refine Z.lb 1 rfl ?_
  refine Z.l rfl rfl (by rfl) (Z.keepS hs) (Z.Yd.lenS rfl Try.underlying22) ?_
  refine Z.lb 1 rfl ?_
  refine Z.lnil ?_
  refine Z.only [0, 1, 10] rfl ?_
  refine Z.nthen ?_
  refine Z.cond rfl (fun hc1 => ?_) (fun hc1 => ?_)
  · first
      | (exfalso; simp at hc1 <;> omega)
      | (
        (try simp at hc1)
        refine Z.seq ?_
        refine Z.region ?_
        refine Z.lb 1 rfl ?_
        refine Z.lnil ?_
        refine Z.only [4] rfl ?_
        refine Z.nthen ?_
        refine Z.ret ?_
        repeat (first | refine Z.rthen ?_ | refine Z.rblock ?_ | refine Z.rscope ?_)
        -- ret#0
        refine Z.out1 (by exact ⟨rfl, trivial⟩) ?_
        refine ⟨_, rfl, ?_, hs.sub (List.nil_sublist _)⟩
        first
        | exact congrArg Value.bool (decide_eq_false (fun h => mp_ne (mp_at hxi) (mp_at hyi) (fun e => hc6.elim (fun k => k (congrArg Prod.fst e)) (fun k => k (congrArg Prod.snd e))) h)).symm
        | exact congrArg Value.bool (decide_eq_true (by rwa [List.take_of_length_le (by simp; omega), List.take_of_length_le (by simp; omega)] at ht)).symm
        | exact congrArg Value.bool (decide_eq_false (fun h => by have hlk := congrArg List.length h; simp at hlk; omega)).symm
        )
  · first
      | (exfalso; simp at hc1 <;> omega)
      | (
        (try simp at hc1)
        refine Z.skip ?_
        refine Z.nthen ?_
        refine Z.seq ?_
        refine Z.seq ?_
        refine Z.region ?_
        refine Z.lb 1 rfl ?_
        refine Z.lnil ?_
        refine Z.only [0, 1, 5] rfl ?_
        refine Z.nthen ?_
        refine Z.block ?_
        refine Z.loopk (ι := Nat) [0, 1] rfl (fun i => [(5, [], .int .i64 (i : Int))]) (fun i wr => (i ≤ n ∧ n = m ∧ (ps.map MpV.plain).take i = (ks.map MpV.plain).take i) ∧ SX.St w [] wr []) (fun i => n - i) 0 (by refine ⟨?_, trivial⟩ <;> (first | rfl | (refine Z.lookv rfl ?_; simp; done) | (refine Z.lookv rfl ?_; simp; omega))) ⟨⟨by omega, by first | omega | simp_all, rfl⟩, hs⟩ ?_
        clear hs
        rintro i w4 ⟨⟨hi, hnm, ht⟩, hs⟩
        refine Z.only [0, 1, 5] rfl ?_
        refine Z.seq ?_
        refine Z.seq ?_
        refine Z.region ?_
        refine Z.lb 2 rfl ?_
        refine Z.l rfl rfl (by rfl) (Z.keepS hs) (Z.Yd.lenS rfl Try.underlying22) ?_
        refine Z.lb 1 rfl ?_
        refine Z.lnil ?_
        refine Z.only [0, 1, 5, 14] rfl ?_
        refine Z.nthen ?_
        refine Z.cond rfl (fun hc4 => ?_) (fun hc4 => ?_)
        · first
            | (exfalso; simp at hc4 <;> omega)
            | (
              (try simp at hc4)
              obtain ⟨b, off, rfl, hb0, hx2⟩ := Z.Sl.some hx (by rw [fl_len mp_len]; omega)
              obtain ⟨b', off', rfl, hb0', hy2⟩ := Z.Sl.some hy (by rw [fl_len mp_len]; omega)
              obtain ⟨x, hxi⟩ : ∃ f, ps[i]? = some f := ⟨_, List.getElem?_eq_getElem (by omega)⟩
              obtain ⟨y, hyi⟩ : ∃ f, ks[i]? = some f := ⟨_, List.getElem?_eq_getElem (by omega)⟩
              have hxm := List.mem_of_getElem? hxi
              have hym := List.mem_of_getElem? hyi
              have hse := Z.str_eq (hb x hxm) (hc y hym)
              refine Z.skip ?_
              refine Z.nthen ?_
              refine Z.seq ?_
              refine Z.block ?_
              refine Z.seq ?_
              refine Z.drawK (fun _ => true) mixed hs ?_
              clear hs; intro wd6 hs
              refine Z.tb [0, 1] (by kernel_rfl) rfl ⟨_, hs, by first | (simp; done) | exact fun e he => List.mem_append_right _ he⟩ rfl ?_
              refine Z.t 2 rfl rfl rfl (by rfl) (by kernel_rfl) ⟨_, hs, by first | (simp; done) | exact fun e he => List.mem_append_right _ he⟩ (Z.Yd.elem rfl rfl Try.underlying22 Try.sizeOf47 (fun hG => ⟨(by first | omega | (have hG' := Z.gh rfl hG; simp at hG'; omega)), (by first | omega | (have hG' := Z.gh rfl hG; simp at hG'; omega))⟩)) ?_
              refine Z.t 3 rfl rfl rfl (by rfl) (by kernel_rfl) ⟨_, hs, by first | (simp; done) | exact fun e he => List.mem_append_right _ he⟩ (Z.Yd.fieldA (m := 0) rfl (by kernel_rfl)) ?_
              refine Z.t 4 rfl rfl rfl (by rfl) (by kernel_rfl) ⟨_, hs, by first | (simp; done) | exact fun e he => List.mem_append_right _ he⟩ (Z.Yd.load rfl Try.isAgg3 (fun _ => Z.cellXf hx2.sx mp_len hxi rfl)) ?_
              refine Z.tb [5, 6] (by kernel_rfl) rfl ⟨_, hs, by first | (simp; done) | exact fun e he => List.mem_append_right _ he⟩ rfl ?_
              refine Z.t 7 rfl rfl rfl (by rfl) (by kernel_rfl) ⟨_, hs, by first | (simp; done) | exact fun e he => List.mem_append_right _ he⟩ (Z.Yd.elem rfl rfl Try.underlying22 Try.sizeOf47 (fun hG => ⟨(by first | omega | (have hG' := Z.gh rfl hG; simp at hG'; omega)), (by first | omega | (have hG' := Z.gh rfl hG; simp at hG'; omega))⟩)) ?_
              refine Z.t 8 rfl rfl rfl (by rfl) (by kernel_rfl) ⟨_, hs, by first | (simp; done) | exact fun e he => List.mem_append_right _ he⟩ (Z.Yd.fieldA (m := 0) rfl (by kernel_rfl)) ?_
              refine Z.t 9 rfl rfl rfl (by rfl) (by kernel_rfl) ⟨_, hs, by first | (simp; done) | exact fun e he => List.mem_append_right _ he⟩ (Z.Yd.load rfl Try.isAgg3 (fun _ => Z.cellXf hy2.sx mp_len hyi rfl)) ?_
              refine Z.tb [10, 11, 12, 13] (by kernel_rfl) rfl ⟨_, hs, by first | (simp; done) | exact fun e he => List.mem_append_right _ he⟩ rfl ?_
              refine Z.t 14 rfl rfl rfl (by rfl) (by kernel_rfl) ⟨_, hs, by first | (simp; done) | exact fun e he => List.mem_append_right _ he⟩ (Z.Yd.elem rfl rfl Try.underlying22 Try.sizeOf47 (fun hG => ⟨(by first | omega | (have hG' := Z.gh rfl hG; simp at hG'; omega)), (by first | omega | (have hG' := Z.gh rfl hG; simp at hG'; omega))⟩)) ?_
              refine Z.t 15 rfl rfl rfl (by rfl) (by kernel_rfl) ⟨_, hs, by first | (simp; done) | exact fun e he => List.mem_append_right _ he⟩ (Z.Yd.fieldA (m := 1) rfl (by kernel_rfl)) ?_
              refine Z.t 16 rfl rfl rfl (by rfl) (by kernel_rfl) ⟨_, hs, by first | (simp; done) | exact fun e he => List.mem_append_right _ he⟩ (Z.Yd.load rfl Try.isAgg26 (fun _ => Z.cellXf hx2.sx mp_len hxi rfl)) ?_
              refine Z.t 17 rfl rfl rfl (by rfl) (by kernel_rfl) ⟨_, hs, by first | (simp; done) | exact fun e he => List.mem_append_right _ he⟩ (Z.Yd.b2s rfl Try.underlying26 Try.underlying5 Try.underlying9 rfl (fun W hW => by obtain ⟨R, hR, _⟩ := hW; exact (hB x hxm).st hR)) ?_
              refine Z.tb [18, 19] (by kernel_rfl) rfl ⟨_, hs, by first | (simp; done) | exact fun e he => List.mem_append_right _ he⟩ rfl ?_
              refine Z.t 20 rfl rfl rfl (by rfl) (by kernel_rfl) ⟨_, hs, by first | (simp; done) | exact fun e he => List.mem_append_right _ he⟩ (Z.Yd.elem rfl rfl Try.underlying22 Try.sizeOf47 (fun hG => ⟨(by first | omega | (have hG' := Z.gh rfl hG; simp at hG'; omega)), (by first | omega | (have hG' := Z.gh rfl hG; simp at hG'; omega))⟩)) ?_
              refine Z.t 21 rfl rfl rfl (by rfl) (by kernel_rfl) ⟨_, hs, by first | (simp; done) | exact fun e he => List.mem_append_right _ he⟩ (Z.Yd.fieldA (m := 1) rfl (by kernel_rfl)) ?_
              refine Z.t 22 rfl rfl rfl (by rfl) (by kernel_rfl) ⟨_, hs, by first | (simp; done) | exact fun e he => List.mem_append_right _ he⟩ (Z.Yd.load rfl Try.isAgg26 (fun _ => Z.cellXf hy2.sx mp_len hyi rfl)) ?_
              refine Z.t 23 rfl rfl rfl (by rfl) (by kernel_rfl) ⟨_, hs, by first | (simp; done) | exact fun e he => List.mem_append_right _ he⟩ (Z.Yd.b2s rfl Try.underlying26 Try.underlying5 Try.underlying9 rfl (fun W hW => by obtain ⟨R, hR, _⟩ := hW; exact (hC y hym).st hR)) ?_
              refine Z.t 24 rfl rfl rfl (by rfl) (by kernel_rfl) ⟨_, hs, by first | (simp; done) | exact fun e he => List.mem_append_right _ he⟩ (Z.Yd.bin rfl rfl (by intro _ w; go_simp; try rfl)) ?_
              refine Z.tb [25] (by kernel_rfl) rfl ⟨_, hs, by first | (simp; done) | exact fun e he => List.mem_append_right _ he⟩ rfl ?_
              refine Z.td (by rfl) (by kernel_rfl) ?_
              refine Z.only [0, 1, 5, 42] rfl ?_
              refine Z.nthen ?_
              refine Z.cond rfl (fun hc6 => ?_) (fun hc6 => ?_)
              · first
                  | (exfalso; simp at hc6 <;> omega)
                  | (
                    (try simp at hc6)
                    refine Z.seq ?_
                    refine Z.region ?_
                    refine Z.lb 1 rfl ?_
                    refine Z.lnil ?_
                    refine Z.only [4] rfl ?_
                    refine Z.nthen ?_
                    refine Z.ret ?_
                    repeat (first | refine Z.rthen ?_ | refine Z.rblock ?_ | refine Z.rscope ?_)
                    -- ret#1
                    refine Z.out1 (by exact ⟨rfl, trivial⟩) ?_
                    refine ⟨_, rfl, ?_, hs.sub (List.nil_sublist _)⟩
                    first
                    | exact congrArg Value.bool (decide_eq_false (fun h => mp_ne (mp_at hxi) (mp_at hyi) (fun e => hc6.elim (fun k => k (congrArg Prod.fst e)) (fun k => k (congrArg Prod.snd e))) h)).symm
                    | exact congrArg Value.bool (decide_eq_true (by rwa [List.take_of_length_le (by simp; omega), List.take_of_length_le (by simp; omega)] at ht)).symm
                    | exact congrArg Value.bool (decide_eq_false (fun h => by have hlk := congrArg List.length h; simp at hlk; omega)).symm
                    )
              · first
                  | (exfalso; simp at hc6 <;> omega)
                  | (
                    (try simp at hc6)
                    refine Z.skip ?_
                    refine Z.nblock ?_
                    refine Z.nthen ?_
                    refine Z.region ?_
                    refine Z.lb 1 rfl ?_
                    refine Z.l rfl rfl (by rfl) (Z.keepS hs) (Z.Yd.add rfl rfl (fun hG => Z.wi64 (by first | omega | (have hG' := Z.gh rfl hG; simp at hG'; omega)))) ?_
                    refine Z.lb 1 rfl ?_
                    refine Z.lnil ?_
                    refine Z.only [0, 1, 5] rfl ?_
                    refine Z.nthen ?_
                    exact Z.again (i + 1) (by refine ⟨?_, ?_, ?_, trivial⟩ <;> (first | rfl | (refine Z.lookv rfl ?_; simp; done) | (refine Z.lookv rfl ?_; simp; omega))) ⟨⟨by omega, hnm, by rw [plain_take hxi, plain_take hyi, ht, show x.plain = y.plain from Prod.ext hc6.1 hc6.2]⟩, hs⟩ (by omega)
                    )
              )
        · first
            | (exfalso; simp at hc4 <;> omega)
            | (
              (try simp at hc4)
              refine Z.exit ?_
              refine Z.xthen ?_
              refine Z.xthen ?_
              refine Z.xblock ?_
              refine Z.nthen ?_
              refine Z.seq ?_
              refine Z.region ?_
              refine Z.lb 1 rfl ?_
              refine Z.lnil ?_
              refine Z.only [4] rfl ?_
              refine Z.nthen ?_
              refine Z.ret ?_
              -- ret#2
              refine Z.out1 (by exact ⟨rfl, trivial⟩) ?_
              refine ⟨_, rfl, ?_, hs.sub (List.nil_sublist _)⟩
              first
              | exact congrArg Value.bool (decide_eq_false (fun h => mp_ne (mp_at hxi) (mp_at hyi) (fun e => hc6.elim (fun k => k (congrArg Prod.fst e)) (fun k => k (congrArg Prod.snd e))) h)).symm
              | exact congrArg Value.bool (decide_eq_true (by rwa [List.take_of_length_le (by simp; omega), List.take_of_length_le (by simp; omega)] at ht)).symm
              | exact congrArg Value.bool (decide_eq_false (fun h => by have hlk := congrArg List.length h; simp at hlk; omega)).symm
              )
        )
theorem num23 (e : Int) (w : World) : Calls Try.prog 24 #[.int .i64 e] w (SX.Ret fun v w' => v = .int .i64 e ∧ SX.St w [] w' []) := by
  have hs := SX.St.start w
  refine Z.enter Try.func24 rfl Try.ntmps24 rfl rfl ?_
  refine Z.seq ?_
  refine Z.region ?_
  refine Z.lb 1 rfl ?_
  refine Z.lnil ?_
  refine Z.only [0] rfl ?_
  refine Z.nthen ?_
  refine Z.seq ?_
  refine Z.region ?_
  refine Z.lb 2 rfl ?_
  refine Z.lnil ?_
  refine Z.only [2] rfl ?_
  refine Z.nthen ?_
  refine Z.ret ?_
  -- ret#0
  refine Z.out1 (by exact ⟨rfl, trivial⟩) ?_
  first | exact ⟨_, rfl, rfl, hs⟩ | exact ⟨_, rfl, rfl, hs.sub (List.nil_sublist _)⟩
theorem counts23 (n e want no : Int) (w : World) : Calls Try.prog 17 #[.int .i64 n, .int .i64 e, .int .i64 want, .int .i64 no] w (SX.Ret fun v w' => v = .bool (decide (n = want ∧ e = no)) ∧ SX.St w [] w' []) := by
  have hs := SX.St.start w
  refine Z.enter Try.func17 rfl Try.ntmps17 rfl rfl ?_
  refine Z.seq ?_
  refine Z.region ?_
  refine Z.lb 1 rfl ?_
  refine Z.lnil ?_
  refine Z.only [0, 1, 2, 3] rfl ?_
  refine Z.nthen ?_
  refine Z.seq ?_
  refine Z.region ?_
  refine Z.lb 4 rfl ?_
  refine Z.split (s := 12) rfl (fun hsp12 => ?_) (fun hsp12 => ?_)
  · first
      | (exfalso; simp at hsp12 <;> omega)
      | (
        refine Z.yes (s := 12) (b := true) rfl hsp12 rfl ?_
        (try simp at hsp12)
        refine Z.lb 1 rfl ?_
        refine Z.yes (s := 12) (b := true) rfl rfl rfl ?_
        refine Z.le rfl (by exact ⟨rfl, trivial⟩) ?_
        refine Z.ZO.call rfl rfl (by rfl) rfl rfl Try.call24 rfl (num23 _ _) ?_
        rintro v1_5 w1_5 ⟨rfl, hy⟩
        replace hs := hs.call hy
        clear hy
        try simp only [List.cons_append, List.nil_append, List.append_nil] at hs
        refine Z.lb 2 rfl ?_
        refine Z.yes (s := 12) (b := true) rfl rfl rfl ?_
        refine Z.l rfl rfl (by rfl) (Z.keepS hs) (Z.Yd.pickT rfl rfl) ?_
        refine Z.lb 1 rfl ?_
        refine Z.lnil ?_
        refine Z.only [8] rfl ?_
        refine Z.nthen ?_
        refine Z.ret ?_
        -- ret#0
        refine Z.out1 (by exact ⟨rfl, trivial⟩) ?_
        exact ⟨_, rfl, by simp_all <;> rfl, hs⟩
        )
  · first
      | (exfalso; simp at hsp12 <;> omega)
      | (
        refine Z.yes (s := 12) (b := false) rfl hsp12 rfl ?_
        (try simp at hsp12)
        refine Z.ls rfl rfl rfl (by rfl) ?_
        refine Z.ls rfl rfl rfl (by rfl) ?_
        refine Z.ls rfl rfl rfl (by rfl) ?_
        refine Z.ls rfl rfl rfl (by rfl) ?_
        refine Z.l rfl rfl (by rfl) (Z.keepS hs) (Z.Yd.pickF rfl rfl) ?_
        refine Z.lb 1 rfl ?_
        refine Z.lnil ?_
        refine Z.only [8] rfl ?_
        refine Z.nthen ?_
        refine Z.ret ?_
        -- ret#1
        refine Z.out1 (by exact ⟨rfl, trivial⟩) ?_
        exact ⟨_, rfl, by simp_all <;> rfl, hs⟩
        )
theorem is23 (e no : Int) (A : Option Addr) (n c : Nat) (l : List Int) (s : ByteArray) (w : World) (hx : Sl w A (ints .u8 l)) (hl : l.length = n) :
    Calls Try.prog 16 #[.slice A n c, .int .i64 e, .string s, .int .i64 no] w (SX.Ret fun v w' => v = .bool (((Z.strOf l).toList == s.toList) && decide (e = no)) ∧ SX.St w [] w' []) := by
  have hs := SX.St.start w
  refine Z.enter Try.func16 rfl Try.ntmps16 rfl rfl ?_
  refine Z.seq ?_
  refine Z.region ?_
  refine Z.lb 1 rfl ?_
  refine Z.lnil ?_
  refine Z.only [0, 1, 2, 3] rfl ?_
  refine Z.nthen ?_
  refine Z.seq ?_
  refine Z.region ?_
  refine Z.lb 1 rfl ?_
  refine Z.l rfl rfl (by rfl) (Z.keepS hs) (Z.Yd.b2s rfl Try.underlying26 Try.underlying5 Try.underlying9 hl (fun W hW => by obtain ⟨R, hR, _⟩ := hW; exact hx.st hR)) ?_
  refine Z.lb 1 rfl ?_
  refine Z.l rfl rfl (by rfl) (Z.keepS hs) (Z.Yd.strEq rfl rfl) ?_
  refine Z.lb 1 rfl ?_
  refine Z.split (s := 13) rfl (fun hsp13 => ?_) (fun hsp13 => ?_)
  · first
      | (exfalso; simp at hsp13 <;> omega)
      | (
        refine Z.yes (s := 13) (b := true) rfl hsp13 rfl ?_
        (try simp at hsp13)
        refine Z.lb 1 rfl ?_
        refine Z.yes (s := 13) (b := true) rfl rfl rfl ?_
        refine Z.le rfl (by exact ⟨rfl, trivial⟩) ?_
        refine Z.ZO.call rfl rfl (by rfl) rfl rfl Try.call24 rfl (num23 _ _) ?_
        rintro v1_6 w1_6 ⟨rfl, hy⟩
        replace hs := hs.call hy
        clear hy
        try simp only [List.cons_append, List.nil_append, List.append_nil] at hs
        refine Z.lb 2 rfl ?_
        refine Z.yes (s := 13) (b := true) rfl rfl rfl ?_
        refine Z.l rfl rfl (by rfl) (Z.keepS hs) (Z.Yd.pickT rfl rfl) ?_
        refine Z.lb 1 rfl ?_
        refine Z.lnil ?_
        refine Z.only [8] rfl ?_
        refine Z.nthen ?_
        refine Z.ret ?_
        -- ret#0
        refine Z.out1 (by exact ⟨rfl, trivial⟩) ?_
        exact ⟨_, rfl, by simp_all <;> rfl, hs.sub (List.nil_sublist _)⟩
        )
  · first
      | (exfalso; simp at hsp13 <;> omega)
      | (
        refine Z.yes (s := 13) (b := false) rfl hsp13 rfl ?_
        (try simp at hsp13)
        refine Z.ls rfl rfl rfl (by rfl) ?_
        refine Z.ls rfl rfl rfl (by rfl) ?_
        refine Z.ls rfl rfl rfl (by rfl) ?_
        refine Z.ls rfl rfl rfl (by rfl) ?_
        refine Z.l rfl rfl (by rfl) (Z.keepS hs) (Z.Yd.pickF rfl rfl) ?_
        refine Z.lb 1 rfl ?_
        refine Z.lnil ?_
        refine Z.only [8] rfl ?_
        refine Z.nthen ?_
        refine Z.ret ?_
        -- ret#1
        refine Z.out1 (by exact ⟨rfl, trivial⟩) ?_
        exact ⟨_, rfl, by simp_all <;> rfl, hs.sub (List.nil_sublist _)⟩
        )
theorem fails23 (no : Int) (s : ByteArray) (l : List Int) (w : World) (hl : s.data.toList.map (fun b => (b.toNat : Int)) = l) (hn : l.length ≤ 100000) (hp : parV l = (no, [])) (hno : no ≠ 0) :
    Calls Try.prog 28 #[.string s, .int .i64 no] w (SX.Ret fun v w' => v = .bool true ∧ SX.St w [] w' []) := by
  have hs := SX.St.start w
  have hb : ∀ x ∈ l, 0 ≤ x ∧ x < 256 := by
    intro x hx
    rw [← hl] at hx
    obtain ⟨b, -, rfl⟩ := List.mem_map.1 hx
    have := b.toNat_lt
    omega
  refine Z.enter Try.func28 rfl Try.ntmps28 rfl rfl ?_
  refine Z.seq ?_
  refine Z.region ?_
  refine Z.lb 1 rfl ?_
  refine Z.lnil ?_
  refine Z.only [0, 1] rfl ?_
  refine Z.nthen ?_
  refine Z.seq ?_
  refine Z.region ?_
  refine Z.lb 1 rfl ?_
  refine Z.le rfl trivial ?_
  refine Z.ZO.s2b rfl rfl (by rfl) hs rfl Try.underlying9 Try.underlying26 Try.underlying5 l hl ?_
  clear hs; intro g9 c9 w9 hs hsl
  refine Z.le rfl trivial ?_
  refine Z.ZO.call rfl rfl (by rfl) rfl rfl Try.call23 rfl (mc_Parse _ _ _ l _ hsl rfl hn hb) ?_
  rintro v1_2 w1_2 ⟨qs, sv, rfl, hpq, hy⟩
  replace hs := hs.call hy
  clear hy
  try simp only [List.cons_append, List.nil_append, List.append_nil] at hs
  rw [hp]
  rw [hp] at hpq
  obtain rfl : qs = [] := by simpa [plainQ] using hpq
  obtain ⟨Av, cv, rfl, -, -, -⟩ := SX.row_slv hs (j := 0) rfl
  refine Z.lb 5 rfl ?_
  refine Z.lnil ?_
  refine Z.only [1, 5, 6] rfl ?_
  refine Z.nthen ?_
  refine Z.seq ?_
  refine Z.region ?_
  refine Z.lb 1 rfl ?_
  refine Z.l rfl rfl (by rfl) (Z.keepS hs) (Z.Yd.lenS rfl Try.underlying22) ?_
  refine Z.lb 2 rfl ?_
  refine Z.yes (s := 16) (b := true) rfl ((by simp)) rfl ?_
  refine Z.lb 1 rfl ?_
  refine Z.yes (s := 16) (b := true) rfl rfl rfl ?_
  refine Z.le rfl (by exact ⟨rfl, trivial⟩) ?_
  refine Z.ZO.call rfl rfl (by rfl) rfl rfl Try.call24 rfl (num23 _ _) ?_
  rintro v2_5 w2_5 ⟨rfl, hy⟩
  replace hs := hs.call hy
  clear hy
  try simp only [List.cons_append, List.nil_append, List.append_nil] at hs
  refine Z.lb 2 rfl ?_
  refine Z.yes (s := 16) (b := true) rfl rfl rfl ?_
  refine Z.l rfl rfl (by rfl) (Z.keepS hs) (Z.Yd.pickT rfl rfl) ?_
  refine Z.lb 1 rfl ?_
  refine Z.lnil ?_
  refine Z.only [4] rfl ?_
  refine Z.nthen ?_
  refine Z.ret ?_
  -- ret#0
  refine Z.out1 (by exact ⟨rfl, trivial⟩) ?_
  exact ⟨_, rfl, by simp, hs.sub (List.nil_sublist _)⟩
end Go.Proofs.Ytogjkgoiofngaaa

/- MAC PDUs: Build. -/
namespace Go.Proofs.Ytogjkgoiofngaaa
open Go.RowKit
set_option linter.unusedSimpArgs false
set_option linter.unusedVariables false
--newlaws

set_option maxRecDepth 100000 in
theorem mb_size (size : Int) (A : Option Addr) (n c : Nat) (w : World) (h : ¬ (1 ≤ size ∧ size ≤ 16384)) :
    Calls Try.prog 12 #[.int .i64 size, .slice A n c] w (SX.Ret fun v w' => v = .tuple #[.slice none 0 0, .int .i64 2] ∧ SX.St w [] w' []) := by
  have hs := SX.St.start w
  refine Z.enterD Try.func12 rfl Try.ntmps12 rfl rfl ?_
  refine Z.seq ?_
  refine Z.region ?_
  refine Z.le rfl trivial ?_
  refine Z.ZO.alloc rfl rfl (by rfl) Try.zeroValue26 rfl hs ?_
  clear hs; intro g4 w4 hs
  refine Z.le rfl trivial ?_
  refine Z.ZO.alloc rfl rfl (by rfl) Try.zeroValue27 rfl hs ?_
  clear hs; intro g5 w5 hs
  refine Z.lnil ?_
  refine Z.only [0, 1, 4, 5] rfl ?_
  refine Z.nthen ?_
  refine Z.seq ?_
  refine Z.region ?_
  refine Z.lb 1 rfl ?_
  refine Z.le rfl trivial ?_
  refine Z.ZO.defer rfl rfl rfl rfl ?_
  refine Z.lnil ?_
  refine Z.only [0, 1, 4, 5] rfl ?_
  refine Z.nthen ?_
  refine Z.seq ?_
  refine Z.region ?_
  refine Z.lb 6 rfl ?_
  refine Z.le rfl trivial ?_
  refine Z.ZO.callP rfl rfl rfl Try.call31 rfl (mm_must_bad _ 2 _ (by simp; omega)) ?_
  rintro c2_6 w2_6 ⟨rfl, hy⟩
  replace hs := hs.call hy
  clear hy
  try simp only [List.cons_append, List.nil_append, List.append_nil] at hs
  replace hs := hs.sel [0, 1] (by decide)
  repeat (first | refine Z.pthen ?_ | refine Z.pblock ?_ | refine Z.pscope ?_)
  -- ret#0
  refine Z.outDp Try.call29 (mm_caught_pan g5 _ _ _ _ _ [SX.Ent.blk g4 _ _] _ _ (hs.lend (L2 := [])) Try.call30 (fun W hW ↦ mm_clearB g4 _ _ W hW)) ?_
  rintro vD wD ⟨rfl, hz⟩
  replace hs := hs.regain (L2 := []) hz
  refine ⟨[_, _], (by exact ⟨⟨_, rfl, Z.rvc hs Try.isAgg26 (by first | ((repeat (first | exact List.mem_cons_self | refine List.mem_cons_of_mem _ ?_ | refine List.mem_append_right _ ?_)); done) | fail) rfl⟩, ⟨_, rfl, Z.rvc hs Try.isAgg27 (by first | ((repeat (first | exact List.mem_cons_self | refine List.mem_cons_of_mem _ ?_ | refine List.mem_append_right _ ?_)); done) | fail) rfl⟩, trivial⟩), ?_⟩
  exact ⟨_, rfl, rfl, hs.sub (List.nil_sublist _)⟩
set_option maxRecDepth 100000 in
theorem mb_need (size : Int) (A : Option Addr) (n c : Nat) (ps : List MpV) (w : World) (hx : Sl w A (ps.flatMap MpV.cells)) (hl : ps.length = n) (hn : n ≤ 100) (hf : ∀ q ∈ ps, q.l.length ≤ 100000) (h : 1 ≤ size ∧ size ≤ 16384) (hno : ¬ okN (ps.map MpV.plain)) :
    Calls Try.prog 12 #[.int .i64 size, .slice A n c] w (SX.Ret fun v w' => v = .tuple #[.slice none 0 0, .int .i64 2] ∧ SX.St w [] w' []) := by
  have hs := SX.St.start w
  have hnv : needV (ps.map MpV.plain) = (0, 2) := if_neg hno
  refine Z.enterD Try.func12 rfl Try.ntmps12 rfl rfl ?_
  refine Z.seq ?_
  refine Z.region ?_
  refine Z.le rfl trivial ?_
  refine Z.ZO.alloc rfl rfl (by rfl) Try.zeroValue26 rfl hs ?_
  clear hs; intro g4 w4 hs
  refine Z.le rfl trivial ?_
  refine Z.ZO.alloc rfl rfl (by rfl) Try.zeroValue27 rfl hs ?_
  clear hs; intro g5 w5 hs
  refine Z.lnil ?_
  refine Z.only [0, 1, 4, 5] rfl ?_
  refine Z.nthen ?_
  refine Z.seq ?_
  refine Z.region ?_
  refine Z.lb 1 rfl ?_
  refine Z.le rfl trivial ?_
  refine Z.ZO.defer rfl rfl rfl rfl ?_
  refine Z.lnil ?_
  refine Z.only [0, 1, 4, 5] rfl ?_
  refine Z.nthen ?_
  refine Z.seq ?_
  refine Z.region ?_
  refine Z.lb 6 rfl ?_
  refine Z.le rfl trivial ?_
  refine Z.ZO.call rfl rfl (by rfl) rfl rfl Try.call31 rfl (mm_must_ok _ 2 _ (by simp; omega)) ?_
  rintro v2_6 w2_6 ⟨rfl, hy⟩
  replace hs := hs.call hy
  clear hy
  try simp only [List.cons_append, List.nil_append, List.append_nil] at hs
  refine Z.lnil ?_
  refine Z.only [0, 1, 4, 5] rfl ?_
  refine Z.nthen ?_
  refine Z.seq ?_
  refine Z.region ?_
  refine Z.lb 2 rfl ?_
  refine Z.le rfl trivial ?_
  refine Z.ZO.call rfl rfl (by rfl) rfl rfl Try.call14 rfl (mc_Need A n c ps _ (hx.st (hs.sub (List.nil_sublist _))) hl (by omega) hf) ?_
  rintro v3_2 w3_2 ⟨rfl, hy⟩
  replace hs := hs.call hy
  clear hy
  try simp only [List.cons_append, List.nil_append, List.append_nil] at hs
  rw [hnv]
  refine Z.lb 2 rfl ?_
  refine Z.le rfl trivial ?_
  refine Z.ZO.callP rfl rfl rfl Try.call32 rfl (mm_goti_bad _ 2 _ (by decide)) ?_
  rintro c3_5 w3_5 ⟨rfl, hy⟩
  replace hs := hs.call hy
  clear hy
  try simp only [List.cons_append, List.nil_append, List.append_nil] at hs
  replace hs := hs.sel [0, 1] (by decide)
  repeat (first | refine Z.pthen ?_ | refine Z.pblock ?_ | refine Z.pscope ?_)
  -- ret#0
  refine Z.outDp Try.call29 (mm_caught_pan g5 _ _ _ _ _ [SX.Ent.blk g4 _ _] _ _ (hs.lend (L2 := [])) Try.call30 (fun W hW ↦ mm_clearB g4 _ _ W hW)) ?_
  rintro vD wD ⟨rfl, hz⟩
  replace hs := hs.regain (L2 := []) hz
  refine ⟨[_, _], (by exact ⟨⟨_, rfl, Z.rvc hs Try.isAgg26 (by first | ((repeat (first | exact List.mem_cons_self | refine List.mem_cons_of_mem _ ?_ | refine List.mem_append_right _ ?_)); done) | fail) rfl⟩, ⟨_, rfl, Z.rvc hs Try.isAgg27 (by first | ((repeat (first | exact List.mem_cons_self | refine List.mem_cons_of_mem _ ?_ | refine List.mem_append_right _ ?_)); done) | fail) rfl⟩, trivial⟩), ?_⟩
  exact ⟨_, rfl, rfl, hs.sub (List.nil_sublist _)⟩
set_option maxRecDepth 100000 in
theorem mb_long (size : Int) (A : Option Addr) (n c : Nat) (ps : List MpV) (w : World) (hx : Sl w A (ps.flatMap MpV.cells)) (hl : ps.length = n) (hn : n ≤ 100) (hf : ∀ q ∈ ps, q.l.length ≤ 100000) (h : 1 ≤ size ∧ size ≤ 16384) (hno : okN (ps.map MpV.plain)) (hd : size - needP (ps.map MpV.plain) < 0) :
    Calls Try.prog 12 #[.int .i64 size, .slice A n c] w (SX.Ret fun v w' => v = .tuple #[.slice none 0 0, .int .i64 4] ∧ SX.St w [] w' []) := by
  have hs := SX.St.start w
  have hbd := totP_bd hf
  have hnt := need_tot (ps.map MpV.plain)
  have hnv : needV (ps.map MpV.plain) = (needP (ps.map MpV.plain), 0) := if_pos hno
  refine Z.enterD Try.func12 rfl Try.ntmps12 rfl rfl ?_
  refine Z.seq ?_
  refine Z.region ?_
  refine Z.le rfl trivial ?_
  refine Z.ZO.alloc rfl rfl (by rfl) Try.zeroValue26 rfl hs ?_
  clear hs; intro g4 w4 hs
  refine Z.le rfl trivial ?_
  refine Z.ZO.alloc rfl rfl (by rfl) Try.zeroValue27 rfl hs ?_
  clear hs; intro g5 w5 hs
  refine Z.lnil ?_
  refine Z.only [0, 1, 4, 5] rfl ?_
  refine Z.nthen ?_
  refine Z.seq ?_
  refine Z.region ?_
  refine Z.lb 1 rfl ?_
  refine Z.le rfl trivial ?_
  refine Z.ZO.defer rfl rfl rfl rfl ?_
  refine Z.lnil ?_
  refine Z.only [0, 1, 4, 5] rfl ?_
  refine Z.nthen ?_
  refine Z.seq ?_
  refine Z.region ?_
  refine Z.lb 6 rfl ?_
  refine Z.le rfl trivial ?_
  refine Z.ZO.call rfl rfl (by rfl) rfl rfl Try.call31 rfl (mm_must_ok _ 2 _ (by simp; omega)) ?_
  rintro v2_6 w2_6 ⟨rfl, hy⟩
  replace hs := hs.call hy
  clear hy
  try simp only [List.cons_append, List.nil_append, List.append_nil] at hs
  refine Z.lnil ?_
  refine Z.only [0, 1, 4, 5] rfl ?_
  refine Z.nthen ?_
  refine Z.seq ?_
  refine Z.region ?_
  refine Z.lb 2 rfl ?_
  refine Z.le rfl trivial ?_
  refine Z.ZO.call rfl rfl (by rfl) rfl rfl Try.call14 rfl (mc_Need A n c ps _ (hx.st (hs.sub (List.nil_sublist _))) hl (by omega) hf) ?_
  rintro v3_2 w3_2 ⟨rfl, hy⟩
  replace hs := hs.call hy
  clear hy
  try simp only [List.cons_append, List.nil_append, List.append_nil] at hs
  rw [hnv]
  refine Z.lb 2 rfl ?_
  refine Z.le rfl trivial ?_
  refine Z.ZO.call rfl rfl (by rfl) rfl rfl Try.call32 rfl (mm_goti_ok _ _) ?_
  rintro v3_5 w3_5 ⟨rfl, hy⟩
  replace hs := hs.call hy
  clear hy
  try simp only [List.cons_append, List.nil_append, List.append_nil] at hs
  refine Z.l rfl rfl (by rfl) (Z.keepS hs) (Z.Yd.sub rfl rfl (fun hG => Z.wi64 (by first | omega | (have hG' := Z.gh rfl hG; simp at hG'; omega)))) ?_
  refine Z.lb 1 rfl ?_
  refine Z.lnil ?_
  refine Z.only [0, 1, 4, 5, 6] rfl ?_
  refine Z.nthen ?_
  refine Z.seq ?_
  refine Z.region ?_
  refine Z.lb 2 rfl ?_
  refine Z.le rfl trivial ?_
  refine Z.ZO.callP rfl rfl rfl Try.call31 rfl (mm_must_bad _ 4 _ (by simp; omega)) ?_
  rintro c4_2 w4_2 ⟨rfl, hy⟩
  replace hs := hs.call hy
  clear hy
  try simp only [List.cons_append, List.nil_append, List.append_nil] at hs
  replace hs := hs.sel [0, 1] (by decide)
  repeat (first | refine Z.pthen ?_ | refine Z.pblock ?_ | refine Z.pscope ?_)
  -- ret#0
  refine Z.outDp Try.call29 (mm_caught_pan g5 _ _ _ _ _ [SX.Ent.blk g4 _ _] _ _ (hs.lend (L2 := [])) Try.call30 (fun W hW ↦ mm_clearB g4 _ _ W hW)) ?_
  rintro vD wD ⟨rfl, hz⟩
  replace hs := hs.regain (L2 := []) hz
  refine ⟨[_, _], (by exact ⟨⟨_, rfl, Z.rvc hs Try.isAgg26 (by first | ((repeat (first | exact List.mem_cons_self | refine List.mem_cons_of_mem _ ?_ | refine List.mem_append_right _ ?_)); done) | fail) rfl⟩, ⟨_, rfl, Z.rvc hs Try.isAgg27 (by first | ((repeat (first | exact List.mem_cons_self | refine List.mem_cons_of_mem _ ?_ | refine List.mem_append_right _ ?_)); done) | fail) rfl⟩, trivial⟩), ?_⟩
  exact ⟨_, rfl, rfl, hs.sub (List.nil_sublist _)⟩
end Go.Proofs.Ytogjkgoiofngaaa

/- MAC PDUs: Build. -/
namespace Go.Proofs.Ytogjkgoiofngaaa
open Go.RowKit
set_option linter.unusedSimpArgs false
set_option linter.unusedVariables false
--newlaws

theorem datR_mem {ps : List MpV} (h : ∀ q ∈ ps, ∀ x ∈ q.l, 0 ≤ x ∧ x < 256) : ∀ x ∈ datR (ps.map MpV.plain), 0 ≤ x ∧ x < 256 := by
  intro x hx
  obtain ⟨p, hp, hx⟩ := List.mem_flatMap.1 hx
  obtain ⟨q, hq, rfl⟩ := List.mem_map.1 hp
  exact h q hq x hx
theorem datR_take (r : List Prt) (i : Nat) : (datR (r.take i)).length ≤ (datR r).length := by
  have e : datR r = datR (r.take i) ++ datR (r.drop i) := by unfold datR; rw [← List.flatMap_append, List.take_append_drop]
  rw [e, List.length_append]
  omega
set_option maxHeartbeats 2000000 in
set_option maxRecDepth 100000 in
theorem mb_main (size : Int) (A : Option Addr) (n c : Nat) (ps : List MpV) (w : World) (hx : Sl w A (ps.flatMap MpV.cells)) (hl : ps.length = n) (hn : n ≤ 100) (hf : ∀ q ∈ ps, q.l.length ≤ 100000) (hB : ∀ q ∈ ps, Sl w q.B (ints .u8 q.l)) (hby : ∀ q ∈ ps, ∀ x ∈ q.l, 0 ≤ x ∧ x < 256)
    (h : 1 ≤ size ∧ size ≤ 16384) (hno : okN (ps.map MpV.plain)) (d f M : Nat) (tr : Bool) (hd : size - needP (ps.map MpV.plain) = (d : Int)) (htr : decide ((2 : Int) < (d : Int)) = tr) (hf0 : tr = true → f = 0) (hf1 : tr = false → f = d)
    (hM : (M : Int) = size - ((headB (ps.map MpV.plain) f tr ++ datR (ps.map MpV.plain)).length : Int)) :
    Calls Try.prog 12 #[.int .i64 size, .slice A n c] w (SX.Ret fun v w' => ∃ sv, v = .tuple #[sv, .int .i64 0] ∧ SX.St w [] w' [SX.Ent.row sv 5 1 ((headB (ps.map MpV.plain) f tr ++ datR (ps.map MpV.plain)).length + M) (ints .u8 (headB (ps.map MpV.plain) f tr ++ datR (ps.map MpV.plain)) ++ List.replicate M (Value.int .u8 0))]) := by
  have hs := SX.St.start w
  have hbd := totP_bd hf
  have hnt := need_tot (ps.map MpV.plain)
  have hnv : needV (ps.map MpV.plain) = (needP (ps.map MpV.plain), 0) := if_pos hno
  have hmem := vldP_mem hno.2
  obtain ⟨H, hH⟩ : ∃ H, headB (ps.map MpV.plain) f tr = H := ⟨_, rfl⟩
  rw [hH] at hM ⊢
  have hHb : ∀ x ∈ H ++ datR (ps.map MpV.plain), 0 ≤ x ∧ x < 256 := by
    intro x hx
    rcases List.mem_append.1 hx with h1 | h1
    · rw [← hH] at h1; exact headB_bd hmem x h1
    · exact datR_mem hby x h1
  have hHl : (H ++ datR (ps.map MpV.plain)).length ≤ 16384 := by omega
  rw [List.length_append] at hHl
  have hfd : f ≤ d := by cases tr <;> simp_all
  refine Z.enterD Try.func12 rfl Try.ntmps12 rfl rfl ?_
  refine Z.seq ?_
  refine Z.region ?_
  refine Z.le rfl trivial ?_
  refine Z.ZO.alloc rfl rfl (by rfl) Try.zeroValue26 rfl hs ?_
  clear hs; intro g4 w4 hs
  refine Z.le rfl trivial ?_
  refine Z.ZO.alloc rfl rfl (by rfl) Try.zeroValue27 rfl hs ?_
  clear hs; intro g5 w5 hs
  refine Z.lnil ?_
  refine Z.only [0, 1, 4, 5] rfl ?_
  refine Z.nthen ?_
  refine Z.seq ?_
  refine Z.region ?_
  refine Z.lb 1 rfl ?_
  refine Z.le rfl trivial ?_
  refine Z.ZO.defer rfl rfl rfl rfl ?_
  refine Z.lnil ?_
  refine Z.only [0, 1, 4, 5] rfl ?_
  refine Z.nthen ?_
  refine Z.seq ?_
  refine Z.region ?_
  refine Z.lb 6 rfl ?_
  refine Z.le rfl trivial ?_
  refine Z.ZO.call rfl rfl (by rfl) rfl rfl Try.call31 rfl (mm_must_ok _ 2 _ (by simp; omega)) ?_
  rintro v2_6 w2_6 ⟨rfl, hy⟩
  replace hs := hs.call hy
  clear hy
  try simp only [List.cons_append, List.nil_append, List.append_nil] at hs
  refine Z.lnil ?_
  refine Z.only [0, 1, 4, 5] rfl ?_
  refine Z.nthen ?_
  refine Z.seq ?_
  refine Z.region ?_
  refine Z.lb 2 rfl ?_
  refine Z.le rfl trivial ?_
  refine Z.ZO.call rfl rfl (by rfl) rfl rfl Try.call14 rfl (mc_Need A n c ps _ (hx.st (hs.sub (List.nil_sublist _))) hl (by omega) hf) ?_
  rintro v3_2 w3_2 ⟨rfl, hy⟩
  replace hs := hs.call hy
  clear hy
  try simp only [List.cons_append, List.nil_append, List.append_nil] at hs
  rw [hnv]
  refine Z.lb 2 rfl ?_
  refine Z.le rfl trivial ?_
  refine Z.ZO.call rfl rfl (by rfl) rfl rfl Try.call32 rfl (mm_goti_ok _ _) ?_
  rintro v3_5 w3_5 ⟨rfl, hy⟩
  replace hs := hs.call hy
  clear hy
  try simp only [List.cons_append, List.nil_append, List.append_nil] at hs
  refine Z.l rfl rfl (by rfl) (Z.keepS hs) (Z.Yd.sub rfl rfl (fun hG => Z.wi64 (by first | omega | (have hG' := Z.gh rfl hG; simp at hG'; omega)))) ?_
  rw [hd]
  refine Z.l rfl rfl (by rfl) (Z.keepS hs) (Z.Yd.pure rfl) ?_
  refine Z.lnil ?_
  refine Z.only [0, 1, 4, 5, 6] rfl ?_
  refine Z.nthen ?_
  refine Z.seq ?_
  refine Z.region ?_
  refine Z.lb 2 rfl ?_
  refine Z.le rfl trivial ?_
  refine Z.ZO.call rfl rfl (by rfl) rfl rfl Try.call31 rfl (mm_must_ok _ 4 _ (by simp)) ?_
  rintro v4_2 w4_2 ⟨rfl, hy⟩
  replace hs := hs.call hy
  clear hy
  try simp only [List.cons_append, List.nil_append, List.append_nil] at hs
  refine Z.lnil ?_
  refine Z.only [0, 1, 4, 5, 6] rfl ?_
  refine Z.nthen ?_
  refine Z.seq ?_
  refine Z.region ?_
  refine Z.le rfl trivial ?_
  refine Z.ZO.alloc rfl rfl (by rfl) Try.zeroValue67 rfl hs ?_
  clear hs; intro g7 w7 hs
  refine Z.lnil ?_
  refine Z.only [0, 1, 4, 5, 6, 7] rfl ?_
  refine Z.nthen ?_
  refine Z.seq ?_
  refine Z.region ?_
  replace hs : SX.St w [] _ (WrL g7 67 (.slice none 0 0) (unb []) ++ [SX.Ent.blk g5 27 #[.int .i64 0], SX.Ent.blk g4 26 #[.slice none 0 0]]) := WrL_start hs
  refine Z.l rfl rfl (by rfl) (Z.keepS hs) (Z.Yd.pure rfl) ?_
  refine Z.lb 1 rfl ?_
  refine Z.lnil ?_
  refine Z.only [0, 1, 4, 5, 6, 7, 8] rfl ?_
  refine Z.nthen ?_
  refine Z.seq ?_
  refine Z.region ?_
  refine Z.lb 2 rfl ?_
  rw [htr]
  refine Z.l rfl rfl (by rfl) (Z.keepS hs) (Z.Yd.pure rfl) ?_
  refine Z.lnil ?_
  refine Z.only [0, 1, 4, 5, 6, 7, 8, 9] rfl ?_
  refine Z.nthen ?_
  refine Z.seq ?_
  refine Z.seq ?_
  refine Z.region ?_
  refine Z.lb 2 rfl ?_
  refine Z.lnil ?_
  refine Z.only [0, 1, 4, 5, 6, 7, 8, 9, 39] rfl ?_
  refine Z.nthen ?_
  refine Z.cutt (ι := Value) [0, 1, 4, 5, 7, 8, 9] rfl (fun _ => []) (fun sv wr => SX.St w [] wr (WrL g7 67 sv (unb (List.replicate f 63)) ++ [SX.Ent.blk g5 27 #[.int .i64 0], SX.Ent.blk g4 26 #[.slice none 0 0]])) ?_ ?_
  · skip
    refine Z.cond rfl (fun hc8 => ?_) (fun hc8 => ?_)
    · first
        | (exfalso; simp at hc8 <;> omega)
        | (
          (try simp at hc8)
          obtain rfl : f = d := hf1 (by assumption)
          refine Z.seq ?_
          refine Z.region ?_
          refine Z.lb 2 rfl ?_
          refine Z.lnil ?_
          refine Z.only [0, 1, 4, 5, 7, 8, 9, 40, 41] rfl ?_
          refine Z.nthen ?_
          refine Z.block ?_
          refine Z.loopk (ι := Nat × Value) [0, 1, 4, 5, 7, 8, 9, 40] rfl (fun x => [(41, [], .int .i64 (x.1 : Int))]) (fun x wr => x.1 ≤ f ∧ SX.St w [] wr (WrL g7 67 x.2 (unb (List.replicate x.1 63)) ++ [SX.Ent.blk g5 27 #[.int .i64 0], SX.Ent.blk g4 26 #[.slice none 0 0]])) (fun x => f - x.1) (0, .slice none 0 0) (by refine ⟨?_, trivial⟩ <;> (first | rfl | (refine Z.lookv rfl ?_; simp; done) | (refine Z.lookv rfl ?_; simp; omega))) ⟨Nat.zero_le _, hs⟩ ?_
          clear hs
          rintro ⟨i, sv⟩ w9 ⟨hi, hs⟩
          refine Z.only [0, 1, 4, 5, 7, 8, 9, 40, 41] rfl ?_
          (try dsimp only at hs)
          dsimp only at hi hs
          refine Z.seq ?_
          refine Z.region ?_
          refine Z.lb 1 rfl ?_
          refine Z.lnil ?_
          refine Z.only [0, 1, 4, 5, 7, 8, 9, 40, 41, 42] rfl ?_
          refine Z.nthen ?_
          refine Z.seq ?_
          refine Z.cond rfl (fun hc10 => ?_) (fun hc10 => ?_)
          · first
              | (exfalso; simp at hc10 <;> omega)
              | (
                (try simp at hc10)
                refine Z.skip ?_
                refine Z.nthen ?_
                refine Z.seq ?_
                refine Z.block ?_
                refine Z.region ?_
                refine Z.lb 1 rfl ?_
                refine Z.le rfl trivial ?_
                refine Z.ZO.call rfl rfl (by rfl) rfl rfl Try.call33 rfl (mm_headI g7 _ sv (List.replicate i 63) 31 true _ (hs.lend (L1 := WrL _ _ _ _)) (by omega) (by simp; omega)) ?_
                rintro v11_1 w11_1 ⟨sv1, rfl, hz⟩
                replace hs := hs.regain hz
                refine Z.lnil ?_
                refine Z.only [0, 1, 4, 5, 7, 8, 9, 40, 41] rfl ?_
                refine Z.nblock ?_
                refine Z.nthen ?_
                refine Z.region ?_
                refine Z.l rfl rfl (by rfl) (Z.keepS hs) (Z.Yd.add rfl rfl (fun hG => Z.wi64 (by first | omega | (have hG' := Z.gh rfl hG; simp at hG'; omega)))) ?_
                refine Z.lb 1 rfl ?_
                refine Z.lnil ?_
                refine Z.only [0, 1, 4, 5, 7, 8, 9, 40, 41] rfl ?_
                refine Z.nthen ?_
                exact Z.again (i + 1, sv1) (by refine ⟨?_, ?_, ?_, ?_, ?_, ?_, ?_, ?_, ?_, trivial⟩ <;> (first | rfl | (refine Z.lookv rfl ?_; simp; done) | (refine Z.lookv rfl ?_; simp; omega))) ⟨by simp only; omega, by simp only; rw [List.replicate_succ']; exact hs⟩ (by simp only; omega)
                )
          · first
              | (exfalso; simp at hc10 <;> omega)
              | (
                (try simp at hc10)
                refine Z.exit ?_
                refine Z.xthen ?_
                refine Z.xthen ?_
                refine Z.xblock ?_
                refine Z.nthen ?_
                first | exact Z.meet _ (by refine ⟨?_, ?_, ?_, ?_, ?_, ?_, ?_, trivial⟩ <;> (first | rfl | (refine Z.lookv rfl ?_; simp; done) | (refine Z.lookv rfl ?_; simp; omega))) hs | (obtain rfl : i = f := (by omega); exact Z.meet _ (by refine ⟨?_, ?_, ?_, ?_, ?_, ?_, ?_, trivial⟩ <;> (first | rfl | (refine Z.lookv rfl ?_; simp; done) | (refine Z.lookv rfl ?_; simp; omega))) hs)
                )
          )
    · first
        | (exfalso; simp at hc8 <;> omega)
        | (
          (try simp at hc8)
          obtain rfl : f = 0 := hf0 (by assumption)
          refine Z.skip ?_
          refine Z.nthen ?_
          first | exact Z.meet _ (by refine ⟨?_, ?_, ?_, ?_, ?_, ?_, ?_, trivial⟩ <;> (first | rfl | (refine Z.lookv rfl ?_; simp; done) | (refine Z.lookv rfl ?_; simp; omega))) hs | (obtain rfl : i = f := (by omega); exact Z.meet _ (by refine ⟨?_, ?_, ?_, ?_, ?_, ?_, ?_, trivial⟩ <;> (first | rfl | (refine Z.lookv rfl ?_; simp; done) | (refine Z.lookv rfl ?_; simp; omega))) hs)
          )
  · clear hs
    rintro sv w8 hs
    refine Z.only [0, 1, 4, 5, 7, 8, 9] rfl ?_
    refine Z.seq ?_
    refine Z.seq ?_
    refine Z.region ?_
    refine Z.lb 1 rfl ?_
    refine Z.l rfl rfl (by rfl) (Z.keepS hs) (Z.Yd.lenS rfl Try.underlying22) ?_
    refine Z.lb 1 rfl ?_
    refine Z.lnil ?_
    refine Z.only [0, 1, 4, 5, 7, 8, 9, 46, 47, 48] rfl ?_
    refine Z.nthen ?_
    refine Z.block ?_
    refine Z.loopk (ι := Nat × Value × List Int) [0, 1, 4, 5, 7, 8, 9, 46, 47] rfl (fun x => [(48, [], .int .i64 (x.1 : Int))]) (fun x wr => (x.1 ≤ n ∧ x.2.2 ++ (hdsR ((ps.map MpV.plain).drop x.1) tr ++ if tr then [31] else []) = H) ∧ SX.St w [] wr (WrL g7 67 x.2.1 (unb x.2.2) ++ [SX.Ent.blk g5 27 #[.int .i64 0], SX.Ent.blk g4 26 #[.slice none 0 0]])) (fun x => n - x.1) (0, sv, List.replicate f 63) (by refine ⟨?_, trivial⟩ <;> (first | rfl | (refine Z.lookv rfl ?_; simp; done) | (refine Z.lookv rfl ?_; simp; omega))) ⟨⟨Nat.zero_le _, by rw [← hH]; simp [headB]⟩, hs⟩ ?_
    clear hs
    rintro ⟨k, sv, acc⟩ w14 ⟨⟨hk, hacc⟩, hs⟩
    refine Z.only [0, 1, 4, 5, 7, 8, 9, 46, 47, 48] rfl ?_
    (try dsimp only at hs)
    dsimp only at hk hacc hs
    have hal : acc.length ≤ 16384 := by
      have := congrArg List.length hacc
      rw [List.length_append] at this
      omega
    refine Z.seq ?_
    refine Z.region ?_
    refine Z.lb 1 rfl ?_
    refine Z.lnil ?_
    refine Z.only [0, 1, 4, 5, 7, 8, 9, 46, 47, 48, 49] rfl ?_
    refine Z.nthen ?_
    refine Z.seq ?_
    refine Z.cond rfl (fun hc14 => ?_) (fun hc14 => ?_)
    · first
        | (exfalso; simp at hc14 <;> omega)
        | (
          (try simp at hc14)
          obtain ⟨b, off, rfl, hb0, hx2⟩ := Z.Sl.some hx (by rw [fl_len mp_len]; omega)
          obtain ⟨q, hqi⟩ : ∃ q, ps[k]? = some q := ⟨_, List.getElem?_eq_getElem (by omega)⟩
          have hqm := List.mem_of_getElem? hqi
          have hone := mp_one q
          obtain ⟨⟨q1, q2⟩, q3⟩ := hmem q.plain (List.mem_map_of_mem hqm)
          have e1 : q.plain.1 = q.lc := rfl
          have e2 : q.plain.2 = q.l := rfl
          rw [e1] at q1 q2
          rw [e2] at q3
          rw [plain_at hqi, hdsR_cons, e1, e2, drop_empty hl (by omega)] at hacc
          obtain ⟨lb1, lb2⟩ := lenF_bd q3
          have hlnF := lnF_ok q3
          have er2 : ∀ X, resA (unb X) (lnF q.l.length) = unb (X ++ lenF q.l.length) := fun X => by
            unfold resA
            rw [if_pos hlnF.2.1, hlnF.2.2, unb_app]
          have hrest1 : ∀ mo : Bool, mo = !(decide ((k : Int) = (n : Int) - 1) && !tr) → (mo = true ∧ sduB q.lc) → acc ++ [q.lc + if mo = true then 32 else 0] ++ lenF q.l.length ++ (hdsR ((ps.map MpV.plain).drop (k + 1)) tr ++ if tr then [31] else []) = H := by
            intro mo hm hh
            rw [← hacc]
            cases hb : (decide ((k : Int) = (n : Int) - 1) && !tr) with
            | true => rw [hb, hh.1] at hm; cases hm
            | false => rw [hh.1]; simp [hh.2]
          have hrest2 : ∀ mo : Bool, mo = !(decide ((k : Int) = (n : Int) - 1) && !tr) → ¬ (mo = true ∧ sduB q.lc) → acc ++ [q.lc + if mo = true then 32 else 0] ++ (hdsR ((ps.map MpV.plain).drop (k + 1)) tr ++ if tr then [31] else []) = H := by
            intro mo hm hh
            rw [← hacc]
            cases hb : (decide ((k : Int) = (n : Int) - 1) && !tr) with
            | true =>
              rw [hb] at hm
              subst hm
              simp
            | false =>
              rw [hb] at hm
              subst hm
              have hns : ¬ sduB q.lc := fun h => hh ⟨rfl, h⟩
              simp [hns]
          have hmT : tr = true → true = !(decide ((k : Int) = (n : Int) - 1) && !tr) := fun h => by rw [h]; simp
          have hmF : tr = false → decide ((k : Int) < (n : Int) - 1) = !(decide ((k : Int) = (n : Int) - 1) && !tr) := fun h => by
            rw [h, Bool.eq_iff_iff]
            simp
            omega
          refine Z.skip ?_
          refine Z.nthen ?_
          refine Z.seq ?_
          refine Z.block ?_
          refine Z.seq ?_
          refine Z.region ?_
          refine Z.lb 1 rfl ?_
          refine Z.l rfl rfl (by rfl) (Z.keepS hs) (Z.Yd.elem rfl rfl Try.underlying22 Try.sizeOf47 (fun hG => ⟨(by first | omega | (have hG' := Z.gh rfl hG; simp at hG'; omega)), (by first | omega | (have hG' := Z.gh rfl hG; simp at hG'; omega))⟩)) ?_
          refine Z.l rfl rfl (by rfl) (Z.keepS hs) (Z.Yd.loadA _ rfl Try.isAgg47 (fun _ W hK j u hu => Z.cellXq (enc := MpV.cells) hx2.sx mp_len hqi hu W hK) (by exact Try.sizeOf47)) ?_
          refine Z.le rfl trivial ?_
          refine Z.ZO.alloc rfl rfl (by rfl) Try.zeroValue47 rfl hs ?_
          clear hs; intro g11 w11 hs
          refine Z.lb 1 rfl ?_
          refine Z.le rfl trivial ?_
          first | refine Z.ZO.storeA rfl rfl hs rfl rfl (by kernel_rfl) (by first | (simp [Value.oneCell']; done) | (refine Z.all_one ?_; assumption)) (by first | exact SX.at0 | exact SX.at1 | exact SX.at2 | exact SX.at3 | exact SX.at4 | exact SX.at5 | exact Z.at6 | exact Z.at7 | exact Z.at8 | exact Z.at9 | exact Z.at10 | exact Z.at11 | exact Z.at12) (by rfl) ?_ | refine Z.ZO.storeP rfl rfl hs rfl rfl (by kernel_rfl) (by first | (simp [Value.oneCell']; done) | (refine Z.all_one ?_; assumption)) (by first | exact SX.at0 | exact SX.at1 | exact SX.at2 | exact SX.at3 | exact SX.at4 | exact SX.at5 | exact Z.at6 | exact Z.at7 | exact Z.at8 | exact Z.at9 | exact Z.at10 | exact Z.at11 | exact Z.at12) (by first | decide | (simp; done) | (simp; omega)) ?_ | refine Z.ZO.storePR rfl rfl hs rfl rfl (by kernel_rfl) (by first | (simp [Value.oneCell']; done) | (refine Z.all_one ?_; assumption)) (by first | exact SX.at0 | exact SX.at1 | exact SX.at2 | exact SX.at3 | exact SX.at4 | exact SX.at5 | exact Z.at6 | exact Z.at7 | exact Z.at8 | exact Z.at9 | exact Z.at10 | exact Z.at11 | exact Z.at12) (by first | decide | (simp; done) | (simp; omega)) ?_
          clear hs; intro ws hs
          simp only [Nat.zero_add, Nat.add_zero, Nat.reduceAdd, Int.reduceToNat, Nat.reduceMul, List.set_cons_zero, List.set_cons_succ, List.setIfInBounds_toArray] at hs
          try simp only [Z.putL, Nat.zero_add] at hs
          refine Z.lnil ?_
          refine Z.only [0, 1, 4, 5, 7, 8, 9, 10, 11, 46, 47, 48] rfl ?_
          refine Z.nthen ?_
          refine Z.seq ?_
          refine Z.region ?_
          refine Z.lb 2 rfl ?_
          refine Z.split (s := 54) rfl (fun hsp54 => ?_) (fun hsp54 => ?_)
          · first
              | (exfalso; simp at hsp54 <;> omega)
              | (
                refine Z.yes (s := 54) (b := true) rfl hsp54 rfl ?_
                (try simp at hsp54)
                refine Z.ls rfl rfl rfl (by rfl) ?_
                refine Z.ls rfl rfl rfl (by rfl) ?_
                refine Z.ls rfl rfl rfl (by rfl) ?_
                refine Z.ls rfl rfl rfl (by rfl) ?_
                refine Z.ls rfl rfl rfl (by rfl) ?_
                refine Z.l rfl rfl (by rfl) (Z.keepS hs) (Z.Yd.pickT rfl rfl) ?_
                refine Z.lb 1 rfl ?_
                refine Z.lnil ?_
                refine Z.only [0, 1, 4, 5, 7, 8, 9, 11, 12, 46, 47, 48] rfl ?_
                refine Z.nthen ?_
                refine Z.seq ?_
                refine Z.region ?_
                refine Z.lb 1 rfl ?_
                refine Z.l rfl rfl (by rfl) (Z.keepS hs) (Z.Yd.fieldA (m := 0) rfl (by kernel_rfl)) ?_
                refine Z.l rfl rfl (by rfl) (Z.keepS hs) (Z.Yd.load rfl Try.isAgg3 (fun _ => Z.cellB (cs := q.cells.toArray) (by first | ((repeat (first | exact List.mem_cons_self | refine List.mem_cons_of_mem _ ?_ | refine List.mem_append_right _ ?_)); done) | fail) rfl)) ?_
                refine Z.lb 1 rfl ?_
                replace hs : SX.St w [] _ (WrL g7 67 sv (unb acc) ++ [_, _, _]) := hs.rot (L1 := [_])
                refine Z.le rfl trivial ?_
                refine Z.ZO.call rfl rfl (by rfl) rfl rfl Try.call33 rfl (mm_headI g7 _ sv acc q.lc _ _ (hs.lend (L1 := WrL _ _ _ _)) (by omega) (by omega)) ?_
                rintro v17_4 w17_4 ⟨sv1, rfl, hz⟩
                replace hs := hs.regain hz
                refine Z.lnil ?_
                refine Z.only [0, 1, 4, 5, 7, 8, 9, 11, 12, 46, 47, 48] rfl ?_
                refine Z.nthen ?_
                refine Z.seq ?_
                refine Z.region ?_
                simp only [WrL, List.cons_append, List.nil_append] at hs
                refine Z.l rfl rfl (by rfl) (Z.keepS hs) (Z.Yd.loadA _ rfl Try.isAgg47 (fun _ => Z.cellsB (cs := MpV.cells q) (by first | ((repeat (first | exact List.mem_cons_self | refine List.mem_cons_of_mem _ ?_ | refine List.mem_append_right _ ?_)); done) | fail)) (by exact Try.sizeOf47)) ?_
                refine Z.le rfl trivial ?_
                refine Z.ZO.call rfl rfl (by rfl) rfl rfl Try.call35 rfl (mc_extra q _) ?_
                rintro v18_1 w18_1 ⟨rfl, hy⟩
                replace hs := hs.call hy
                clear hy
                try simp only [List.cons_append, List.nil_append, List.append_nil] at hs
                refine Z.lb 1 rfl ?_
                refine Z.lnil ?_
                refine Z.only [0, 1, 4, 5, 7, 8, 9, 11, 12, 13, 46, 47, 48] rfl ?_
                refine Z.nthen ?_
                refine Z.seq ?_
                refine Z.region ?_
                refine Z.lb 5 rfl ?_
                refine Z.lnil ?_
                refine Z.only [0, 1, 4, 5, 7, 8, 9, 11, 13, 46, 47, 48, 72] rfl ?_
                refine Z.nthen ?_
                refine Z.cond rfl (fun hc19 => ?_) (fun hc19 => ?_)
                · first
                    | (exfalso; simp at hc19 <;> omega)
                    | (
                      (try simp at hc19)
                      have hsd : sduB q.lc := ext_pos.1 (by first | exact hc19 | exact hc19.2)
                      have hfm := fm_ext hsd
                      obtain ⟨fv, hfv⟩ : ∃ fv, fmOf q.l.length = fv := ⟨_, rfl⟩
                      refine Z.seq ?_
                      refine Z.region ?_
                      refine Z.le rfl trivial ?_
                      refine Z.ZO.call rfl rfl (by rfl) rfl rfl Try.call36 rfl (mc_formats _) ?_
                      rintro v20_0 w20_0 ⟨rfl, hy⟩
                      replace hs := hs.call hy
                      clear hy
                      try simp only [List.cons_append, List.nil_append, List.append_nil] at hs
                      refine Z.lb 1 rfl ?_
                      refine Z.l rfl rfl (by rfl) (Z.keepS hs) (Z.Yd.sub rfl rfl (fun hG => Z.wi64 (by first | omega | (have hG' := Z.gh rfl hG; simp at hG'; omega)))) ?_
                      refine Z.l rfl rfl (by rfl) (Z.keepS hs) (Z.Yd.index (v := .agg #[.int .u64 fv.1, .int .i64 fv.2.1, .int .i64 fv.2.2]) rfl rfl (by intro _ w; rw [hfm, ← hfv]; unfold fmOf; by_cases hc : q.l.length ≤ 127 <;> simp only [hc, if_true, if_false] <;> kernel_rfl)) ?_
                      refine Z.le rfl trivial ?_
                      refine Z.ZO.alloc rfl rfl (by rfl) Try.zeroValue75 rfl hs ?_
                      clear hs; intro g14 w14 hs
                      refine Z.le rfl trivial ?_
                      first | refine Z.ZO.storeA rfl rfl hs rfl rfl (by kernel_rfl) (by first | (simp [Value.oneCell']; done) | (refine Z.all_one ?_; assumption)) (by first | exact SX.at0 | exact SX.at1 | exact SX.at2 | exact SX.at3 | exact SX.at4 | exact SX.at5 | exact Z.at6 | exact Z.at7 | exact Z.at8 | exact Z.at9 | exact Z.at10 | exact Z.at11 | exact Z.at12) (by rfl) ?_ | refine Z.ZO.storeP rfl rfl hs rfl rfl (by kernel_rfl) (by first | (simp [Value.oneCell']; done) | (refine Z.all_one ?_; assumption)) (by first | exact SX.at0 | exact SX.at1 | exact SX.at2 | exact SX.at3 | exact SX.at4 | exact SX.at5 | exact Z.at6 | exact Z.at7 | exact Z.at8 | exact Z.at9 | exact Z.at10 | exact Z.at11 | exact Z.at12) (by first | decide | (simp; done) | (simp; omega)) ?_ | refine Z.ZO.storePR rfl rfl hs rfl rfl (by kernel_rfl) (by first | (simp [Value.oneCell']; done) | (refine Z.all_one ?_; assumption)) (by first | exact SX.at0 | exact SX.at1 | exact SX.at2 | exact SX.at3 | exact SX.at4 | exact SX.at5 | exact Z.at6 | exact Z.at7 | exact Z.at8 | exact Z.at9 | exact Z.at10 | exact Z.at11 | exact Z.at12) (by first | decide | (simp; done) | (simp; omega)) ?_
                      clear hs; intro ws hs
                      simp only [Nat.zero_add, Nat.add_zero, Nat.reduceAdd, Int.reduceToNat, Nat.reduceMul, List.set_cons_zero, List.set_cons_succ, List.setIfInBounds_toArray] at hs
                      try simp only [Z.putL, Nat.zero_add] at hs
                      refine Z.lnil ?_
                      refine Z.only [0, 1, 4, 5, 7, 8, 9, 11, 14, 46, 47, 48] rfl ?_
                      refine Z.nthen ?_
                      refine Z.region ?_
                      refine Z.l rfl rfl (by rfl) (Z.keepS hs) (Z.Yd.fieldA (m := 0) rfl (by kernel_rfl)) ?_
                      refine Z.l rfl rfl (by rfl) (Z.keepS hs) (Z.Yd.load rfl Try.isAgg68 (fun _ => Z.cellB (cs := #[.int .u64 fv.1, .int .i64 fv.2.1, .int .i64 fv.2.2]) (by first | ((repeat (first | exact List.mem_cons_self | refine List.mem_cons_of_mem _ ?_ | refine List.mem_append_right _ ?_)); done) | fail) rfl)) ?_
                      refine Z.l rfl rfl (by rfl) (Z.keepS hs) (Z.Yd.buildL [(0, 1), (1, 1)] [.int .u64 0, .int .i64 0] rfl rfl (by intro w; kernel_rfl)) ?_
                      refine Z.l rfl rfl (by rfl) (Z.keepS hs) (Z.Yd.fieldA (m := 1) rfl (by kernel_rfl)) ?_
                      refine Z.l rfl rfl (by rfl) (Z.keepS hs) (by first | exact Z.Yd.load rfl Try.isAgg26 (fun _ => Z.cellB (by first | ((repeat (first | exact List.mem_cons_self | refine List.mem_cons_of_mem _ ?_ | refine List.mem_append_right _ ?_)); done) | fail) rfl) | exact Z.Yd.load rfl Try.isAgg26 (fun _ => Z.cellO (by assumption) (by simp) (by assumption)) | fail "load 21.4") ?_
                      refine Z.l rfl rfl (by rfl) (Z.keepS hs) (Z.Yd.lenS rfl Try.underlying26) ?_
                      refine Z.l rfl rfl (by rfl) (Z.keepS hs) (Z.Yd.convI rfl ⟨_, Try.underlying3⟩ Try.underlying68 (fun hG => Z.wu64 (by first | omega | (have hG' := Z.gh rfl hG; simp at hG'; omega)))) ?_
                      refine Z.l rfl rfl (by rfl) (Z.keepS hs) (Z.Yd.fieldA (m := 1) rfl (by kernel_rfl)) ?_
                      refine Z.l rfl rfl (by rfl) (Z.keepS hs) (Z.Yd.load rfl Try.isAgg3 (fun _ => Z.cellB (cs := #[.int .u64 fv.1, .int .i64 fv.2.1, .int .i64 fv.2.2]) (by first | ((repeat (first | exact List.mem_cons_self | refine List.mem_cons_of_mem _ ?_ | refine List.mem_append_right _ ?_)); done) | fail) rfl)) ?_
                      refine Z.l rfl rfl (by rfl) (Z.keepS hs) (Z.Yd.buildL [(0, 1), (1, 1)] [.int .u64 0, .int .i64 0] rfl rfl (by intro w; kernel_rfl)) ?_
                      refine Z.le rfl trivial ?_
                      refine Z.ZO.litL (T' := 71) [(0, 2), (2, 2)] [.int .u64 0, .int .i64 0, .int .u64 0, .int .i64 0] rfl rfl (by rfl) rfl rfl (by intro W; kernel_rfl) hs ?_
                      clear hs; intro g87 w87 hs
                      subst hfv
                      replace hs : SX.St w [] _ (WrL g7 67 sv1 _ ++ [_, _, _]) := hs.sel [2, 3, 0, 4, 5] (by decide)
                      refine Z.le rfl trivial ?_
                      refine Z.ZO.call rfl rfl (by rfl) rfl rfl Try.call34 rfl (putAll_any g7 _ sv1 _ _ 2 2 (lnF q.l.length) _ hs.lend (by have h0 := Z.blk_lentj hs (j := 0) rfl; exact h0) rfl (by omega) (by rw [unb_length]; simp; omega) hlnF.1) ?_
                      rintro v21_11 w21_11 ⟨sv2, rfl, hz⟩
                      replace hs := hs.regain hz
                      rw [er2] at hs
                      refine Z.lnil ?_
                      refine Z.only [0, 1, 4, 5, 7, 8, 9, 46, 47, 48] rfl ?_
                      refine Z.nblock ?_
                      refine Z.nthen ?_
                      refine Z.region ?_
                      refine Z.l rfl rfl (by rfl) (Z.keepS hs) (Z.Yd.add rfl rfl (fun hG => Z.wi64 (by first | omega | (have hG' := Z.gh rfl hG; simp at hG'; omega)))) ?_
                      refine Z.lb 1 rfl ?_
                      refine Z.lnil ?_
                      refine Z.only [0, 1, 4, 5, 7, 8, 9, 46, 47, 48] rfl ?_
                      refine Z.nthen ?_
                      first
                      | exact Z.again (k + 1, sv2, _) (by refine ⟨?_, ?_, ?_, ?_, ?_, ?_, ?_, ?_, ?_, ?_, trivial⟩ <;> (first | rfl | (refine Z.lookv rfl ?_; simp; done) | (refine Z.lookv rfl ?_; simp; omega))) ⟨⟨by simp only; omega, hrest1 _ (hmT hsp54) ⟨rfl, hsd⟩⟩, hs.sel [0, 1, 3, 4] (by decide)⟩ (by simp only; omega)
                      | exact Z.again (k + 1, sv2, _) (by refine ⟨?_, ?_, ?_, ?_, ?_, ?_, ?_, ?_, ?_, ?_, trivial⟩ <;> (first | rfl | (refine Z.lookv rfl ?_; simp; done) | (refine Z.lookv rfl ?_; simp; omega))) ⟨⟨by simp only; omega, hrest1 _ (hmF hsp54) ⟨decide_eq_true hc19.1, hsd⟩⟩, hs.sel [0, 1, 3, 4] (by decide)⟩ (by simp only; omega)
                      | exact Z.again (k + 1, sv1, _) (by refine ⟨?_, ?_, ?_, ?_, ?_, ?_, ?_, ?_, ?_, ?_, trivial⟩ <;> (first | rfl | (refine Z.lookv rfl ?_; simp; done) | (refine Z.lookv rfl ?_; simp; omega))) ⟨⟨by simp only; omega, hrest2 _ (hmT hsp54) (fun h => by have h9 := ext_pos.2 h.2; omega)⟩, hs.sel [0, 1, 2, 3] (by decide)⟩ (by simp only; omega)
                      | exact Z.again (k + 1, sv1, _) (by refine ⟨?_, ?_, ?_, ?_, ?_, ?_, ?_, ?_, ?_, ?_, trivial⟩ <;> (first | rfl | (refine Z.lookv rfl ?_; simp; done) | (refine Z.lookv rfl ?_; simp; omega))) ⟨⟨by simp only; omega, hrest2 _ (hmF hsp54) (fun h => by have h9 := ext_pos.2 h.2; have h8 := of_decide_eq_true h.1; first | omega | (have h7 := hc19 h8; omega))⟩, hs.sel [0, 1, 2, 3] (by decide)⟩ (by simp only; omega)
                      )
                · first
                    | (exfalso; simp at hc19 <;> omega)
                    | (
                      (try simp at hc19)
                      refine Z.skip ?_
                      refine Z.nblock ?_
                      refine Z.nthen ?_
                      refine Z.region ?_
                      refine Z.l rfl rfl (by rfl) (Z.keepS hs) (Z.Yd.add rfl rfl (fun hG => Z.wi64 (by first | omega | (have hG' := Z.gh rfl hG; simp at hG'; omega)))) ?_
                      refine Z.lb 1 rfl ?_
                      refine Z.lnil ?_
                      refine Z.only [0, 1, 4, 5, 7, 8, 9, 46, 47, 48] rfl ?_
                      refine Z.nthen ?_
                      first
                      | exact Z.again (k + 1, sv2, _) (by refine ⟨?_, ?_, ?_, ?_, ?_, ?_, ?_, ?_, ?_, ?_, trivial⟩ <;> (first | rfl | (refine Z.lookv rfl ?_; simp; done) | (refine Z.lookv rfl ?_; simp; omega))) ⟨⟨by simp only; omega, hrest1 _ (hmT hsp54) ⟨rfl, hsd⟩⟩, hs.sel [0, 1, 3, 4] (by decide)⟩ (by simp only; omega)
                      | exact Z.again (k + 1, sv2, _) (by refine ⟨?_, ?_, ?_, ?_, ?_, ?_, ?_, ?_, ?_, ?_, trivial⟩ <;> (first | rfl | (refine Z.lookv rfl ?_; simp; done) | (refine Z.lookv rfl ?_; simp; omega))) ⟨⟨by simp only; omega, hrest1 _ (hmF hsp54) ⟨decide_eq_true hc19.1, hsd⟩⟩, hs.sel [0, 1, 3, 4] (by decide)⟩ (by simp only; omega)
                      | exact Z.again (k + 1, sv1, _) (by refine ⟨?_, ?_, ?_, ?_, ?_, ?_, ?_, ?_, ?_, ?_, trivial⟩ <;> (first | rfl | (refine Z.lookv rfl ?_; simp; done) | (refine Z.lookv rfl ?_; simp; omega))) ⟨⟨by simp only; omega, hrest2 _ (hmT hsp54) (fun h => by have h9 := ext_pos.2 h.2; omega)⟩, hs.sel [0, 1, 2, 3] (by decide)⟩ (by simp only; omega)
                      | exact Z.again (k + 1, sv1, _) (by refine ⟨?_, ?_, ?_, ?_, ?_, ?_, ?_, ?_, ?_, ?_, trivial⟩ <;> (first | rfl | (refine Z.lookv rfl ?_; simp; done) | (refine Z.lookv rfl ?_; simp; omega))) ⟨⟨by simp only; omega, hrest2 _ (hmF hsp54) (fun h => by have h9 := ext_pos.2 h.2; have h8 := of_decide_eq_true h.1; first | omega | (have h7 := hc19 h8; omega))⟩, hs.sel [0, 1, 2, 3] (by decide)⟩ (by simp only; omega)
                      )
                )
          · first
              | (exfalso; simp at hsp54 <;> omega)
              | (
                refine Z.yes (s := 54) (b := false) rfl hsp54 rfl ?_
                (try simp at hsp54)
                refine Z.lb 2 rfl ?_
                refine Z.l rfl rfl (by rfl) (Z.keepS hs) (Z.Yd.lenS rfl Try.underlying22) ?_
                refine Z.l rfl rfl (by rfl) (Z.keepS hs) (Z.Yd.sub rfl rfl (fun hG => Z.wi64 (by first | omega | (have hG' := Z.gh rfl hG; simp at hG'; omega)))) ?_
                refine Z.lb 1 rfl ?_
                refine Z.yes (s := 54) (b := false) rfl rfl rfl ?_
                refine Z.l rfl rfl (by rfl) (Z.keepS hs) (Z.Yd.pickF rfl rfl) ?_
                refine Z.lb 1 rfl ?_
                refine Z.lnil ?_
                refine Z.only [0, 1, 4, 5, 7, 8, 9, 11, 12, 46, 47, 48] rfl ?_
                refine Z.nthen ?_
                refine Z.seq ?_
                refine Z.region ?_
                refine Z.lb 1 rfl ?_
                refine Z.l rfl rfl (by rfl) (Z.keepS hs) (Z.Yd.fieldA (m := 0) rfl (by kernel_rfl)) ?_
                refine Z.l rfl rfl (by rfl) (Z.keepS hs) (Z.Yd.load rfl Try.isAgg3 (fun _ => Z.cellB (cs := q.cells.toArray) (by first | ((repeat (first | exact List.mem_cons_self | refine List.mem_cons_of_mem _ ?_ | refine List.mem_append_right _ ?_)); done) | fail) rfl)) ?_
                refine Z.lb 1 rfl ?_
                replace hs : SX.St w [] _ (WrL g7 67 sv (unb acc) ++ [_, _, _]) := hs.rot (L1 := [_])
                refine Z.le rfl trivial ?_
                refine Z.ZO.call rfl rfl (by rfl) rfl rfl Try.call33 rfl (mm_headI g7 _ sv acc q.lc _ _ (hs.lend (L1 := WrL _ _ _ _)) (by omega) (by omega)) ?_
                rintro v17_4 w17_4 ⟨sv1, rfl, hz⟩
                replace hs := hs.regain hz
                refine Z.lnil ?_
                refine Z.only [0, 1, 4, 5, 7, 8, 9, 11, 12, 46, 47, 48] rfl ?_
                refine Z.nthen ?_
                refine Z.seq ?_
                refine Z.region ?_
                simp only [WrL, List.cons_append, List.nil_append] at hs
                refine Z.l rfl rfl (by rfl) (Z.keepS hs) (Z.Yd.loadA _ rfl Try.isAgg47 (fun _ => Z.cellsB (cs := MpV.cells q) (by first | ((repeat (first | exact List.mem_cons_self | refine List.mem_cons_of_mem _ ?_ | refine List.mem_append_right _ ?_)); done) | fail)) (by exact Try.sizeOf47)) ?_
                refine Z.le rfl trivial ?_
                refine Z.ZO.call rfl rfl (by rfl) rfl rfl Try.call35 rfl (mc_extra q _) ?_
                rintro v18_1 w18_1 ⟨rfl, hy⟩
                replace hs := hs.call hy
                clear hy
                try simp only [List.cons_append, List.nil_append, List.append_nil] at hs
                refine Z.lb 1 rfl ?_
                refine Z.lnil ?_
                refine Z.only [0, 1, 4, 5, 7, 8, 9, 11, 12, 13, 46, 47, 48] rfl ?_
                refine Z.nthen ?_
                refine Z.seq ?_
                refine Z.region ?_
                refine Z.lb 5 rfl ?_
                refine Z.lnil ?_
                refine Z.only [0, 1, 4, 5, 7, 8, 9, 11, 13, 46, 47, 48, 72] rfl ?_
                refine Z.nthen ?_
                refine Z.cond rfl (fun hc19 => ?_) (fun hc19 => ?_)
                · first
                    | (exfalso; simp at hc19 <;> omega)
                    | (
                      (try simp at hc19)
                      have hsd : sduB q.lc := ext_pos.1 (by first | exact hc19 | exact hc19.2)
                      have hfm := fm_ext hsd
                      obtain ⟨fv, hfv⟩ : ∃ fv, fmOf q.l.length = fv := ⟨_, rfl⟩
                      refine Z.seq ?_
                      refine Z.region ?_
                      refine Z.le rfl trivial ?_
                      refine Z.ZO.call rfl rfl (by rfl) rfl rfl Try.call36 rfl (mc_formats _) ?_
                      rintro v20_0 w20_0 ⟨rfl, hy⟩
                      replace hs := hs.call hy
                      clear hy
                      try simp only [List.cons_append, List.nil_append, List.append_nil] at hs
                      refine Z.lb 1 rfl ?_
                      refine Z.l rfl rfl (by rfl) (Z.keepS hs) (Z.Yd.sub rfl rfl (fun hG => Z.wi64 (by first | omega | (have hG' := Z.gh rfl hG; simp at hG'; omega)))) ?_
                      refine Z.l rfl rfl (by rfl) (Z.keepS hs) (Z.Yd.index (v := .agg #[.int .u64 fv.1, .int .i64 fv.2.1, .int .i64 fv.2.2]) rfl rfl (by intro _ w; rw [hfm, ← hfv]; unfold fmOf; by_cases hc : q.l.length ≤ 127 <;> simp only [hc, if_true, if_false] <;> kernel_rfl)) ?_
                      refine Z.le rfl trivial ?_
                      refine Z.ZO.alloc rfl rfl (by rfl) Try.zeroValue75 rfl hs ?_
                      clear hs; intro g14 w14 hs
                      refine Z.le rfl trivial ?_
                      first | refine Z.ZO.storeA rfl rfl hs rfl rfl (by kernel_rfl) (by first | (simp [Value.oneCell']; done) | (refine Z.all_one ?_; assumption)) (by first | exact SX.at0 | exact SX.at1 | exact SX.at2 | exact SX.at3 | exact SX.at4 | exact SX.at5 | exact Z.at6 | exact Z.at7 | exact Z.at8 | exact Z.at9 | exact Z.at10 | exact Z.at11 | exact Z.at12) (by rfl) ?_ | refine Z.ZO.storeP rfl rfl hs rfl rfl (by kernel_rfl) (by first | (simp [Value.oneCell']; done) | (refine Z.all_one ?_; assumption)) (by first | exact SX.at0 | exact SX.at1 | exact SX.at2 | exact SX.at3 | exact SX.at4 | exact SX.at5 | exact Z.at6 | exact Z.at7 | exact Z.at8 | exact Z.at9 | exact Z.at10 | exact Z.at11 | exact Z.at12) (by first | decide | (simp; done) | (simp; omega)) ?_ | refine Z.ZO.storePR rfl rfl hs rfl rfl (by kernel_rfl) (by first | (simp [Value.oneCell']; done) | (refine Z.all_one ?_; assumption)) (by first | exact SX.at0 | exact SX.at1 | exact SX.at2 | exact SX.at3 | exact SX.at4 | exact SX.at5 | exact Z.at6 | exact Z.at7 | exact Z.at8 | exact Z.at9 | exact Z.at10 | exact Z.at11 | exact Z.at12) (by first | decide | (simp; done) | (simp; omega)) ?_
                      clear hs; intro ws hs
                      simp only [Nat.zero_add, Nat.add_zero, Nat.reduceAdd, Int.reduceToNat, Nat.reduceMul, List.set_cons_zero, List.set_cons_succ, List.setIfInBounds_toArray] at hs
                      try simp only [Z.putL, Nat.zero_add] at hs
                      refine Z.lnil ?_
                      refine Z.only [0, 1, 4, 5, 7, 8, 9, 11, 14, 46, 47, 48] rfl ?_
                      refine Z.nthen ?_
                      refine Z.region ?_
                      refine Z.l rfl rfl (by rfl) (Z.keepS hs) (Z.Yd.fieldA (m := 0) rfl (by kernel_rfl)) ?_
                      refine Z.l rfl rfl (by rfl) (Z.keepS hs) (Z.Yd.load rfl Try.isAgg68 (fun _ => Z.cellB (cs := #[.int .u64 fv.1, .int .i64 fv.2.1, .int .i64 fv.2.2]) (by first | ((repeat (first | exact List.mem_cons_self | refine List.mem_cons_of_mem _ ?_ | refine List.mem_append_right _ ?_)); done) | fail) rfl)) ?_
                      refine Z.l rfl rfl (by rfl) (Z.keepS hs) (Z.Yd.buildL [(0, 1), (1, 1)] [.int .u64 0, .int .i64 0] rfl rfl (by intro w; kernel_rfl)) ?_
                      refine Z.l rfl rfl (by rfl) (Z.keepS hs) (Z.Yd.fieldA (m := 1) rfl (by kernel_rfl)) ?_
                      refine Z.l rfl rfl (by rfl) (Z.keepS hs) (by first | exact Z.Yd.load rfl Try.isAgg26 (fun _ => Z.cellB (by first | ((repeat (first | exact List.mem_cons_self | refine List.mem_cons_of_mem _ ?_ | refine List.mem_append_right _ ?_)); done) | fail) rfl) | exact Z.Yd.load rfl Try.isAgg26 (fun _ => Z.cellO (by assumption) (by simp) (by assumption)) | fail "load 21.4") ?_
                      refine Z.l rfl rfl (by rfl) (Z.keepS hs) (Z.Yd.lenS rfl Try.underlying26) ?_
                      refine Z.l rfl rfl (by rfl) (Z.keepS hs) (Z.Yd.convI rfl ⟨_, Try.underlying3⟩ Try.underlying68 (fun hG => Z.wu64 (by first | omega | (have hG' := Z.gh rfl hG; simp at hG'; omega)))) ?_
                      refine Z.l rfl rfl (by rfl) (Z.keepS hs) (Z.Yd.fieldA (m := 1) rfl (by kernel_rfl)) ?_
                      refine Z.l rfl rfl (by rfl) (Z.keepS hs) (Z.Yd.load rfl Try.isAgg3 (fun _ => Z.cellB (cs := #[.int .u64 fv.1, .int .i64 fv.2.1, .int .i64 fv.2.2]) (by first | ((repeat (first | exact List.mem_cons_self | refine List.mem_cons_of_mem _ ?_ | refine List.mem_append_right _ ?_)); done) | fail) rfl)) ?_
                      refine Z.l rfl rfl (by rfl) (Z.keepS hs) (Z.Yd.buildL [(0, 1), (1, 1)] [.int .u64 0, .int .i64 0] rfl rfl (by intro w; kernel_rfl)) ?_
                      refine Z.le rfl trivial ?_
                      refine Z.ZO.litL (T' := 71) [(0, 2), (2, 2)] [.int .u64 0, .int .i64 0, .int .u64 0, .int .i64 0] rfl rfl (by rfl) rfl rfl (by intro W; kernel_rfl) hs ?_
                      clear hs; intro g87 w87 hs
                      subst hfv
                      replace hs : SX.St w [] _ (WrL g7 67 sv1 _ ++ [_, _, _]) := hs.sel [2, 3, 0, 4, 5] (by decide)
                      refine Z.le rfl trivial ?_
                      refine Z.ZO.call rfl rfl (by rfl) rfl rfl Try.call34 rfl (putAll_any g7 _ sv1 _ _ 2 2 (lnF q.l.length) _ hs.lend (by have h0 := Z.blk_lentj hs (j := 0) rfl; exact h0) rfl (by omega) (by rw [unb_length]; simp; omega) hlnF.1) ?_
                      rintro v21_11 w21_11 ⟨sv2, rfl, hz⟩
                      replace hs := hs.regain hz
                      rw [er2] at hs
                      refine Z.lnil ?_
                      refine Z.only [0, 1, 4, 5, 7, 8, 9, 46, 47, 48] rfl ?_
                      refine Z.nblock ?_
                      refine Z.nthen ?_
                      refine Z.region ?_
                      refine Z.l rfl rfl (by rfl) (Z.keepS hs) (Z.Yd.add rfl rfl (fun hG => Z.wi64 (by first | omega | (have hG' := Z.gh rfl hG; simp at hG'; omega)))) ?_
                      refine Z.lb 1 rfl ?_
                      refine Z.lnil ?_
                      refine Z.only [0, 1, 4, 5, 7, 8, 9, 46, 47, 48] rfl ?_
                      refine Z.nthen ?_
                      first
                      | exact Z.again (k + 1, sv2, _) (by refine ⟨?_, ?_, ?_, ?_, ?_, ?_, ?_, ?_, ?_, ?_, trivial⟩ <;> (first | rfl | (refine Z.lookv rfl ?_; simp; done) | (refine Z.lookv rfl ?_; simp; omega))) ⟨⟨by simp only; omega, hrest1 _ (hmT hsp54) ⟨rfl, hsd⟩⟩, hs.sel [0, 1, 3, 4] (by decide)⟩ (by simp only; omega)
                      | exact Z.again (k + 1, sv2, _) (by refine ⟨?_, ?_, ?_, ?_, ?_, ?_, ?_, ?_, ?_, ?_, trivial⟩ <;> (first | rfl | (refine Z.lookv rfl ?_; simp; done) | (refine Z.lookv rfl ?_; simp; omega))) ⟨⟨by simp only; omega, hrest1 _ (hmF hsp54) ⟨decide_eq_true hc19.1, hsd⟩⟩, hs.sel [0, 1, 3, 4] (by decide)⟩ (by simp only; omega)
                      | exact Z.again (k + 1, sv1, _) (by refine ⟨?_, ?_, ?_, ?_, ?_, ?_, ?_, ?_, ?_, ?_, trivial⟩ <;> (first | rfl | (refine Z.lookv rfl ?_; simp; done) | (refine Z.lookv rfl ?_; simp; omega))) ⟨⟨by simp only; omega, hrest2 _ (hmT hsp54) (fun h => by have h9 := ext_pos.2 h.2; omega)⟩, hs.sel [0, 1, 2, 3] (by decide)⟩ (by simp only; omega)
                      | exact Z.again (k + 1, sv1, _) (by refine ⟨?_, ?_, ?_, ?_, ?_, ?_, ?_, ?_, ?_, ?_, trivial⟩ <;> (first | rfl | (refine Z.lookv rfl ?_; simp; done) | (refine Z.lookv rfl ?_; simp; omega))) ⟨⟨by simp only; omega, hrest2 _ (hmF hsp54) (fun h => by have h9 := ext_pos.2 h.2; have h8 := of_decide_eq_true h.1; first | omega | (have h7 := hc19 h8; omega))⟩, hs.sel [0, 1, 2, 3] (by decide)⟩ (by simp only; omega)
                      )
                · first
                    | (exfalso; simp at hc19 <;> omega)
                    | (
                      (try simp at hc19)
                      refine Z.skip ?_
                      refine Z.nblock ?_
                      refine Z.nthen ?_
                      refine Z.region ?_
                      refine Z.l rfl rfl (by rfl) (Z.keepS hs) (Z.Yd.add rfl rfl (fun hG => Z.wi64 (by first | omega | (have hG' := Z.gh rfl hG; simp at hG'; omega)))) ?_
                      refine Z.lb 1 rfl ?_
                      refine Z.lnil ?_
                      refine Z.only [0, 1, 4, 5, 7, 8, 9, 46, 47, 48] rfl ?_
                      refine Z.nthen ?_
                      first
                      | exact Z.again (k + 1, sv2, _) (by refine ⟨?_, ?_, ?_, ?_, ?_, ?_, ?_, ?_, ?_, ?_, trivial⟩ <;> (first | rfl | (refine Z.lookv rfl ?_; simp; done) | (refine Z.lookv rfl ?_; simp; omega))) ⟨⟨by simp only; omega, hrest1 _ (hmT hsp54) ⟨rfl, hsd⟩⟩, hs.sel [0, 1, 3, 4] (by decide)⟩ (by simp only; omega)
                      | exact Z.again (k + 1, sv2, _) (by refine ⟨?_, ?_, ?_, ?_, ?_, ?_, ?_, ?_, ?_, ?_, trivial⟩ <;> (first | rfl | (refine Z.lookv rfl ?_; simp; done) | (refine Z.lookv rfl ?_; simp; omega))) ⟨⟨by simp only; omega, hrest1 _ (hmF hsp54) ⟨decide_eq_true hc19.1, hsd⟩⟩, hs.sel [0, 1, 3, 4] (by decide)⟩ (by simp only; omega)
                      | exact Z.again (k + 1, sv1, _) (by refine ⟨?_, ?_, ?_, ?_, ?_, ?_, ?_, ?_, ?_, ?_, trivial⟩ <;> (first | rfl | (refine Z.lookv rfl ?_; simp; done) | (refine Z.lookv rfl ?_; simp; omega))) ⟨⟨by simp only; omega, hrest2 _ (hmT hsp54) (fun h => by have h9 := ext_pos.2 h.2; omega)⟩, hs.sel [0, 1, 2, 3] (by decide)⟩ (by simp only; omega)
                      | exact Z.again (k + 1, sv1, _) (by refine ⟨?_, ?_, ?_, ?_, ?_, ?_, ?_, ?_, ?_, ?_, trivial⟩ <;> (first | rfl | (refine Z.lookv rfl ?_; simp; done) | (refine Z.lookv rfl ?_; simp; omega))) ⟨⟨by simp only; omega, hrest2 _ (hmF hsp54) (fun h => by have h9 := ext_pos.2 h.2; have h8 := of_decide_eq_true h.1; first | omega | (have h7 := hc19 h8; omega))⟩, hs.sel [0, 1, 2, 3] (by decide)⟩ (by simp only; omega)
                      )
                )
          )
    · first
        | (exfalso; simp at hc14 <;> omega)
        | (
          (try simp at hc14)
          refine Z.exit ?_
          refine Z.xthen ?_
          refine Z.xthen ?_
          refine Z.xblock ?_
          refine Z.nthen ?_
          refine Z.seq ?_
          refine Z.seq ?_
          refine Z.region ?_
          obtain rfl : k = n := by omega
          rw [List.drop_of_length_le (by simp; omega)] at hacc
          simp only [hdsR, List.nil_append] at hacc
          refine Z.l rfl rfl (by rfl) (Z.keepS hs) (Z.Yd.pure rfl) ?_
          refine Z.lnil ?_
          refine Z.only [0, 1, 4, 5, 7, 8, 90] rfl ?_
          refine Z.nthen ?_
          refine Z.cutt (ι := Value) [0, 1, 4, 5, 7] rfl (fun _ => []) (fun sv wr => SX.St w [] wr (WrL g7 67 sv (unb H) ++ [SX.Ent.blk g5 27 #[.int .i64 0], SX.Ent.blk g4 26 #[.slice none 0 0]])) ?_ ?_
          · skip
            refine Z.cond rfl (fun hc23 => ?_) (fun hc23 => ?_)
            · first
                | (exfalso; simp at hc23 <;> omega)
                | (
                  (try simp at hc23)
                  rw [if_pos (by assumption)] at hacc
                  refine Z.region ?_
                  refine Z.lb 1 rfl ?_
                  refine Z.le rfl trivial ?_
                  refine Z.ZO.call rfl rfl (by rfl) rfl rfl Try.call33 rfl (mm_headI g7 _ sv acc 31 false _ (hs.lend (L1 := WrL _ _ _ _)) (by omega) (by omega)) ?_
                  rintro v24_1 w24_1 ⟨sv1, rfl, hz⟩
                  replace hs := hs.regain hz
                  refine Z.lnil ?_
                  refine Z.only [0, 1, 4, 5, 7] rfl ?_
                  refine Z.nthen ?_
                  exact Z.meet _ (by refine ⟨?_, ?_, ?_, ?_, ?_, trivial⟩ <;> (first | rfl | (refine Z.lookv rfl ?_; simp; done) | (refine Z.lookv rfl ?_; simp; omega))) (by rw [← hacc]; simpa using hs)
                  )
            · first
                | (exfalso; simp at hc23 <;> omega)
                | (
                  (try simp at hc23)
                  rw [if_neg (by simp_all)] at hacc
                  refine Z.skip ?_
                  refine Z.nthen ?_
                  exact Z.meet _ (by refine ⟨?_, ?_, ?_, ?_, ?_, trivial⟩ <;> (first | rfl | (refine Z.lookv rfl ?_; simp; done) | (refine Z.lookv rfl ?_; simp; omega))) (by rw [← hacc]; simpa using hs)
                  )
          · clear hs
            rintro sv w23 hs
            refine Z.only [0, 1, 4, 5, 7] rfl ?_
            refine Z.seq ?_
            refine Z.seq ?_
            refine Z.region ?_
            refine Z.lb 1 rfl ?_
            refine Z.l rfl rfl (by rfl) (Z.keepS hs) (Z.Yd.lenS rfl Try.underlying22) ?_
            refine Z.lb 1 rfl ?_
            refine Z.lnil ?_
            refine Z.only [0, 4, 5, 7, 93, 94, 95] rfl ?_
            refine Z.nthen ?_
            refine Z.block ?_
            refine Z.loopk (ι := Nat × Value) [0, 4, 5, 7, 93, 94] rfl (fun x => [(95, [], .int .i64 (x.1 : Int))]) (fun x wr => x.1 ≤ k ∧ SX.St w [] wr (WrL g7 67 x.2 (unb (H ++ datR ((ps.map MpV.plain).take x.1))) ++ [SX.Ent.blk g5 27 #[.int .i64 0], SX.Ent.blk g4 26 #[.slice none 0 0]])) (fun x => k - x.1) (0, sv) (by refine ⟨?_, trivial⟩ <;> (first | rfl | (refine Z.lookv rfl ?_; simp; done) | (refine Z.lookv rfl ?_; simp; omega))) ⟨Nat.zero_le _, by simpa [datR] using hs⟩ ?_
            clear hs
            rintro ⟨i, sv⟩ w26 ⟨hi, hs⟩
            refine Z.only [0, 4, 5, 7, 93, 94, 95] rfl ?_
            (try dsimp only at hs)
            dsimp only at hi hs
            refine Z.seq ?_
            refine Z.region ?_
            refine Z.lb 1 rfl ?_
            refine Z.lnil ?_
            refine Z.only [0, 4, 5, 7, 93, 94, 95, 96] rfl ?_
            refine Z.nthen ?_
            refine Z.seq ?_
            refine Z.cond rfl (fun hc26 => ?_) (fun hc26 => ?_)
            · first
                | (exfalso; simp at hc26 <;> omega)
                | (
                  (try simp at hc26)
                  obtain ⟨b, off, rfl, hb0, hx2⟩ := Z.Sl.some hx (by rw [fl_len mp_len]; omega)
                  obtain ⟨q, hqi⟩ : ∃ q, ps[i]? = some q := ⟨_, List.getElem?_eq_getElem (by omega)⟩
                  have hqm := List.mem_of_getElem? hqi
                  have hone := mp_one q
                  have hql := (hmem q.plain (List.mem_map_of_mem hqm)).2
                  rw [show q.plain.2 = q.l from rfl] at hql
                  have htl := datR_take (ps.map MpV.plain) i
                  refine Z.skip ?_
                  refine Z.nthen ?_
                  refine Z.seq ?_
                  refine Z.block ?_
                  refine Z.seq ?_
                  refine Z.region ?_
                  refine Z.l rfl rfl (by rfl) (Z.keepS hs) (Z.Yd.elem rfl rfl Try.underlying22 Try.sizeOf47 (fun hG => ⟨(by first | omega | (have hG' := Z.gh rfl hG; simp at hG'; omega)), (by first | omega | (have hG' := Z.gh rfl hG; simp at hG'; omega))⟩)) ?_
                  refine Z.l rfl rfl (by rfl) (Z.keepS hs) (Z.Yd.loadA _ rfl Try.isAgg47 (fun _ W hK j u hu => Z.cellXq (enc := MpV.cells) hx2.sx mp_len hqi hu W hK) (by exact Try.sizeOf47)) ?_
                  refine Z.le rfl trivial ?_
                  refine Z.ZO.alloc rfl rfl (by rfl) Try.zeroValue47 rfl hs ?_
                  clear hs; intro g16 w16 hs
                  refine Z.le rfl trivial ?_
                  first | refine Z.ZO.storeA rfl rfl hs rfl rfl (by kernel_rfl) (by first | (simp [Value.oneCell']; done) | (refine Z.all_one ?_; assumption)) (by first | exact SX.at0 | exact SX.at1 | exact SX.at2 | exact SX.at3 | exact SX.at4 | exact SX.at5 | exact Z.at6 | exact Z.at7 | exact Z.at8 | exact Z.at9 | exact Z.at10 | exact Z.at11 | exact Z.at12) (by rfl) ?_ | refine Z.ZO.storeP rfl rfl hs rfl rfl (by kernel_rfl) (by first | (simp [Value.oneCell']; done) | (refine Z.all_one ?_; assumption)) (by first | exact SX.at0 | exact SX.at1 | exact SX.at2 | exact SX.at3 | exact SX.at4 | exact SX.at5 | exact Z.at6 | exact Z.at7 | exact Z.at8 | exact Z.at9 | exact Z.at10 | exact Z.at11 | exact Z.at12) (by first | decide | (simp; done) | (simp; omega)) ?_ | refine Z.ZO.storePR rfl rfl hs rfl rfl (by kernel_rfl) (by first | (simp [Value.oneCell']; done) | (refine Z.all_one ?_; assumption)) (by first | exact SX.at0 | exact SX.at1 | exact SX.at2 | exact SX.at3 | exact SX.at4 | exact SX.at5 | exact Z.at6 | exact Z.at7 | exact Z.at8 | exact Z.at9 | exact Z.at10 | exact Z.at11 | exact Z.at12) (by first | decide | (simp; done) | (simp; omega)) ?_
                  clear hs; intro ws hs
                  simp only [Nat.zero_add, Nat.add_zero, Nat.reduceAdd, Int.reduceToNat, Nat.reduceMul, List.set_cons_zero, List.set_cons_succ, List.setIfInBounds_toArray] at hs
                  try simp only [Z.putL, Nat.zero_add] at hs
                  refine Z.lnil ?_
                  refine Z.only [0, 4, 5, 7, 16, 93, 94, 95] rfl ?_
                  refine Z.nthen ?_
                  refine Z.region ?_
                  refine Z.l rfl rfl (by rfl) (Z.keepS hs) (Z.Yd.fieldA (m := 1) rfl (by kernel_rfl)) ?_
                  refine Z.l rfl rfl (by rfl) (Z.keepS hs) (Z.Yd.load rfl Try.isAgg26 (fun _ => Z.cellB (cs := q.cells.toArray) (by first | ((repeat (first | exact List.mem_cons_self | refine List.mem_cons_of_mem _ ?_ | refine List.mem_append_right _ ?_)); done) | fail) rfl)) ?_
                  replace hs : SX.St w [] _ (WrL g7 67 sv _ ++ [_, _, _]) := hs.rot (L1 := [_])
                  refine Z.le rfl trivial ?_
                  refine Z.ZO.call rfl rfl (by rfl) rfl rfl Try.call37 rfl (wputbytes_any g7 _ sv _ q.B _ q.c q.l _ (hs.lend (L1 := WrL _ _ _ _)) ((hB q hqm).sx.lent (L1 := WrL _ _ _ _) hs) rfl (by omega) (by rw [unb_length, List.length_append]; omega) (hby q hqm)) ?_
                  rintro v28_2 w28_2 ⟨sv1, rfl, hz⟩
                  replace hs := hs.regain hz
                  refine Z.lnil ?_
                  refine Z.only [0, 4, 5, 7, 93, 94, 95] rfl ?_
                  refine Z.nblock ?_
                  refine Z.nthen ?_
                  refine Z.region ?_
                  refine Z.l rfl rfl (by rfl) (Z.keepS hs) (Z.Yd.add rfl rfl (fun hG => Z.wi64 (by first | omega | (have hG' := Z.gh rfl hG; simp at hG'; omega)))) ?_
                  refine Z.lb 1 rfl ?_
                  refine Z.lnil ?_
                  refine Z.only [0, 4, 5, 7, 93, 94, 95] rfl ?_
                  refine Z.nthen ?_
                  have ed : unb (H ++ datR ((ps.map MpV.plain).take i)) ++ unb q.l = unb (H ++ datR ((ps.map MpV.plain).take (i + 1))) := by
                    rw [plain_take hqi, datR_snoc, ← unb_app, List.append_assoc]
                    rfl
                  rw [ed] at hs
                  exact Z.again (i + 1, sv1) (by refine ⟨?_, ?_, ?_, ?_, ?_, ?_, ?_, trivial⟩ <;> (first | rfl | (refine Z.lookv rfl ?_; simp; done) | (refine Z.lookv rfl ?_; simp; omega))) ⟨by simp only; omega, hs.sel [0, 1, 2, 3] (by decide)⟩ (by simp only; omega)
                  )
            · first
                | (exfalso; simp at hc26 <;> omega)
                | (
                  (try simp at hc26)
                  refine Z.exit ?_
                  refine Z.xthen ?_
                  refine Z.xthen ?_
                  refine Z.xblock ?_
                  refine Z.nthen ?_
                  refine Z.seq ?_
                  refine Z.region ?_
                  obtain rfl : i = k := by omega
                  rw [List.take_of_length_le (by simp; omega)] at hs
                  refine Z.le rfl trivial ?_
                  refine Z.ZO.call rfl rfl (by rfl) rfl rfl Try.call38 rfl (wbytes_any g7 _ sv _ _ (hs.lend (L1 := WrL _ _ _ _)) (by rw [unb_length, List.length_append]; omega)) ?_
                  rintro v30_0 w30_0 hz
                  replace hs := hs.regain hz
                  rw [pk_unb hHb] at hs
                  obtain ⟨Ao, co, rfl, hco, -, -⟩ := SX.row_slv hs (j := 0) rfl
                  simp only [WrL, List.cons_append, List.nil_append] at hs
                  refine Z.le rfl trivial ?_
                  first | refine Z.ZO.store rfl rfl hs Try.sizeOf26 rfl rfl rfl (by first | exact SX.at0 | exact SX.at1 | exact SX.at2 | exact SX.at3 | exact SX.at4 | exact SX.at5 | exact Z.at6 | exact Z.at7 | exact Z.at8 | exact Z.at9 | exact Z.at10 | exact Z.at11 | exact Z.at12) (by first | (simp; done) | (simp; omega)) ?_ | refine Z.ZO.storeR rfl rfl hs Try.sizeOf26 rfl rfl rfl (by first | exact SX.at0 | exact SX.at1 | exact SX.at2 | exact SX.at3 | exact SX.at4 | exact SX.at5 | exact Z.at6 | exact Z.at7 | exact Z.at8 | exact Z.at9 | exact Z.at10 | exact Z.at11 | exact Z.at12) (by first | omega | (simp [ints_length]; done) | (simp [ints_length]; omega)) ?_
                  clear hs; intro ws hs
                  simp only [Nat.zero_add, Nat.add_zero, Nat.reduceAdd, Int.reduceToNat, Nat.reduceMul, List.set_cons_zero, List.set_cons_succ, List.setIfInBounds_toArray] at hs
                  refine Z.lnil ?_
                  refine Z.only [0, 4, 5] rfl ?_
                  refine Z.nthen ?_
                  refine Z.seq ?_
                  refine Z.region ?_
                  refine Z.l rfl rfl (by rfl) (Z.keepS hs) (by first | exact Z.Yd.load rfl Try.isAgg26 (fun _ => Z.cellB (by first | ((repeat (first | exact List.mem_cons_self | refine List.mem_cons_of_mem _ ?_ | refine List.mem_append_right _ ?_)); done) | fail) rfl) | exact Z.Yd.load rfl Try.isAgg26 (fun _ => Z.cellO (by assumption) (by simp) (by assumption)) | fail "load 31.0") ?_
                  refine Z.lb 1 rfl ?_
                  refine Z.l rfl rfl (by rfl) (Z.keepS hs) (by first | exact Z.Yd.load rfl Try.isAgg26 (fun _ => Z.cellB (by first | ((repeat (first | exact List.mem_cons_self | refine List.mem_cons_of_mem _ ?_ | refine List.mem_append_right _ ?_)); done) | fail) rfl) | exact Z.Yd.load rfl Try.isAgg26 (fun _ => Z.cellO (by assumption) (by simp) (by assumption)) | fail "load 31.2") ?_
                  refine Z.l rfl rfl (by rfl) (Z.keepS hs) (Z.Yd.lenS rfl Try.underlying26) ?_
                  refine Z.l rfl rfl (by rfl) (Z.keepS hs) (Z.Yd.sub rfl rfl (fun hG => Z.wi64 (by first | omega | (have hG' := Z.gh rfl hG; simp at hG'; omega)))) ?_
                  refine Z.le rfl trivial ?_
                  refine Z.ZO.appendZ (m := M) (i0 := Try.t5) rfl rfl (by rfl) hs Try.underlying26 Try.underlying3 (by kernel_rfl) rfl rfl rfl rfl rfl rfl rfl (by first | exact SX.at0 | exact SX.at1 | exact SX.at2 | exact SX.at3 | exact SX.at4 | exact SX.at5 | exact Z.at6 | exact Z.at7 | exact Z.at8 | exact Z.at9 | exact Z.at10 | exact Z.at11 | exact Z.at12) (by omega) (by omega) ?_
                  clear hs; intro v109 w109 hs
                  simp only [List.set_cons_zero, List.set_cons_succ] at hs
                  obtain ⟨Av, cv, rfl, -, -, -⟩ := SX.row_slv hs (j := 0) rfl
                  refine Z.le rfl trivial ?_
                  first | refine Z.ZO.store rfl rfl hs Try.sizeOf26 rfl rfl rfl (by first | exact SX.at0 | exact SX.at1 | exact SX.at2 | exact SX.at3 | exact SX.at4 | exact SX.at5 | exact Z.at6 | exact Z.at7 | exact Z.at8 | exact Z.at9 | exact Z.at10 | exact Z.at11 | exact Z.at12) (by first | (simp; done) | (simp; omega)) ?_ | refine Z.ZO.storeR rfl rfl hs Try.sizeOf26 rfl rfl rfl (by first | exact SX.at0 | exact SX.at1 | exact SX.at2 | exact SX.at3 | exact SX.at4 | exact SX.at5 | exact Z.at6 | exact Z.at7 | exact Z.at8 | exact Z.at9 | exact Z.at10 | exact Z.at11 | exact Z.at12) (by first | omega | (simp [ints_length]; done) | (simp [ints_length]; omega)) ?_
                  clear hs; intro ws hs
                  simp only [Nat.zero_add, Nat.add_zero, Nat.reduceAdd, Int.reduceToNat, Nat.reduceMul, List.set_cons_zero, List.set_cons_succ, List.setIfInBounds_toArray] at hs
                  refine Z.le rfl trivial ?_
                  first | refine Z.ZO.store rfl rfl hs Try.sizeOf27 rfl rfl rfl (by first | exact SX.at0 | exact SX.at1 | exact SX.at2 | exact SX.at3 | exact SX.at4 | exact SX.at5 | exact Z.at6 | exact Z.at7 | exact Z.at8 | exact Z.at9 | exact Z.at10 | exact Z.at11 | exact Z.at12) (by first | (simp; done) | (simp; omega)) ?_ | refine Z.ZO.storeR rfl rfl hs Try.sizeOf27 rfl rfl rfl (by first | exact SX.at0 | exact SX.at1 | exact SX.at2 | exact SX.at3 | exact SX.at4 | exact SX.at5 | exact Z.at6 | exact Z.at7 | exact Z.at8 | exact Z.at9 | exact Z.at10 | exact Z.at11 | exact Z.at12) (by first | omega | (simp [ints_length]; done) | (simp [ints_length]; omega)) ?_
                  clear hs; intro ws hs
                  simp only [Nat.zero_add, Nat.add_zero, Nat.reduceAdd, Int.reduceToNat, Nat.reduceMul, List.set_cons_zero, List.set_cons_succ, List.setIfInBounds_toArray] at hs
                  refine Z.lnil ?_
                  refine Z.only [4, 5] rfl ?_
                  refine Z.nthen ?_
                  refine Z.ret ?_
                  -- ret#0
                  refine Z.outDr Try.call29 (mm_caught_ret g5 _ _ _) ?_
                  rintro vD wD ⟨rfl, hy⟩
                  replace hs := hs.call hy
                  refine ⟨[_, _], (by exact ⟨⟨_, rfl, Z.rvc hs Try.isAgg26 (by first | ((repeat (first | exact List.mem_cons_self | refine List.mem_cons_of_mem _ ?_ | refine List.mem_append_right _ ?_)); done) | fail) rfl⟩, ⟨_, rfl, Z.rvc hs Try.isAgg27 (by first | ((repeat (first | exact List.mem_cons_self | refine List.mem_cons_of_mem _ ?_ | refine List.mem_append_right _ ?_)); done) | fail) rfl⟩, trivial⟩), ?_⟩
                  exact ⟨_, rfl, _, rfl, hs.sub ((List.nil_sublist _).cons_cons _)⟩
                  )
          )
theorem mc_Build (size : Int) (A : Option Addr) (n c : Nat) (ps : List MpV) (w : World) (hx : Sl w A (ps.flatMap MpV.cells)) (hl : ps.length = n) (hn : n ≤ 100) (hf : ∀ q ∈ ps, q.l.length ≤ 100000) (hB : ∀ q ∈ ps, Sl w q.B (ints .u8 q.l)) (hby : ∀ q ∈ ps, ∀ x ∈ q.l, 0 ≤ x ∧ x < 256) :
    Calls Try.prog 12 #[.int .i64 size, .slice A n c] w (SX.Ret fun v w' => ∃ sv, v = .tuple #[sv, .int .i64 (bldV size (ps.map MpV.plain)).2] ∧ SX.St w [] w' [SX.Ent.row sv 5 1 (bldV size (ps.map MpV.plain)).1.length (ints .u8 (bldV size (ps.map MpV.plain)).1)]) := by
  have nilr : ∀ (e : Int) (w' : World), SX.St w [] w' [] → ∃ sv, (Value.tuple #[.slice none 0 0, .int .i64 e]) = .tuple #[sv, .int .i64 (([], e) : List Int × Int).2] ∧ SX.St w [] w' [SX.Ent.row sv 5 1 (([], e) : List Int × Int).1.length (ints .u8 (([], e) : List Int × Int).1)] := fun e w' h => ⟨_, rfl, h.nil _ 1⟩
  by_cases h : 1 ≤ size ∧ size ≤ 16384
  · by_cases hno : okN (ps.map MpV.plain)
    · by_cases hd : size - needP (ps.map MpV.plain) < 0
      · rw [bld_long ⟨h, hno⟩ hd]
        refine (mb_long size A n c ps w hx hl hn hf h hno hd).mono ?_
        rintro e w' ⟨v, rfl, rfl, hs⟩
        exact ⟨_, rfl, nilr 4 w' hs⟩
      · obtain ⟨d, hd1⟩ : ∃ d : Nat, size - needP (ps.map MpV.plain) = (d : Int) := ⟨(size - needP (ps.map MpV.plain)).toNat, by omega⟩
        by_cases h2 : d ≤ 2
        · rw [bld_few ⟨h, hno⟩ hd1 h2]
          have hlen := headB_len_f (ps.map MpV.plain) d hno.1
          refine (mb_main size A n c ps w hx hl hn hf hB hby h hno d d 0 false hd1 (by simp; omega) (fun h => by cases h) (fun _ => rfl) (by omega)).mono ?_
          rintro e w' ⟨v, rfl, sv, rfl, hs⟩
          refine ⟨_, rfl, sv, rfl, ?_⟩
          rw [List.replicate_zero, List.append_nil, Nat.add_zero] at hs
          simp only [join_few]
          exact hs
        · have hlen := headB_len_t (ps.map MpV.plain)
          have hnt := need_tot (ps.map MpV.plain)
          rw [bld_pad ⟨h, hno⟩ (by omega)]
          obtain ⟨a, ha⟩ : ∃ a : Nat, size - (totP (ps.map MpV.plain) + 1) = (a : Int) := ⟨(size - (totP (ps.map MpV.plain) + 1)).toNat, by omega⟩
          rw [ha]
          refine (mb_main size A n c ps w hx hl hn hf hB hby h hno d 0 a true hd1 (by simp; omega) (fun _ => rfl) (fun h => by cases h) (by omega)).mono ?_
          rintro e w' ⟨v, rfl, sv, rfl, hs⟩
          refine ⟨_, rfl, sv, rfl, ?_⟩
          simp only [join_tr]
          have e1 : (headB (ps.map MpV.plain) 0 true ++ datR (ps.map MpV.plain) ++ List.replicate a (0 : Int)).length = (headB (ps.map MpV.plain) 0 true ++ datR (ps.map MpV.plain)).length + a := by rw [List.length_append, List.length_replicate]
          have e2 : ints .u8 (headB (ps.map MpV.plain) 0 true ++ datR (ps.map MpV.plain) ++ List.replicate a (0 : Int)) = ints .u8 (headB (ps.map MpV.plain) 0 true ++ datR (ps.map MpV.plain)) ++ List.replicate a (Value.int .u8 0) := by simp [ints]
          rw [e1, e2]
          exact hs
    · rw [bld_arg (fun h => hno h.2)]
      refine (mb_need size A n c ps w hx hl hn hf h hno).mono ?_
      rintro e w' ⟨v, rfl, rfl, hs⟩
      exact ⟨_, rfl, nilr 2 w' hs⟩
  · rw [bld_arg (fun hh => h hh.1)]
    refine (mb_size size A n c w h).mono ?_
    rintro e w' ⟨v, rfl, rfl, hs⟩
    exact ⟨_, rfl, nilr 2 w' hs⟩
end Go.Proofs.Ytogjkgoiofngaaa

/- MAC PDUs: the examples hold. -/
namespace Go.Proofs.Ytogjkgoiofngaaa
open Go.RowKit
set_option linter.unusedSimpArgs false
set_option linter.unusedVariables false
--newlaws

def exA (B : Option Addr) : MpV := ⟨29, B, 1, [7]⟩
def exS (B : Option Addr) : MpV := ⟨3, B, 2, [1, 2]⟩
theorem ex_pl {B C : Option Addr} : [exA B, exS C].map MpV.plain = [(29, [7]), (3, [1, 2])] := rfl
theorem ex_lp {B C : Option Addr} : [exS C, exA B].map MpV.plain = [(3, [1, 2]), (29, [7])] := rfl
theorem ex_f {B C : Option Addr} : ∀ q ∈ [exA B, exS C], q.l.length ≤ 100000 := by
  intro q hq
  simp only [List.mem_cons, List.mem_nil_iff, or_false] at hq
  rcases hq with rfl | rfl <;> simp [exA, exS]
theorem ex_fr {B C : Option Addr} : ∀ q ∈ [exS C, exA B], q.l.length ≤ 100000 := by
  intro q hq
  simp only [List.mem_cons, List.mem_nil_iff, or_false] at hq
  rcases hq with rfl | rfl <;> simp [exA, exS]
theorem ex_by {B C : Option Addr} : ∀ q ∈ [exA B, exS C], ∀ x ∈ q.l, 0 ≤ x ∧ x < 256 := by
  intro q hq
  simp only [List.mem_cons, List.mem_nil_iff, or_false] at hq
  rcases hq with rfl | rfl <;> simp [exA, exS]
theorem ex_sl {w : World} {B C : Option Addr} (h1 : Sl w B (ints .u8 [7])) (h2 : Sl w C (ints .u8 [1, 2])) : ∀ q ∈ [exA B, exS C], Sl w q.B (ints .u8 q.l) := by
  intro q hq
  simp only [List.mem_cons, List.mem_nil_iff, or_false] at hq
  rcases hq with rfl | rfl
  · exact h1
  · exact h2
theorem by23 {l : List Int} (h : l.all (fun x => decide (0 ≤ x ∧ x < 256)) = true) : ∀ x ∈ l, 0 ≤ x ∧ x < 256 := fun x hx => by simpa using List.all_eq_true.1 h x hx
theorem sl_nil23 {w : World} {A : Option Addr} : Sl w A [] := fun h => absurd h (by decide)
theorem cellsQ_fst (qs : List (MpV × Nat)) : cellsQ qs = (qs.map Prod.fst).flatMap MpV.cells := by simp [cellsQ, List.flatMap_map]
theorem plainQ_fst (qs : List (MpV × Nat)) : (qs.map Prod.fst).map MpV.plain = plainQ qs := by simp [plainQ]
theorem rowsQ_sl {w0 w : World} {M : List Nat} {L : List SX.Ent} {qs : List (MpV × Nat)} (hs : SX.St w0 M w L) (h : ∀ e ∈ rowsQ qs, e ∈ L) : ∀ q ∈ qs.map Prod.fst, Sl w q.B (ints .u8 q.l) := by
  intro q hq
  obtain ⟨x, hx, rfl⟩ := List.mem_map.1 hq
  exact hs.slm (h _ (List.mem_map_of_mem hx))
theorem plain_by {qs : List (MpV × Nat)} {r : List Prt} (h : plainQ qs = r) (hr : ∀ p ∈ r, ∀ x ∈ p.2, 0 ≤ x ∧ x < 256) : ∀ q ∈ qs.map Prod.fst, ∀ x ∈ q.l, 0 ≤ x ∧ x < 256 := by
  intro q hq
  refine hr q.plain ?_
  rw [← h, ← plainQ_fst]
  exact List.mem_map_of_mem hq
set_option maxHeartbeats 4000000 in
set_option maxRecDepth 100000 in
theorem works23 (w : World) : Calls Try.prog 10 #[] w (SX.Ret fun v w' => v = .bool true ∧ SX.St w [] w' []) := by
  have hs := SX.St.start w
  have n1 : needV [(29, [7]), (3, [1, 2])] = (5, 0) := by decide +kernel
  have n2 : needV [(3, [1, 2]), (29, [7])] = (0, 2) := by decide +kernel
  have n3 : needV (([] : List MpV).map MpV.plain) = (0, 2) := by decide +kernel
  have b5 : bldV 5 [(29, [7]), (3, [1, 2])] = ([61, 3, 7, 1, 2], 0) := by decide +kernel
  have b6 : bldV 6 [(29, [7]), (3, [1, 2])] = ([63, 61, 3, 7, 1, 2], 0) := by decide +kernel
  have b9 : bldV 9 [(29, [7]), (3, [1, 2])] = ([61, 35, 2, 31, 7, 1, 2, 0, 0], 0) := by decide +kernel
  have b4 : bldV 4 [(29, [7]), (3, [1, 2])] = ([], 4) := by decide +kernel
  have f10 : fitV 10 [(29, [7]), (3, [1, 2])] = (3, 0) := by decide +kernel
  have f5 : fitV 5 [(29, [7]), (3, [1, 2])] = (0, 0) := by decide +kernel
  have c30 : ctlN 30 = 3 := by decide +kernel
  have p1 : parV [63, 61, 3, 7, 1, 2] = (0, [(29, [7]), (3, [1, 2])]) := by decide +kernel
  have p2 : parV [3] = (9, []) := by decide +kernel
  have p3 : parV [131, 1] = (9, []) := by decide +kernel
  have p4 : parV [31, 0] = (9, []) := by decide +kernel
  have p5 : parV [12, 1] = (9, []) := by decide +kernel
  refine Z.enter Try.func10 rfl Try.ntmps10 rfl rfl ?_
  refine Z.seq ?_
  refine Z.region ?_
  refine Z.lb 1 rfl ?_
  refine Z.lnil ?_
  refine Z.only [] rfl ?_
  refine Z.nthen ?_
  refine Z.seq ?_
  refine Z.region ?_
  refine Z.le rfl trivial ?_
  refine Z.ZO.litL (T' := 5) [(0, 1)] [.int .u8 0] rfl rfl (by rfl) rfl rfl (by intro W; kernel_rfl) hs ?_
  clear hs; intro g25 w25 hs
  refine Z.l rfl rfl (by rfl) (Z.keepS hs) (Z.Yd.buildL [(0, 1), (1, 1)] [.int .i64 0, .slice none 0 0] rfl rfl (by intro w; kernel_rfl)) ?_
  refine Z.le rfl trivial ?_
  refine Z.ZO.litL (T' := 5) [(0, 1), (1, 1)] [.int .u8 0, .int .u8 0] rfl rfl (by rfl) rfl rfl (by intro W; kernel_rfl) hs ?_
  clear hs; intro g27 w27 hs
  refine Z.l rfl rfl (by rfl) (Z.keepS hs) (Z.Yd.buildL [(0, 1), (1, 1)] [.int .i64 0, .slice none 0 0] rfl rfl (by intro w; kernel_rfl)) ?_
  refine Z.le rfl trivial ?_
  refine Z.ZO.alloc rfl rfl (by rfl) Try.zeroValue47 rfl hs ?_
  clear hs; intro g1 w1 hs
  refine Z.le rfl trivial ?_
  refine Z.ZO.alloc rfl rfl (by rfl) Try.zeroValue47 rfl hs ?_
  clear hs; intro g2 w2 hs
  refine Z.le rfl trivial ?_
  first | refine Z.ZO.storeA rfl rfl hs rfl rfl (by kernel_rfl) (by first | (simp [Value.oneCell']; done) | (refine Z.all_one ?_; assumption)) (by first | exact SX.at0 | exact SX.at1 | exact SX.at2 | exact SX.at3 | exact SX.at4 | exact SX.at5 | exact Z.at6 | exact Z.at7 | exact Z.at8 | exact Z.at9 | exact Z.at10 | exact Z.at11 | exact Z.at12) (by rfl) ?_ | refine Z.ZO.storeP rfl rfl hs rfl rfl (by kernel_rfl) (by first | (simp [Value.oneCell']; done) | (refine Z.all_one ?_; assumption)) (by first | exact SX.at0 | exact SX.at1 | exact SX.at2 | exact SX.at3 | exact SX.at4 | exact SX.at5 | exact Z.at6 | exact Z.at7 | exact Z.at8 | exact Z.at9 | exact Z.at10 | exact Z.at11 | exact Z.at12) (by first | decide | (simp; done) | (simp; omega)) ?_ | refine Z.ZO.storePR rfl rfl hs rfl rfl (by kernel_rfl) (by first | (simp [Value.oneCell']; done) | (refine Z.all_one ?_; assumption)) (by first | exact SX.at0 | exact SX.at1 | exact SX.at2 | exact SX.at3 | exact SX.at4 | exact SX.at5 | exact Z.at6 | exact Z.at7 | exact Z.at8 | exact Z.at9 | exact Z.at10 | exact Z.at11 | exact Z.at12) (by first | decide | (simp; done) | (simp; omega)) ?_
  clear hs; intro ws hs
  simp only [Nat.zero_add, Nat.add_zero, Nat.reduceAdd, Int.reduceToNat, Nat.reduceMul, List.set_cons_zero, List.set_cons_succ, List.setIfInBounds_toArray] at hs
  try simp only [Z.putL, Nat.zero_add] at hs
  refine Z.le rfl trivial ?_
  first | refine Z.ZO.storeA rfl rfl hs rfl rfl (by kernel_rfl) (by first | (simp [Value.oneCell']; done) | (refine Z.all_one ?_; assumption)) (by first | exact SX.at0 | exact SX.at1 | exact SX.at2 | exact SX.at3 | exact SX.at4 | exact SX.at5 | exact Z.at6 | exact Z.at7 | exact Z.at8 | exact Z.at9 | exact Z.at10 | exact Z.at11 | exact Z.at12) (by rfl) ?_ | refine Z.ZO.storeP rfl rfl hs rfl rfl (by kernel_rfl) (by first | (simp [Value.oneCell']; done) | (refine Z.all_one ?_; assumption)) (by first | exact SX.at0 | exact SX.at1 | exact SX.at2 | exact SX.at3 | exact SX.at4 | exact SX.at5 | exact Z.at6 | exact Z.at7 | exact Z.at8 | exact Z.at9 | exact Z.at10 | exact Z.at11 | exact Z.at12) (by first | decide | (simp; done) | (simp; omega)) ?_ | refine Z.ZO.storePR rfl rfl hs rfl rfl (by kernel_rfl) (by first | (simp [Value.oneCell']; done) | (refine Z.all_one ?_; assumption)) (by first | exact SX.at0 | exact SX.at1 | exact SX.at2 | exact SX.at3 | exact SX.at4 | exact SX.at5 | exact Z.at6 | exact Z.at7 | exact Z.at8 | exact Z.at9 | exact Z.at10 | exact Z.at11 | exact Z.at12) (by first | decide | (simp; done) | (simp; omega)) ?_
  clear hs; intro ws hs
  simp only [Nat.zero_add, Nat.add_zero, Nat.reduceAdd, Int.reduceToNat, Nat.reduceMul, List.set_cons_zero, List.set_cons_succ, List.setIfInBounds_toArray] at hs
  try simp only [Z.putL, Nat.zero_add] at hs
  refine Z.lnil ?_
  refine Z.only [1, 2] rfl ?_
  refine Z.nthen ?_
  refine Z.seq ?_
  refine Z.region ?_
  refine Z.l rfl rfl (by rfl) (Z.keepS hs) (by first | exact Z.Yd.loadA _ rfl Try.isAgg47 (fun _ => Z.cellsB (by first | ((repeat (first | exact List.mem_cons_self | refine List.mem_cons_of_mem _ ?_ | refine List.mem_append_right _ ?_)); done) | fail)) (by exact Try.sizeOf47) | fail "load 2.0") ?_
  refine Z.l rfl rfl (by rfl) (Z.keepS hs) (by first | exact Z.Yd.loadA _ rfl Try.isAgg47 (fun _ => Z.cellsB (by first | ((repeat (first | exact List.mem_cons_self | refine List.mem_cons_of_mem _ ?_ | refine List.mem_append_right _ ?_)); done) | fail)) (by exact Try.sizeOf47) | fail "load 2.1") ?_
  refine Z.le rfl trivial ?_
  refine Z.ZO.litL (T' := 47) [(0, 2), (2, 2)] [.int .i64 0, .slice none 0 0, .int .i64 0, .slice none 0 0] rfl rfl (by rfl) rfl rfl (by intro W; kernel_rfl) hs ?_
  clear hs; intro g32 w32 hs
  refine Z.le rfl trivial ?_
  refine Z.ZO.call rfl rfl (by rfl) rfl rfl Try.call14 rfl (mc_Need (some ⟨g32, 0, none⟩) 2 2 [exA (some ⟨g25, 0, none⟩), exS (some ⟨g27, 0, none⟩)] _ (by have h0 := hs.blkSl (g := g32) (by first | ((repeat (first | exact List.mem_cons_self | refine List.mem_cons_of_mem _ ?_ | refine List.mem_append_right _ ?_)); done) | fail); exact h0) rfl (by decide) ex_f) ?_
  rintro v2_3 w2_3 ⟨rfl, hy⟩
  replace hs := hs.call hy
  clear hy
  try simp only [List.cons_append, List.nil_append, List.append_nil] at hs
  rw [ex_pl, n1]
  refine Z.lb 5 rfl ?_
  refine Z.lnil ?_
  refine Z.only [1, 2, 3, 4] rfl ?_
  refine Z.nthen ?_
  refine Z.seq ?_
  refine Z.region ?_
  refine Z.l rfl rfl (by rfl) (Z.keepS hs) (by first | exact Z.Yd.loadA _ rfl Try.isAgg47 (fun _ => Z.cellsB (by first | ((repeat (first | exact List.mem_cons_self | refine List.mem_cons_of_mem _ ?_ | refine List.mem_append_right _ ?_)); done) | fail)) (by exact Try.sizeOf47) | fail "load 3.0") ?_
  refine Z.l rfl rfl (by rfl) (Z.keepS hs) (by first | exact Z.Yd.loadA _ rfl Try.isAgg47 (fun _ => Z.cellsB (by first | ((repeat (first | exact List.mem_cons_self | refine List.mem_cons_of_mem _ ?_ | refine List.mem_append_right _ ?_)); done) | fail)) (by exact Try.sizeOf47) | fail "load 3.1") ?_
  refine Z.le rfl trivial ?_
  refine Z.ZO.litL (T' := 47) [(0, 2), (2, 2)] [.int .i64 0, .slice none 0 0, .int .i64 0, .slice none 0 0] rfl rfl (by rfl) rfl rfl (by intro W; kernel_rfl) hs ?_
  clear hs; intro g39 w39 hs
  refine Z.le rfl trivial ?_
  refine Z.ZO.call rfl rfl (by rfl) rfl rfl Try.call12 rfl (mc_Build 5 (some ⟨g39, 0, none⟩) 2 2 [exA (some ⟨g25, 0, none⟩), exS (some ⟨g27, 0, none⟩)] _ (by have h0 := hs.blkSl (g := g39) (by first | ((repeat (first | exact List.mem_cons_self | refine List.mem_cons_of_mem _ ?_ | refine List.mem_append_right _ ?_)); done) | fail); exact h0) rfl (by decide) ex_f (ex_sl (by have h0 := hs.blkSl (g := g25) (by first | ((repeat (first | exact List.mem_cons_self | refine List.mem_cons_of_mem _ ?_ | refine List.mem_append_right _ ?_)); done) | fail); exact h0) (by have h0 := hs.blkSl (g := g27) (by first | ((repeat (first | exact List.mem_cons_self | refine List.mem_cons_of_mem _ ?_ | refine List.mem_append_right _ ?_)); done) | fail); exact h0)) ex_by) ?_
  rintro v3_3 w3_3 ⟨sv3, rfl, hy⟩
  replace hs := hs.call hy
  clear hy
  try simp only [List.cons_append, List.nil_append, List.append_nil] at hs
  rw [ex_pl, b5]
  rw [ex_pl, b5] at hs
  obtain ⟨B3, c3, rfl, -, -, -⟩ := SX.row_slv hs (j := 0) rfl
  refine Z.lb 5 rfl ?_
  refine Z.lnil ?_
  refine Z.only [1, 2, 3, 4, 5, 6] rfl ?_
  refine Z.nthen ?_
  refine Z.seq ?_
  refine Z.region ?_
  refine Z.l rfl rfl (by rfl) (Z.keepS hs) (by first | exact Z.Yd.loadA _ rfl Try.isAgg47 (fun _ => Z.cellsB (by first | ((repeat (first | exact List.mem_cons_self | refine List.mem_cons_of_mem _ ?_ | refine List.mem_append_right _ ?_)); done) | fail)) (by exact Try.sizeOf47) | fail "load 4.0") ?_
  refine Z.l rfl rfl (by rfl) (Z.keepS hs) (by first | exact Z.Yd.loadA _ rfl Try.isAgg47 (fun _ => Z.cellsB (by first | ((repeat (first | exact List.mem_cons_self | refine List.mem_cons_of_mem _ ?_ | refine List.mem_append_right _ ?_)); done) | fail)) (by exact Try.sizeOf47) | fail "load 4.1") ?_
  refine Z.le rfl trivial ?_
  refine Z.ZO.litL (T' := 47) [(0, 2), (2, 2)] [.int .i64 0, .slice none 0 0, .int .i64 0, .slice none 0 0] rfl rfl (by rfl) rfl rfl (by intro W; kernel_rfl) hs ?_
  clear hs; intro g46 w46 hs
  refine Z.le rfl trivial ?_
  refine Z.ZO.call rfl rfl (by rfl) rfl rfl Try.call12 rfl (mc_Build 6 (some ⟨g46, 0, none⟩) 2 2 [exA (some ⟨g25, 0, none⟩), exS (some ⟨g27, 0, none⟩)] _ (by have h0 := hs.blkSl (g := g46) (by first | ((repeat (first | exact List.mem_cons_self | refine List.mem_cons_of_mem _ ?_ | refine List.mem_append_right _ ?_)); done) | fail); exact h0) rfl (by decide) ex_f (ex_sl (by have h0 := hs.blkSl (g := g25) (by first | ((repeat (first | exact List.mem_cons_self | refine List.mem_cons_of_mem _ ?_ | refine List.mem_append_right _ ?_)); done) | fail); exact h0) (by have h0 := hs.blkSl (g := g27) (by first | ((repeat (first | exact List.mem_cons_self | refine List.mem_cons_of_mem _ ?_ | refine List.mem_append_right _ ?_)); done) | fail); exact h0)) ex_by) ?_
  rintro v4_3 w4_3 ⟨sv4, rfl, hy⟩
  replace hs := hs.call hy
  clear hy
  try simp only [List.cons_append, List.nil_append, List.append_nil] at hs
  rw [ex_pl, b6]
  rw [ex_pl, b6] at hs
  obtain ⟨B4, c4, rfl, -, -, -⟩ := SX.row_slv hs (j := 0) rfl
  refine Z.lb 5 rfl ?_
  refine Z.lnil ?_
  refine Z.only [1, 2, 3, 4, 5, 6, 7, 8] rfl ?_
  refine Z.nthen ?_
  refine Z.seq ?_
  refine Z.region ?_
  refine Z.l rfl rfl (by rfl) (Z.keepS hs) (by first | exact Z.Yd.loadA _ rfl Try.isAgg47 (fun _ => Z.cellsB (by first | ((repeat (first | exact List.mem_cons_self | refine List.mem_cons_of_mem _ ?_ | refine List.mem_append_right _ ?_)); done) | fail)) (by exact Try.sizeOf47) | fail "load 5.0") ?_
  refine Z.l rfl rfl (by rfl) (Z.keepS hs) (by first | exact Z.Yd.loadA _ rfl Try.isAgg47 (fun _ => Z.cellsB (by first | ((repeat (first | exact List.mem_cons_self | refine List.mem_cons_of_mem _ ?_ | refine List.mem_append_right _ ?_)); done) | fail)) (by exact Try.sizeOf47) | fail "load 5.1") ?_
  refine Z.le rfl trivial ?_
  refine Z.ZO.litL (T' := 47) [(0, 2), (2, 2)] [.int .i64 0, .slice none 0 0, .int .i64 0, .slice none 0 0] rfl rfl (by rfl) rfl rfl (by intro W; kernel_rfl) hs ?_
  clear hs; intro g53 w53 hs
  refine Z.le rfl trivial ?_
  refine Z.ZO.call rfl rfl (by rfl) rfl rfl Try.call12 rfl (mc_Build 9 (some ⟨g53, 0, none⟩) 2 2 [exA (some ⟨g25, 0, none⟩), exS (some ⟨g27, 0, none⟩)] _ (by have h0 := hs.blkSl (g := g53) (by first | ((repeat (first | exact List.mem_cons_self | refine List.mem_cons_of_mem _ ?_ | refine List.mem_append_right _ ?_)); done) | fail); exact h0) rfl (by decide) ex_f (ex_sl (by have h0 := hs.blkSl (g := g25) (by first | ((repeat (first | exact List.mem_cons_self | refine List.mem_cons_of_mem _ ?_ | refine List.mem_append_right _ ?_)); done) | fail); exact h0) (by have h0 := hs.blkSl (g := g27) (by first | ((repeat (first | exact List.mem_cons_self | refine List.mem_cons_of_mem _ ?_ | refine List.mem_append_right _ ?_)); done) | fail); exact h0)) ex_by) ?_
  rintro v5_3 w5_3 ⟨sv5, rfl, hy⟩
  replace hs := hs.call hy
  clear hy
  try simp only [List.cons_append, List.nil_append, List.append_nil] at hs
  rw [ex_pl, b9]
  rw [ex_pl, b9] at hs
  obtain ⟨B5, c5, rfl, -, -, -⟩ := SX.row_slv hs (j := 0) rfl
  refine Z.lb 5 rfl ?_
  refine Z.lnil ?_
  refine Z.only [1, 2, 3, 4, 5, 6, 7, 8, 9, 10] rfl ?_
  refine Z.nthen ?_
  refine Z.seq ?_
  refine Z.seq ?_
  refine Z.region ?_
  refine Z.lb 2 rfl ?_
  refine Z.le rfl trivial ?_
  refine Z.ZO.call rfl rfl (by rfl) rfl rfl Try.call17 rfl (counts23 _ _ _ _ _) ?_
  rintro v6_2 w6_2 ⟨rfl, hy⟩
  replace hs := hs.call hy
  clear hy
  try simp only [List.cons_append, List.nil_append, List.append_nil] at hs
  refine Z.lb 2 rfl ?_
  refine Z.yes (s := 61) (b := false) rfl ((by simp)) rfl ?_
  refine Z.lb 2 rfl ?_
  refine Z.yes (s := 61) (b := false) rfl rfl rfl ?_
  refine Z.le rfl (by exact ⟨rfl, trivial⟩) ?_
  refine Z.ZO.call rfl rfl (by rfl) rfl rfl Try.call16 rfl (is23 _ _ B3 _ _ [61, 3, 7, 1, 2] _ _ (hs.slm (by first | ((repeat (first | exact List.mem_cons_self | refine List.mem_cons_of_mem _ ?_ | refine List.mem_append_right _ ?_)); done) | fail)) rfl) ?_
  rintro v6_7 w6_7 ⟨rfl, hy⟩
  replace hs := hs.call hy
  clear hy
  try simp only [List.cons_append, List.nil_append, List.append_nil] at hs
  refine Z.lb 1 rfl ?_
  refine Z.yes (s := 61) (b := false) rfl rfl rfl ?_
  refine Z.l rfl rfl (by rfl) (Z.keepS hs) (Z.Yd.pickF rfl rfl) ?_
  refine Z.lb 1 rfl ?_
  refine Z.yes (s := 67) (b := false) rfl ((by decide +kernel)) rfl ?_
  refine Z.lb 2 rfl ?_
  refine Z.yes (s := 67) (b := false) rfl rfl rfl ?_
  refine Z.le rfl (by exact ⟨rfl, trivial⟩) ?_
  refine Z.ZO.call rfl rfl (by rfl) rfl rfl Try.call16 rfl (is23 _ _ B4 _ _ [63, 61, 3, 7, 1, 2] _ _ (hs.slm (by first | ((repeat (first | exact List.mem_cons_self | refine List.mem_cons_of_mem _ ?_ | refine List.mem_append_right _ ?_)); done) | fail)) rfl) ?_
  rintro v6_13 w6_13 ⟨rfl, hy⟩
  replace hs := hs.call hy
  clear hy
  try simp only [List.cons_append, List.nil_append, List.append_nil] at hs
  refine Z.lb 1 rfl ?_
  refine Z.yes (s := 67) (b := false) rfl rfl rfl ?_
  refine Z.l rfl rfl (by rfl) (Z.keepS hs) (Z.Yd.pickF rfl rfl) ?_
  refine Z.lb 1 rfl ?_
  refine Z.yes (s := 73) (b := false) rfl ((by decide +kernel)) rfl ?_
  refine Z.lb 2 rfl ?_
  refine Z.yes (s := 73) (b := false) rfl rfl rfl ?_
  refine Z.le rfl (by exact ⟨rfl, trivial⟩) ?_
  refine Z.ZO.call rfl rfl (by rfl) rfl rfl Try.call16 rfl (is23 _ _ B5 _ _ [61, 35, 2, 31, 7, 1, 2, 0, 0] _ _ (hs.slm (by first | ((repeat (first | exact List.mem_cons_self | refine List.mem_cons_of_mem _ ?_ | refine List.mem_append_right _ ?_)); done) | fail)) rfl) ?_
  rintro v6_19 w6_19 ⟨rfl, hy⟩
  replace hs := hs.call hy
  clear hy
  try simp only [List.cons_append, List.nil_append, List.append_nil] at hs
  refine Z.lb 1 rfl ?_
  refine Z.yes (s := 73) (b := false) rfl rfl rfl ?_
  refine Z.l rfl rfl (by rfl) (Z.keepS hs) (Z.Yd.pickF rfl rfl) ?_
  refine Z.lnil ?_
  refine Z.only [1, 2, 7, 78] rfl ?_
  refine Z.nthen ?_
  refine Z.cond rfl (fun h => absurd h (by decide +kernel)) (fun hc6 => ?_)
  refine Z.skip ?_
  refine Z.nthen ?_
  refine Z.seq ?_
  refine Z.region ?_
  refine Z.l rfl rfl (by rfl) (Z.keepS hs) (by first | exact Z.Yd.loadA _ rfl Try.isAgg47 (fun _ => Z.cellsB (by first | ((repeat (first | exact List.mem_cons_self | refine List.mem_cons_of_mem _ ?_ | refine List.mem_append_right _ ?_)); done) | fail)) (by exact Try.sizeOf47) | fail "load 8.0") ?_
  refine Z.l rfl rfl (by rfl) (Z.keepS hs) (by first | exact Z.Yd.loadA _ rfl Try.isAgg47 (fun _ => Z.cellsB (by first | ((repeat (first | exact List.mem_cons_self | refine List.mem_cons_of_mem _ ?_ | refine List.mem_append_right _ ?_)); done) | fail)) (by exact Try.sizeOf47) | fail "load 8.1") ?_
  refine Z.le rfl trivial ?_
  refine Z.ZO.litL (T' := 47) [(0, 2), (2, 2)] [.int .i64 0, .slice none 0 0, .int .i64 0, .slice none 0 0] rfl rfl (by rfl) rfl rfl (by intro W; kernel_rfl) hs ?_
  clear hs; intro g82 w82 hs
  refine Z.le rfl trivial ?_
  refine Z.ZO.call rfl rfl (by rfl) rfl rfl Try.call14 rfl (mc_Need (some ⟨g82, 0, none⟩) 2 2 [exS (some ⟨g27, 0, none⟩), exA (some ⟨g25, 0, none⟩)] _ (by have h0 := hs.blkSl (g := g82) (by first | ((repeat (first | exact List.mem_cons_self | refine List.mem_cons_of_mem _ ?_ | refine List.mem_append_right _ ?_)); done) | fail); exact h0) rfl (by decide) ex_fr) ?_
  rintro v8_3 w8_3 ⟨rfl, hy⟩
  replace hs := hs.call hy
  clear hy
  try simp only [List.cons_append, List.nil_append, List.append_nil] at hs
  rw [ex_lp, n2]
  refine Z.lb 5 rfl ?_
  refine Z.lnil ?_
  refine Z.only [1, 2, 7, 11, 12] rfl ?_
  refine Z.nthen ?_
  refine Z.seq ?_
  refine Z.region ?_
  refine Z.le rfl trivial ?_
  refine Z.ZO.call rfl rfl (by rfl) rfl rfl Try.call14 rfl (mc_Need none 0 0 [] _ sl_nil23 rfl (by decide) (by simp)) ?_
  rintro v9_0 w9_0 ⟨rfl, hy⟩
  replace hs := hs.call hy
  clear hy
  try simp only [List.cons_append, List.nil_append, List.append_nil] at hs
  rw [n3]
  refine Z.lb 5 rfl ?_
  refine Z.lnil ?_
  refine Z.only [1, 2, 7, 11, 12, 13, 14] rfl ?_
  refine Z.nthen ?_
  refine Z.seq ?_
  refine Z.region ?_
  refine Z.l rfl rfl (by rfl) (Z.keepS hs) (by first | exact Z.Yd.loadA _ rfl Try.isAgg47 (fun _ => Z.cellsB (by first | ((repeat (first | exact List.mem_cons_self | refine List.mem_cons_of_mem _ ?_ | refine List.mem_append_right _ ?_)); done) | fail)) (by exact Try.sizeOf47) | fail "load 10.0") ?_
  refine Z.l rfl rfl (by rfl) (Z.keepS hs) (by first | exact Z.Yd.loadA _ rfl Try.isAgg47 (fun _ => Z.cellsB (by first | ((repeat (first | exact List.mem_cons_self | refine List.mem_cons_of_mem _ ?_ | refine List.mem_append_right _ ?_)); done) | fail)) (by exact Try.sizeOf47) | fail "load 10.1") ?_
  refine Z.le rfl trivial ?_
  refine Z.ZO.litL (T' := 47) [(0, 2), (2, 2)] [.int .i64 0, .slice none 0 0, .int .i64 0, .slice none 0 0] rfl rfl (by rfl) rfl rfl (by intro W; kernel_rfl) hs ?_
  clear hs; intro g93 w93 hs
  refine Z.le rfl trivial ?_
  refine Z.ZO.call rfl rfl (by rfl) rfl rfl Try.call12 rfl (mc_Build 4 (some ⟨g93, 0, none⟩) 2 2 [exA (some ⟨g25, 0, none⟩), exS (some ⟨g27, 0, none⟩)] _ (by have h0 := hs.blkSl (g := g93) (by first | ((repeat (first | exact List.mem_cons_self | refine List.mem_cons_of_mem _ ?_ | refine List.mem_append_right _ ?_)); done) | fail); exact h0) rfl (by decide) ex_f (ex_sl (by have h0 := hs.blkSl (g := g25) (by first | ((repeat (first | exact List.mem_cons_self | refine List.mem_cons_of_mem _ ?_ | refine List.mem_append_right _ ?_)); done) | fail); exact h0) (by have h0 := hs.blkSl (g := g27) (by first | ((repeat (first | exact List.mem_cons_self | refine List.mem_cons_of_mem _ ?_ | refine List.mem_append_right _ ?_)); done) | fail); exact h0)) ex_by) ?_
  rintro v10_3 w10_3 ⟨sv10, rfl, hy⟩
  replace hs := hs.call hy
  clear hy
  try simp only [List.cons_append, List.nil_append, List.append_nil] at hs
  rw [ex_pl, b4]
  rw [ex_pl, b4] at hs
  obtain ⟨B10, c10, rfl, -, -, -⟩ := SX.row_slv hs (j := 0) rfl
  refine Z.lb 5 rfl ?_
  refine Z.lnil ?_
  refine Z.only [1, 2, 7, 11, 12, 13, 14, 15, 16] rfl ?_
  refine Z.nthen ?_
  refine Z.seq ?_
  refine Z.region ?_
  refine Z.l rfl rfl (by rfl) (Z.keepS hs) (by first | exact Z.Yd.loadA _ rfl Try.isAgg47 (fun _ => Z.cellsB (by first | ((repeat (first | exact List.mem_cons_self | refine List.mem_cons_of_mem _ ?_ | refine List.mem_append_right _ ?_)); done) | fail)) (by exact Try.sizeOf47) | fail "load 11.0") ?_
  refine Z.l rfl rfl (by rfl) (Z.keepS hs) (by first | exact Z.Yd.loadA _ rfl Try.isAgg47 (fun _ => Z.cellsB (by first | ((repeat (first | exact List.mem_cons_self | refine List.mem_cons_of_mem _ ?_ | refine List.mem_append_right _ ?_)); done) | fail)) (by exact Try.sizeOf47) | fail "load 11.1") ?_
  refine Z.le rfl trivial ?_
  refine Z.ZO.litL (T' := 47) [(0, 2), (2, 2)] [.int .i64 0, .slice none 0 0, .int .i64 0, .slice none 0 0] rfl rfl (by rfl) rfl rfl (by intro W; kernel_rfl) hs ?_
  clear hs; intro g100 w100 hs
  refine Z.le rfl trivial ?_
  refine Z.ZO.call rfl rfl (by rfl) rfl rfl Try.call19 rfl (mc_Fit 10 (some ⟨g100, 0, none⟩) 2 2 [exA (some ⟨g25, 0, none⟩), exS (some ⟨g27, 0, none⟩)] _ (by have h0 := hs.blkSl (g := g100) (by first | ((repeat (first | exact List.mem_cons_self | refine List.mem_cons_of_mem _ ?_ | refine List.mem_append_right _ ?_)); done) | fail); exact h0) rfl (by decide) ex_f) ?_
  rintro v11_3 w11_3 ⟨rfl, hy⟩
  replace hs := hs.call hy
  clear hy
  try simp only [List.cons_append, List.nil_append, List.append_nil] at hs
  rw [ex_pl, f10]
  refine Z.lb 5 rfl ?_
  refine Z.lnil ?_
  refine Z.only [1, 2, 7, 11, 12, 13, 14, 15, 16, 17, 18] rfl ?_
  refine Z.nthen ?_
  refine Z.seq ?_
  refine Z.region ?_
  refine Z.l rfl rfl (by rfl) (Z.keepS hs) (by first | exact Z.Yd.loadA _ rfl Try.isAgg47 (fun _ => Z.cellsB (by first | ((repeat (first | exact List.mem_cons_self | refine List.mem_cons_of_mem _ ?_ | refine List.mem_append_right _ ?_)); done) | fail)) (by exact Try.sizeOf47) | fail "load 12.0") ?_
  refine Z.l rfl rfl (by rfl) (Z.keepS hs) (by first | exact Z.Yd.loadA _ rfl Try.isAgg47 (fun _ => Z.cellsB (by first | ((repeat (first | exact List.mem_cons_self | refine List.mem_cons_of_mem _ ?_ | refine List.mem_append_right _ ?_)); done) | fail)) (by exact Try.sizeOf47) | fail "load 12.1") ?_
  refine Z.le rfl trivial ?_
  refine Z.ZO.litL (T' := 47) [(0, 2), (2, 2)] [.int .i64 0, .slice none 0 0, .int .i64 0, .slice none 0 0] rfl rfl (by rfl) rfl rfl (by intro W; kernel_rfl) hs ?_
  clear hs; intro g107 w107 hs
  refine Z.le rfl trivial ?_
  refine Z.ZO.call rfl rfl (by rfl) rfl rfl Try.call19 rfl (mc_Fit 5 (some ⟨g107, 0, none⟩) 2 2 [exA (some ⟨g25, 0, none⟩), exS (some ⟨g27, 0, none⟩)] _ (by have h0 := hs.blkSl (g := g107) (by first | ((repeat (first | exact List.mem_cons_self | refine List.mem_cons_of_mem _ ?_ | refine List.mem_append_right _ ?_)); done) | fail); exact h0) rfl (by decide) ex_f) ?_
  rintro v12_3 w12_3 ⟨rfl, hy⟩
  replace hs := hs.call hy
  clear hy
  try simp only [List.cons_append, List.nil_append, List.append_nil] at hs
  rw [ex_pl, f5]
  refine Z.lb 5 rfl ?_
  refine Z.lnil ?_
  refine Z.only [1, 2, 7, 11, 12, 13, 14, 15, 16, 17, 18, 19, 20] rfl ?_
  refine Z.nthen ?_
  refine Z.seq ?_
  refine Z.region ?_
  refine Z.le rfl trivial ?_
  refine Z.ZO.call rfl rfl (by rfl) rfl rfl Try.call21 rfl (mc_Control 30 _) ?_
  rintro v13_0 w13_0 ⟨rfl, hy⟩
  replace hs := hs.call hy
  clear hy
  try simp only [List.cons_append, List.nil_append, List.append_nil] at hs
  rw [c30]
  refine Z.lb 5 rfl ?_
  refine Z.lnil ?_
  refine Z.only [1, 2, 7, 11, 12, 13, 14, 15, 16, 17, 18, 19, 20, 21, 22] rfl ?_
  refine Z.nthen ?_
  refine Z.seq ?_
  refine Z.region ?_
  refine Z.lb 1 rfl ?_
  refine Z.le rfl trivial ?_
  refine Z.ZO.call rfl rfl (by rfl) rfl rfl Try.call23 rfl (mc_Parse B4 6 c4 [63, 61, 3, 7, 1, 2] _ (hs.slm (by first | ((repeat (first | exact List.mem_cons_self | refine List.mem_cons_of_mem _ ?_ | refine List.mem_append_right _ ?_)); done) | fail)) rfl (by decide) (by23 (by decide))) ?_
  rintro v14_1 w14_1 ⟨qs, sv, rfl, hpq, hy⟩
  replace hs := hs.call hy
  clear hy
  try simp only [List.cons_append, List.nil_append, List.append_nil] at hs
  rw [p1]
  rw [p1] at hpq
  rw [cellsQ_fst] at hs
  obtain ⟨B14, c14, rfl, -, -, -⟩ := SX.row_slv hs (j := 0) rfl
  refine Z.lb 5 rfl ?_
  refine Z.lnil ?_
  refine Z.only [1, 2, 11, 12, 13, 14, 15, 16, 17, 18, 19, 20, 21, 22, 23, 24] rfl ?_
  refine Z.nthen ?_
  refine Z.seq ?_
  refine Z.region ?_
  refine Z.lb 2 rfl ?_
  refine Z.le rfl trivial ?_
  refine Z.ZO.call rfl rfl (by rfl) rfl rfl Try.call17 rfl (counts23 _ _ _ _ _) ?_
  rintro v15_2 w15_2 ⟨rfl, hy⟩
  replace hs := hs.call hy
  clear hy
  try simp only [List.cons_append, List.nil_append, List.append_nil] at hs
  refine Z.lb 1 rfl ?_
  refine Z.yes (s := 123) (b := true) rfl ((by decide +kernel)) rfl ?_
  refine Z.lb 2 rfl ?_
  refine Z.yes (s := 123) (b := true) rfl rfl rfl ?_
  refine Z.le rfl (by exact ⟨rfl, trivial⟩) ?_
  refine Z.ZO.call rfl rfl (by rfl) rfl rfl Try.call17 rfl (counts23 _ _ _ _ _) ?_
  rintro v15_6 w15_6 ⟨rfl, hy⟩
  replace hs := hs.call hy
  clear hy
  try simp only [List.cons_append, List.nil_append, List.append_nil] at hs
  refine Z.l rfl rfl (by rfl) (Z.keepS hs) (Z.Yd.pickT rfl rfl) ?_
  refine Z.lb 1 rfl ?_
  refine Z.yes (s := 128) (b := true) rfl ((by decide +kernel)) rfl ?_
  refine Z.lb 2 rfl ?_
  refine Z.yes (s := 128) (b := true) rfl rfl rfl ?_
  refine Z.le rfl (by exact ⟨rfl, trivial⟩) ?_
  refine Z.ZO.call rfl rfl (by rfl) rfl rfl Try.call16 rfl (is23 _ _ B10 _ _ [] _ _ (hs.slm (by first | ((repeat (first | exact List.mem_cons_self | refine List.mem_cons_of_mem _ ?_ | refine List.mem_append_right _ ?_)); done) | fail)) rfl) ?_
  rintro v15_11 w15_11 ⟨rfl, hy⟩
  replace hs := hs.call hy
  clear hy
  try simp only [List.cons_append, List.nil_append, List.append_nil] at hs
  refine Z.l rfl rfl (by rfl) (Z.keepS hs) (Z.Yd.pickT rfl rfl) ?_
  refine Z.lb 1 rfl ?_
  refine Z.yes (s := 133) (b := true) rfl ((by decide +kernel)) rfl ?_
  refine Z.lb 2 rfl ?_
  refine Z.yes (s := 133) (b := true) rfl rfl rfl ?_
  refine Z.le rfl (by exact ⟨rfl, trivial⟩) ?_
  refine Z.ZO.call rfl rfl (by rfl) rfl rfl Try.call17 rfl (counts23 _ _ _ _ _) ?_
  rintro v15_16 w15_16 ⟨rfl, hy⟩
  replace hs := hs.call hy
  clear hy
  try simp only [List.cons_append, List.nil_append, List.append_nil] at hs
  refine Z.l rfl rfl (by rfl) (Z.keepS hs) (Z.Yd.pickT rfl rfl) ?_
  refine Z.lb 1 rfl ?_
  refine Z.yes (s := 138) (b := true) rfl ((by decide +kernel)) rfl ?_
  refine Z.lb 2 rfl ?_
  refine Z.yes (s := 138) (b := true) rfl rfl rfl ?_
  refine Z.le rfl (by exact ⟨rfl, trivial⟩) ?_
  refine Z.ZO.call rfl rfl (by rfl) rfl rfl Try.call17 rfl (counts23 _ _ _ _ _) ?_
  rintro v15_21 w15_21 ⟨rfl, hy⟩
  replace hs := hs.call hy
  clear hy
  try simp only [List.cons_append, List.nil_append, List.append_nil] at hs
  refine Z.l rfl rfl (by rfl) (Z.keepS hs) (Z.Yd.pickT rfl rfl) ?_
  refine Z.lb 1 rfl ?_
  refine Z.yes (s := 143) (b := true) rfl ((by decide +kernel)) rfl ?_
  refine Z.lb 2 rfl ?_
  refine Z.yes (s := 143) (b := true) rfl rfl rfl ?_
  refine Z.l rfl rfl (by rfl) (Z.keepS hs) (Z.Yd.pickT rfl rfl) ?_
  refine Z.lb 1 rfl ?_
  refine Z.yes (s := 147) (b := true) rfl ((by decide +kernel)) rfl ?_
  refine Z.lb 1 rfl ?_
  refine Z.yes (s := 147) (b := true) rfl rfl rfl ?_
  refine Z.l rfl rfl (by rfl) (Z.keepS hs) (Z.Yd.pickT rfl rfl) ?_
  refine Z.lb 1 rfl ?_
  refine Z.yes (s := 150) (b := true) rfl ((by decide +kernel)) rfl ?_
  refine Z.lb 1 rfl ?_
  refine Z.l rfl rfl (by rfl) (Z.keepS hs) (by first | exact Z.Yd.loadA _ rfl Try.isAgg47 (fun _ => Z.cellsB (by first | ((repeat (first | exact List.mem_cons_self | refine List.mem_cons_of_mem _ ?_ | refine List.mem_append_right _ ?_)); done) | fail)) (by exact Try.sizeOf47) | fail "load 15.32") ?_
  refine Z.l rfl rfl (by rfl) (Z.keepS hs) (by first | exact Z.Yd.loadA _ rfl Try.isAgg47 (fun _ => Z.cellsB (by first | ((repeat (first | exact List.mem_cons_self | refine List.mem_cons_of_mem _ ?_ | refine List.mem_append_right _ ?_)); done) | fail)) (by exact Try.sizeOf47) | fail "load 15.33") ?_
  refine Z.yes (s := 150) (b := true) rfl rfl rfl ?_
  refine Z.le rfl (by exact ⟨rfl, trivial⟩) ?_
  refine Z.ZO.litL (T' := 47) [(0, 2), (2, 2)] [.int .i64 0, .slice none 0 0, .int .i64 0, .slice none 0 0] rfl rfl (by rfl) rfl rfl (by intro W; kernel_rfl) hs ?_
  clear hs; intro g154 w154 hs
  refine Z.le rfl (by exact ⟨rfl, trivial⟩) ?_
  refine Z.ZO.call rfl rfl (by rfl) rfl rfl Try.call18 rfl (mr_Same B14 (some ⟨g154, 0, none⟩) _ _ _ _ (qs.map Prod.fst) [exA (some ⟨g25, 0, none⟩), exS (some ⟨g27, 0, none⟩)] _ (hs.slm (A := B14) (by first | ((repeat (first | exact List.mem_cons_self | refine List.mem_cons_of_mem _ ?_ | refine List.mem_append_right _ ?_)); done) | fail)) (by have h0 := hs.blkSl (g := g154) (by first | ((repeat (first | exact List.mem_cons_self | refine List.mem_cons_of_mem _ ?_ | refine List.mem_append_right _ ?_)); done) | fail); exact h0) (by simp) rfl (by have h7 := congrArg List.length hpq; simp [plainQ] at h7; omega) (rowsQ_sl hs (fun e he ↦ by simp [he])) (ex_sl (by have h0 := hs.blkSl (g := g25) (by first | ((repeat (first | exact List.mem_cons_self | refine List.mem_cons_of_mem _ ?_ | refine List.mem_append_right _ ?_)); done) | fail); exact h0) (by have h0 := hs.blkSl (g := g27) (by first | ((repeat (first | exact List.mem_cons_self | refine List.mem_cons_of_mem _ ?_ | refine List.mem_append_right _ ?_)); done) | fail); exact h0)) (plain_by hpq (by decide)) ex_by) ?_
  rintro v15_35 w15_35 ⟨rfl, hy⟩
  replace hs := hs.call hy
  clear hy
  try simp only [List.cons_append, List.nil_append, List.append_nil] at hs
  rw [plainQ_fst, hpq, ex_pl]
  refine Z.l rfl rfl (by rfl) (Z.keepS hs) (Z.Yd.pickT rfl rfl) ?_
  refine Z.lb 1 rfl ?_
  refine Z.yes (s := 157) (b := true) rfl ((by decide +kernel)) rfl ?_
  refine Z.lb 1 rfl ?_
  refine Z.yes (s := 157) (b := true) rfl rfl rfl ?_
  refine Z.le rfl (by exact ⟨rfl, trivial⟩) ?_
  refine Z.ZO.call rfl rfl (by rfl) rfl rfl Try.call24 rfl (num23 _ _) ?_
  rintro v15_39 w15_39 ⟨rfl, hy⟩
  replace hs := hs.call hy
  clear hy
  try simp only [List.cons_append, List.nil_append, List.append_nil] at hs
  refine Z.lb 1 rfl ?_
  refine Z.yes (s := 157) (b := true) rfl rfl rfl ?_
  refine Z.l rfl rfl (by rfl) (Z.keepS hs) (Z.Yd.pickT rfl rfl) ?_
  refine Z.lb 1 rfl ?_
  refine Z.yes (s := 162) (b := true) rfl ((by decide +kernel)) rfl ?_
  refine Z.le rfl (by exact ⟨rfl, trivial⟩) ?_
  refine Z.ZO.call rfl rfl (by rfl) rfl rfl Try.call28 rfl (fails23 9 _ [3] _ rfl (by decide) p2 (by decide)) ?_
  rintro v15_43 w15_43 ⟨rfl, hy⟩
  replace hs := hs.call hy
  clear hy
  try simp only [List.cons_append, List.nil_append, List.append_nil] at hs
  refine Z.l rfl rfl (by rfl) (Z.keepS hs) (Z.Yd.pickT rfl rfl) ?_
  refine Z.lb 1 rfl ?_
  refine Z.yes (s := 165) (b := true) rfl ((by decide +kernel)) rfl ?_
  refine Z.le rfl (by exact ⟨rfl, trivial⟩) ?_
  refine Z.ZO.call rfl rfl (by rfl) rfl rfl Try.call28 rfl (fails23 9 _ [131, 1] _ rfl (by decide) p3 (by decide)) ?_
  rintro v15_46 w15_46 ⟨rfl, hy⟩
  replace hs := hs.call hy
  clear hy
  try simp only [List.cons_append, List.nil_append, List.append_nil] at hs
  refine Z.l rfl rfl (by rfl) (Z.keepS hs) (Z.Yd.pickT rfl rfl) ?_
  refine Z.lb 1 rfl ?_
  refine Z.yes (s := 168) (b := true) rfl ((by decide +kernel)) rfl ?_
  refine Z.le rfl (by exact ⟨rfl, trivial⟩) ?_
  refine Z.ZO.call rfl rfl (by rfl) rfl rfl Try.call28 rfl (fails23 9 _ [31, 0] _ rfl (by decide) p4 (by decide)) ?_
  rintro v15_49 w15_49 ⟨rfl, hy⟩
  replace hs := hs.call hy
  clear hy
  try simp only [List.cons_append, List.nil_append, List.append_nil] at hs
  refine Z.l rfl rfl (by rfl) (Z.keepS hs) (Z.Yd.pickT rfl rfl) ?_
  refine Z.lb 1 rfl ?_
  refine Z.yes (s := 171) (b := true) rfl ((by decide +kernel)) rfl ?_
  refine Z.le rfl (by exact ⟨rfl, trivial⟩) ?_
  refine Z.ZO.call rfl rfl (by rfl) rfl rfl Try.call28 rfl (fails23 9 _ [12, 1] _ rfl (by decide) p5 (by decide)) ?_
  rintro v15_52 w15_52 ⟨rfl, hy⟩
  replace hs := hs.call hy
  clear hy
  try simp only [List.cons_append, List.nil_append, List.append_nil] at hs
  refine Z.l rfl rfl (by rfl) (Z.keepS hs) (Z.Yd.pickT rfl rfl) ?_
  refine Z.lb 1 rfl ?_
  refine Z.lnil ?_
  refine Z.only [0] rfl ?_
  refine Z.nthen ?_
  refine Z.ret ?_
  -- ret#0
  refine Z.out1 (by exact ⟨rfl, trivial⟩) ?_
  exact ⟨_, rfl, rfl, hs.sub (List.nil_sublist _)⟩
end Go.Proofs.Ytogjkgoiofngaaa

/- Arguments of bytes and integers, read. -/
namespace Go.Proofs.Ytogjkgoiofngaaa
open Go.RowKit
set_option linter.unusedSimpArgs false
set_option linter.unusedVariables false
namespace Rb
theorem flat_ints (k : IntKind) (l : List Int) : l.flatMap (fun x => [Value.int k x]) = ints k l := by
  induction l with
  | nil => rfl
  | cons x l ih => rw [List.flatMap_cons, ih]; rfl
theorem rd_bytes {W : World} {A : Option Addr} {n c : Nat} (z : Rd Try.prog W 26 [.slice A n c]) : ∃ l : List Int, l.length = n ∧ n ≤ c ∧ c ≤ maxLen ∧ (∀ x ∈ l, 0 ≤ x ∧ x < 256) ∧ Sl W A (ints .u8 l) := by
  have c1 : Try.prog.cellsOf 5 = 1 := by kernel_rfl
  obtain ⟨xs, h1, h2, h3, h4, h5⟩ := Rd.rows (fun x : Int => [Value.int .u8 x]) (fun x => 0 ≤ x ∧ x < 256) Try.underlying26 (by rw [c1]; decide)
    (fun r hr => by
      obtain ⟨x, hx, wx⟩ := Rd.int Try.underlying5 hr
      have := wf_u8 wx
      exact ⟨x, hx, this.1, by omega⟩) (fun x => c1.symm) z
  rw [flat_ints] at h5
  exact ⟨xs, h1, h2, h3, h4, h5⟩
end Rb
end Go.Proofs.Ytogjkgoiofngaaa

/- MacpduControls, MacpduFits. -/
namespace Go.Proofs.Ytogjkgoiofngaaa
open Go.RowKit
set_option linter.unusedSimpArgs false
set_option linter.unusedVariables false
--newlaws

end Go.Proofs.Ytogjkgoiofngaaa

/- MacpduBuilds. -/
namespace Go.Proofs.Ytogjkgoiofngaaa
open Go.RowKit
set_option linter.unusedSimpArgs false
set_option linter.unusedVariables false
--newlaws

end Go.Proofs.Ytogjkgoiofngaaa

/- MacpduBounds. -/
namespace Go.Proofs.Ytogjkgoiofngaaa
open Go.RowKit
set_option linter.unusedSimpArgs false
set_option linter.unusedVariables false
--newlaws

end Go.Proofs.Ytogjkgoiofngaaa

/- MacpduHolds. -/
namespace Go.Proofs.Ytogjkgoiofngaaa
open Go.RowKit
set_option linter.unusedSimpArgs false
set_option linter.unusedVariables false
--newlaws

end Go.Proofs.Ytogjkgoiofngaaa

/- MAC PDUs: the iterator over the parts. -/
namespace Go.Proofs.Ytogjkgoiofngaaa
open Go.RowKit
set_option linter.unusedSimpArgs false
set_option linter.unusedVariables false
--newlaws

theorem sl_z {w : World} {A : Option Addr} {l : List Int} (h : Sl w A (ints .u8 l)) : A = none → l.length = 0 := fun hA => by
  subst hA
  rcases Nat.eq_zero_or_pos l.length with h0 | h0
  · exact h0
  · obtain ⟨b, off, e, -⟩ := h (by simp [ints]; omega)
    cases e
theorem ptGo_len {l : List Int} : ∀ (hs : List (Int × Int)) (p : Nat) (acc : List Prt), (∀ x ∈ acc, x.2.length ≤ l.length) → ∀ x ∈ (ptGo l hs p acc).2, x.2.length ≤ l.length
  | [], p, acc, h => by
    unfold ptGo
    split
    · intro x hx; cases hx
    · exact h
  | z :: hs, p, acc, h => by
    rw [ptGo]
    split
    · exact ptGo_len hs p acc h
    · split
      · intro x hx; cases hx
      · split
        · intro x hx; cases hx
        · refine ptGo_len hs _ _ ?_
          intro x hx
          rcases List.mem_append.1 hx with h1 | h1
          · exact h x h1
          · obtain rfl : x = _ := by simpa using h1
            simp only [List.length_take, List.length_drop]
            omega
theorem par_len (l : List Int) : ∀ x ∈ (parV l).2, x.2.length ≤ l.length := by
  unfold parV
  split
  · intro x hx; cases hx
  · split
    · intro x hx; cases hx
    · exact ptGo_len _ _ _ (by simp)
theorem plainQ_at {qs : List (MpV × Nat)} {j : Nat} {x : MpV × Nat} (h : qs[j]? = some x) : (plainQ qs)[j]! = x.1.plain := by
  have h1 : (plainQ qs)[j]? = some x.1.plain := by rw [plainQ, List.getElem?_map, h]; rfl
  rw [getElem!_def, h1]
def EaA (r : List Prt) (i : Nat) (args : Array Value) (Lx : List SX.Ent) : Prop := ∃ B c co, args = #[.int .i64 (i : Int), .agg #[.int .i64 (r[i]!).1, .slice B (r[i]!).2.length c]] ∧ Lx = [SX.Ent.row (.slice B (r[i]!).2.length co) 5 1 (r[i]!).2.length (ints .u8 (r[i]!).2)]
theorem range_pre {j n : Nat} (h : j < n) : (List.range j ++ [j]) <+: List.range n := by
  rw [← List.range_succ]
  exact ⟨(List.range (n - (j + 1))).map (j + 1 + ·), by rw [← List.range_add]; congr 1; omega⟩
set_option maxHeartbeats 1000000 in
set_option maxRecDepth 100000 in
theorem each_seq (g T : Nat) (A : Option Addr) (c n : Nat) (qs : List (MpV × Nat)) (hl : qs.length = n) (hn : n ≤ 9223372036854775807) (hf : ∀ x ∈ qs, x.1.l.length ≤ 100000) : SX.SeqC Try.prog 49 #[.pointer (some ⟨g, 0, none⟩)] (EaA (plainQ qs)) (SX.Ent.blk g T #[.slice A n c] :: SX.Ent.row (.slice A n c) 47 2 n (cellsQ qs) :: rowsQ qs) (fun _ _ => True) (List.range n) := by
  intro ll w0 M I Ix W L0 _ hY hI hs
  replace hs : SX.St w0 M W (SX.Ent.blk g T #[.slice A n c] :: SX.Ent.row (.slice A n c) 47 2 n (cellsQ qs) :: (rowsQ qs ++ L0)) := SX.St.rot (L1 := L0) hs
  refine Z.enter Try.func49 rfl Try.ntmps49 rfl rfl ?_
  refine Z.scope ?_
  refine Z.seq ?_
  refine Z.label ?_
  refine Z.nthen ?_
  refine Z.seq ?_
  refine Z.region ?_
  refine Z.l rfl rfl (by rfl) (Z.keepS hs) (by first | exact Z.Yd.load rfl Try.isAgg22 (fun _ => Z.cellB (by first | ((repeat (first | exact List.mem_cons_self | refine List.mem_cons_of_mem _ ?_ | refine List.mem_append_right _ ?_)); done) | fail) rfl) | exact Z.Yd.load rfl Try.isAgg22 (fun _ => Z.cellO (by assumption) (by simp) (by assumption)) | fail "load 0.0") ?_
  refine Z.l rfl rfl (by rfl) (Z.keepS hs) (Z.Yd.lenS rfl Try.underlying22) ?_
  refine Z.lb 1 rfl ?_
  refine Z.lnil ?_
  refine Z.only [0, 5, 6, 7] rfl ?_
  refine Z.nthen ?_
  refine Z.block ?_
  refine Z.loopk (ι := Nat × List SX.Ent) [0, 5, 6] rfl (fun j => [(7, [], .int .i64 (j.1 : Int))]) (fun j wr => (j.1 ≤ n ∧ I (List.range j.1) j.2) ∧ SX.St w0 M wr (SX.Ent.blk g T #[.slice A n c] :: SX.Ent.row (.slice A n c) 47 2 n (cellsQ qs) :: (rowsQ qs ++ j.2))) (fun j => n - j.1) (0, L0) (by refine ⟨?_, trivial⟩ <;> (first | rfl | (refine Z.lookv rfl ?_; simp; done) | (refine Z.lookv rfl ?_; simp; omega))) ⟨⟨Nat.zero_le _, hI⟩, hs⟩ ?_
  clear hs
  rintro ⟨j, L1⟩ w1 ⟨⟨hj, hi⟩, hs⟩
  refine Z.only [0, 5, 6, 7] rfl ?_
  (try dsimp only at hs)
  dsimp only at hj hi hs
  refine Z.seq ?_
  refine Z.region ?_
  refine Z.lb 1 rfl ?_
  refine Z.lnil ?_
  refine Z.only [0, 5, 6, 7, 8] rfl ?_
  refine Z.nthen ?_
  refine Z.seq ?_
  refine Z.cond rfl (fun hc1 => ?_) (fun hc1 => ?_)
  · first
      | (exfalso; simp at hc1 <;> omega)
      | (
        (try simp at hc1)
        obtain ⟨x, hxj⟩ : ∃ x, qs[j]? = some x := ⟨_, List.getElem?_eq_getElem (by omega)⟩
        have hone := mp_one x.1
        have hxm := List.mem_of_getElem? hxj
        have hxf := hf x hxm
        have hrj := plainQ_at hxj
        obtain ⟨gB, cB, eB, -, -⟩ := row_form (j := 1) hs rfl (by omega)
        cases eB
        have hcl : ((qs.map Prod.fst))[j]? = some x.1 := by rw [List.getElem?_map, hxj]; rfl
        refine Z.skip ?_
        refine Z.nthen ?_
        refine Z.seq ?_
        refine Z.block ?_
        refine Z.seq ?_
        refine Z.region ?_
        refine Z.lb 1 rfl ?_
        refine Z.l rfl rfl (by rfl) (Z.keepS hs) (Z.Yd.elem rfl rfl Try.underlying22 Try.sizeOf47 (fun hG => ⟨(by first | omega | (have hG' := Z.gh rfl hG; simp at hG'; omega)), (by first | omega | (have hG' := Z.gh rfl hG; simp at hG'; omega))⟩)) ?_
        refine Z.l rfl rfl (by rfl) (Z.keepS hs) (Z.Yd.loadA _ rfl Try.isAgg47 (fun _ => Z.cellsRf (enc := fun x : MpV × Nat ↦ x.1.cells) (by first | ((repeat (first | exact List.mem_cons_self | refine List.mem_cons_of_mem _ ?_ | refine List.mem_append_right _ ?_)); done) | fail) (fun _ ↦ rfl) hxj rfl) (by exact Try.sizeOf47)) ?_
        refine Z.le rfl trivial ?_
        refine Z.ZO.alloc rfl rfl (by rfl) Try.zeroValue47 rfl hs ?_
        clear hs; intro g4 w4 hs
        refine Z.lb 1 rfl ?_
        refine Z.le rfl trivial ?_
        first | refine Z.ZO.storeA rfl rfl hs rfl rfl (by kernel_rfl) (by first | (simp [Value.oneCell']; done) | (refine Z.all_one ?_; assumption)) (by first | exact SX.at0 | exact SX.at1 | exact SX.at2 | exact SX.at3 | exact SX.at4 | exact SX.at5 | exact Z.at6 | exact Z.at7 | exact Z.at8 | exact Z.at9 | exact Z.at10 | exact Z.at11 | exact Z.at12) (by rfl) ?_ | refine Z.ZO.storeP rfl rfl hs rfl rfl (by kernel_rfl) (by first | (simp [Value.oneCell']; done) | (refine Z.all_one ?_; assumption)) (by first | exact SX.at0 | exact SX.at1 | exact SX.at2 | exact SX.at3 | exact SX.at4 | exact SX.at5 | exact Z.at6 | exact Z.at7 | exact Z.at8 | exact Z.at9 | exact Z.at10 | exact Z.at11 | exact Z.at12) (by first | decide | (simp; done) | (simp; omega)) ?_ | refine Z.ZO.storePR rfl rfl hs rfl rfl (by kernel_rfl) (by first | (simp [Value.oneCell']; done) | (refine Z.all_one ?_; assumption)) (by first | exact SX.at0 | exact SX.at1 | exact SX.at2 | exact SX.at3 | exact SX.at4 | exact SX.at5 | exact Z.at6 | exact Z.at7 | exact Z.at8 | exact Z.at9 | exact Z.at10 | exact Z.at11 | exact Z.at12) (by first | decide | (simp; done) | (simp; omega)) ?_
        clear hs; intro ws hs
        simp only [Nat.zero_add, Nat.add_zero, Nat.reduceAdd, Int.reduceToNat, Nat.reduceMul, List.set_cons_zero, List.set_cons_succ, List.setIfInBounds_toArray] at hs
        try simp only [Z.putL, Nat.zero_add] at hs
        refine Z.lnil ?_
        refine Z.only [0, 3, 4, 5, 6, 7] rfl ?_
        refine Z.nthen ?_
        refine Z.seq ?_
        refine Z.drawL [SX.Ent.blk g4 47 x.1.cells.toArray] (fun _ => true) mixed hs ?_
        clear hs; intro wd3 hs
        refine Z.tb [0, 1] (by kernel_rfl) rfl ⟨_, hs, by first | (simp; done) | exact fun e he => List.mem_append_right _ he⟩ rfl ?_
        refine Z.t 2 rfl rfl rfl (by rfl) (by kernel_rfl) ⟨_, hs, by first | (simp; done) | exact fun e he => List.mem_append_right _ he⟩ (Z.Yd.fieldA (m := 0) rfl (by kernel_rfl)) ?_
        refine Z.t 3 rfl rfl rfl (by rfl) (by kernel_rfl) ⟨_, hs, by first | (simp; done) | exact fun e he => List.mem_append_right _ he⟩ (by first | exact Z.Yd.load rfl Try.isAgg3 (fun _ => Z.cellB (by first | ((repeat (first | exact List.mem_cons_self | refine List.mem_cons_of_mem _ ?_ | refine List.mem_append_right _ ?_)); done) | fail) rfl) | exact Z.Yd.load rfl Try.isAgg3 (fun _ => Z.cellO (by assumption) (by simp) (by assumption)) | fail "load 3.3") ?_
        refine Z.t 4 rfl rfl rfl (by rfl) (by kernel_rfl) ⟨_, hs, by first | (simp; done) | exact fun e he => List.mem_append_right _ he⟩ (Z.Yd.fieldA (m := 1) rfl (by kernel_rfl)) ?_
        refine Z.t 5 rfl rfl rfl (by rfl) (by kernel_rfl) ⟨_, hs, by first | (simp; done) | exact fun e he => List.mem_append_right _ he⟩ (by first | exact Z.Yd.load rfl Try.isAgg26 (fun _ => Z.cellB (by first | ((repeat (first | exact List.mem_cons_self | refine List.mem_cons_of_mem _ ?_ | refine List.mem_append_right _ ?_)); done) | fail) rfl) | exact Z.Yd.load rfl Try.isAgg26 (fun _ => Z.cellO (by assumption) (by simp) (by assumption)) | fail "load 3.5") ?_
        refine Z.tn 6 rfl rfl (by kernel_rfl) rfl trivial ?_
        refine Z.ZO.call rfl rfl (by rfl) rfl rfl Try.call50 rfl (clone8 [] x.1.B _ x.1.c x.1.l _ ((rowsQ_sl hs (fun e he ↦ by simp [he]) x.1 (List.mem_map_of_mem hxm)).sx) rfl (by omega) (sl_z (rowsQ_sl hs (fun e he ↦ by simp [he]) x.1 (List.mem_map_of_mem hxm)))) ?_
        rintro v3_6 w3_6 hy
        replace hs := hs.call hy
        clear hy
        try simp only [List.cons_append, List.nil_append, List.append_nil] at hs
        obtain ⟨Bc, cc, rfl, -, -, -⟩ := SX.row_slv hs (j := 0) rfl
        refine Z.tk (Dn := fun _ => true) (i := 6) (fun _ => ⟨_, hs, by first | (simp; done) | exact fun e he => List.mem_append_right _ he⟩) ?_
        refine Z.t 7 rfl rfl rfl (by rfl) (by kernel_rfl) ⟨_, hs, by first | (simp; done) | exact fun e he => List.mem_append_right _ he⟩ (Z.Yd.buildL [(0, 1), (1, 1)] [.int .i64 0, .slice none 0 0] rfl rfl (by intro w; kernel_rfl)) ?_
        replace hs : SX.St w0 M _ ([SX.Ent.row (.slice Bc x.1.l.length cc) 5 1 x.1.l.length (ints .u8 x.1.l)] ++ (L1 ++ (SX.Ent.blk g4 _ _ :: SX.Ent.blk g T _ :: SX.Ent.row _ 47 2 n (cellsQ qs) :: rowsQ qs))) := hs.perm (by
          refine List.Perm.append_left _ ?_
          refine (List.perm_append_comm).trans ?_
          exact (List.Perm.refl _))
        refine Z.tn 8 rfl rfl (by kernel_rfl) rfl trivial ?_
        refine Z.ZO.yield rfl rfl (by rfl) rfl rfl rfl (hY _ (List.range j) j _ _ L1 _ hi (range_pre (by omega)) ⟨Bc, _, cc, by rw [hrj]; rfl, by rw [hrj]; rfl⟩ hs) ?_
        clear hs
        rintro e wy3_8 (⟨rfl, Ly3_8, hiy3_8, hs⟩ | ⟨rfl, Ly3_8, hiy3_8, hs⟩)
        · refine ⟨_, rfl, ?_⟩
          refine Z.tk (Dn := fun _ => true) (i := 8) (fun _ => ⟨_, hs, by first | (simp; done) | exact fun e he => List.mem_append_right _ he⟩) ?_
          refine Z.tb [9] (by kernel_rfl) rfl ⟨_, hs, by first | (simp; done) | exact fun e he => List.mem_append_right _ he⟩ rfl ?_
          refine Z.td (by rfl) (by kernel_rfl) ?_
          refine Z.only [0, 5, 6, 7, 21] rfl ?_
          refine Z.nthen ?_
          refine Z.cond rfl (fun hc3 => ?_) (fun hc3 => ?_)
          · first
              | (exfalso; simp at hc3 <;> omega)
              | (
                (try simp at hc3)
                refine Z.exit ?_
                refine Z.xblockn rfl ?_
                refine Z.xthen ?_
                refine Z.xthen ?_
                refine Z.xblock ?_
                refine Z.nscope ?_
                -- ret#0
                refine Z.out0n trivial ?_
                first
                | exact ⟨⟨_, rfl⟩, Ly3_8, .inr hiy3_8, hs.sub ((List.Sublist.refl _).append (List.sublist_cons_self _ _))⟩
                | exact ⟨⟨_, rfl⟩, L1, .inl (by obtain rfl : j = n := by omega
                                                exact hi), SX.St.rot (L1 := SX.Ent.blk g T _ :: SX.Ent.row _ 47 2 n (cellsQ qs) :: rowsQ qs) hs⟩
                )
          · first
              | (exfalso; simp at hc3 <;> omega)
              | (
                (try simp at hc3)
                refine Z.skip ?_
                refine Z.nblock ?_
                refine Z.nthen ?_
                refine Z.region ?_
                refine Z.l rfl rfl (by rfl) (Z.keepS hs) (Z.Yd.add rfl rfl (fun hG => Z.wi64 (by first | omega | (have hG' := Z.gh rfl hG; simp at hG'; omega)))) ?_
                refine Z.lb 1 rfl ?_
                refine Z.lnil ?_
                refine Z.only [0, 5, 6, 7] rfl ?_
                refine Z.nthen ?_
                exact Z.again (j + 1, Ly3_8) (by refine ⟨?_, ?_, ?_, ?_, trivial⟩ <;> (first | rfl | (refine Z.lookv rfl ?_; simp; done) | (refine Z.lookv rfl ?_; simp; omega))) ⟨⟨by simp only; omega, by simp only; rw [List.range_succ]; exact hiy3_8⟩, SX.St.rot (L1 := Ly3_8) (hs.sub ((List.Sublist.refl _).append (List.sublist_cons_self _ _)))⟩ (by simp only; omega)
                )
        · refine ⟨_, rfl, ?_⟩
          refine Z.tk (Dn := fun _ => true) (i := 8) (fun _ => ⟨_, hs, by first | (simp; done) | exact fun e he => List.mem_append_right _ he⟩) ?_
          refine Z.tb [9] (by kernel_rfl) rfl ⟨_, hs, by first | (simp; done) | exact fun e he => List.mem_append_right _ he⟩ rfl ?_
          refine Z.td (by rfl) (by kernel_rfl) ?_
          refine Z.only [0, 5, 6, 7, 21] rfl ?_
          refine Z.nthen ?_
          refine Z.cond rfl (fun hc3 => ?_) (fun hc3 => ?_)
          · first
              | (exfalso; simp at hc3 <;> omega)
              | (
                (try simp at hc3)
                refine Z.exit ?_
                refine Z.xblockn rfl ?_
                refine Z.xthen ?_
                refine Z.xthen ?_
                refine Z.xblock ?_
                refine Z.nscope ?_
                -- ret#1
                refine Z.out0n trivial ?_
                first
                | exact ⟨⟨_, rfl⟩, Ly3_8, .inr hiy3_8, hs.sub ((List.Sublist.refl _).append (List.sublist_cons_self _ _))⟩
                | exact ⟨⟨_, rfl⟩, L1, .inl (by obtain rfl : j = n := by omega
                                                exact hi), SX.St.rot (L1 := SX.Ent.blk g T _ :: SX.Ent.row _ 47 2 n (cellsQ qs) :: rowsQ qs) hs⟩
                )
          · first
              | (exfalso; simp at hc3 <;> omega)
              | (
                (try simp at hc3)
                refine Z.skip ?_
                refine Z.nblock ?_
                refine Z.nthen ?_
                refine Z.region ?_
                refine Z.l rfl rfl (by rfl) (Z.keepS hs) (Z.Yd.add rfl rfl (fun hG => Z.wi64 (by first | omega | (have hG' := Z.gh rfl hG; simp at hG'; omega)))) ?_
                refine Z.lb 1 rfl ?_
                refine Z.lnil ?_
                refine Z.only [0, 5, 6, 7] rfl ?_
                refine Z.nthen ?_
                exact Z.again (j + 1, Ly3_8) (by refine ⟨?_, ?_, ?_, ?_, trivial⟩ <;> (first | rfl | (refine Z.lookv rfl ?_; simp; done) | (refine Z.lookv rfl ?_; simp; omega))) ⟨⟨by simp only; omega, by simp only; rw [List.range_succ]; exact hiy3_8⟩, SX.St.rot (L1 := Ly3_8) (hs.sub ((List.Sublist.refl _).append (List.sublist_cons_self _ _)))⟩ (by simp only; omega)
                )
        )
  · first
      | (exfalso; simp at hc1 <;> omega)
      | (
        (try simp at hc1)
        refine Z.exit ?_
        refine Z.xthen ?_
        refine Z.xthen ?_
        refine Z.xblock ?_
        refine Z.nscope ?_
        -- ret#2
        refine Z.out0n trivial ?_
        first
        | exact ⟨⟨_, rfl⟩, Ly3_8, .inr hiy3_8, hs.sub ((List.Sublist.refl _).append (List.sublist_cons_self _ _))⟩
        | exact ⟨⟨_, rfl⟩, L1, .inl (by obtain rfl : j = n := by omega
                                        exact hi), SX.St.rot (L1 := SX.Ent.blk g T _ :: SX.Ent.row _ 47 2 n (cellsQ qs) :: rowsQ qs) hs⟩
        )
end Go.Proofs.Ytogjkgoiofngaaa
