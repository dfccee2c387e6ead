/- Part 4 of the proofs that lead to the statement. -/
import Derived.Test.YthncbdoiilgnhaaY3
/- The document's Inside: all points in range. -/
namespace Go.Proofs.Ythncbdoiilgnhaa
open Go.RowKit
set_option linter.unusedSimpArgs false
set_option linter.unusedVariables false

theorem Sl.ptZ {w : World} {A : Option Addr} {ps : List (Int × Int)} (h : Sl w A (pcells ps)) {k : Nat} (hk : k < ps.length) :
    ∃ b off, A = some ⟨b, off, none⟩ ∧ b < w.heap.size ∧ w.cell? ⟨b, off + (k : Int).toNat * 2 + 0, none⟩ = some (.int .i64 (ptAt ps (k : Int)).1) ∧ w.cell? ⟨b, off + (k : Int).toNat * 2 + 1, none⟩ = some (.int .i64 (ptAt ps (k : Int)).2) := by
  obtain ⟨b, off, e, hb, hc⟩ := h.pt (z := (k : Int)) (by omega) (by omega)
  exact ⟨b, off, e, hb, hc 0 _ rfl, hc 1 _ rfl⟩

theorem rinside_any (A : Option Addr) (n c : Nat) (ps : List (Int × Int)) (w : World) (hx : Sl w A (pcells ps)) (hl : ps.length = n) (hn : n ≤ 9223372036854775806) :
    Calls Try.prog 16 #[.slice A n c] w (SX.Ret fun v w' => v = .bool (ps.all ins) ∧ SX.St w [] w' []) := by
  have hs := SX.St.start w
  refine Z.enter Try.func16 rfl Try.ntmps16 rfl rfl ?_
  refine Z.seq ?_
  refine Z.region ?_
  refine Z.lb 1 rfl ?_
  refine Z.lnil ?_
  refine Z.only [0] rfl ?_
  refine Z.nthen ?_
  refine Z.seq ?_
  refine Z.seq ?_
  refine Z.region ?_
  refine Z.lb 1 rfl ?_
  refine Z.lnil ?_
  refine Z.only [0, 3] rfl ?_
  refine Z.nthen ?_
  refine Z.block ?_
  refine Z.loopk (ι := Nat) [0] rfl (fun k => [(3, [], .int .i64 (k : Int))]) (fun k wr => k ≤ n ∧ (ps.take k).all ins = true ∧ SX.St w [] wr []) (fun k => n - k) 0 (by refine ⟨?_, trivial⟩ <;> (first | rfl | (refine Z.lookv rfl ?_; simp; done) | (refine Z.lookv rfl ?_; simp; omega))) ⟨by omega, rfl, hs⟩ ?_
  clear hs
  rintro k w1 ⟨hkn, hE, hs⟩
  refine Z.only [0, 3] rfl ?_
  refine Z.seq ?_
  refine Z.seq ?_
  refine Z.region ?_
  refine Z.lb 2 rfl ?_
  refine Z.l rfl rfl (by rfl) (Z.keepS hs) (Z.Yd.lenS rfl Try.underlying25) ?_
  refine Z.lb 1 rfl ?_
  refine Z.lnil ?_
  refine Z.only [0, 3, 7] rfl ?_
  refine Z.nthen ?_
  refine Z.cond rfl (fun hc2 => ?_) (fun hc2 => ?_)
  · first
      | (exfalso; simp at hc2 <;> omega)
      | (
        (try simp at hc2)
        obtain ⟨b, off, rfl, hb, hc1, hc2⟩ := hx.ptZ (k := k) (by omega)
        refine Z.skip ?_
        refine Z.nthen ?_
        refine Z.seq ?_
        refine Z.block ?_
        refine Z.seq ?_
        refine Z.region ?_
        refine Z.lb 2 rfl ?_
        refine Z.l rfl rfl (by rfl) (Z.keepS hs) (Z.Yd.elem rfl rfl Try.underlying25 Try.sizeOf32 (fun hG => ⟨(by first | omega | (have hG' := Z.gh rfl hG; simp at hG'; omega)), (by first | omega | (have hG' := Z.gh rfl hG; simp at hG'; omega))⟩)) ?_
        refine Z.l rfl rfl (by rfl) (Z.keepS hs) (Z.Yd.fieldA (m := 0) rfl (by kernel_rfl)) ?_
        refine Z.l rfl rfl (by rfl) (Z.keepS hs) (Z.Yd.load rfl Try.isAgg3 (fun _ => Z.cellO (by assumption) (by simp) (by assumption))) ?_
        refine Z.lb 4 rfl ?_
        refine Z.l rfl rfl (by rfl) (Z.keepS hs) (Z.Yd.elem rfl rfl Try.underlying25 Try.sizeOf32 (fun hG => ⟨(by first | omega | (have hG' := Z.gh rfl hG; simp at hG'; omega)), (by first | omega | (have hG' := Z.gh rfl hG; simp at hG'; omega))⟩)) ?_
        refine Z.l rfl rfl (by rfl) (Z.keepS hs) (Z.Yd.fieldA (m := 0) rfl (by kernel_rfl)) ?_
        refine Z.l rfl rfl (by rfl) (Z.keepS hs) (Z.Yd.load rfl Try.isAgg3 (fun _ => Z.cellO (by assumption) (by simp) (by assumption))) ?_
        refine Z.lb 5 rfl ?_
        refine Z.l rfl rfl (by rfl) (Z.keepS hs) (Z.Yd.elem rfl rfl Try.underlying25 Try.sizeOf32 (fun hG => ⟨(by first | omega | (have hG' := Z.gh rfl hG; simp at hG'; omega)), (by first | omega | (have hG' := Z.gh rfl hG; simp at hG'; omega))⟩)) ?_
        refine Z.l rfl rfl (by rfl) (Z.keepS hs) (Z.Yd.fieldA (m := 1) rfl (by kernel_rfl)) ?_
        refine Z.l rfl rfl (by rfl) (Z.keepS hs) (Z.Yd.load rfl Try.isAgg3 (fun _ => Z.cellO (by assumption) (by simp) (by assumption))) ?_
        refine Z.lb 5 rfl ?_
        refine Z.l rfl rfl (by rfl) (Z.keepS hs) (Z.Yd.elem rfl rfl Try.underlying25 Try.sizeOf32 (fun hG => ⟨(by first | omega | (have hG' := Z.gh rfl hG; simp at hG'; omega)), (by first | omega | (have hG' := Z.gh rfl hG; simp at hG'; omega))⟩)) ?_
        refine Z.l rfl rfl (by rfl) (Z.keepS hs) (Z.Yd.fieldA (m := 1) rfl (by kernel_rfl)) ?_
        refine Z.l rfl rfl (by rfl) (Z.keepS hs) (Z.Yd.load rfl Try.isAgg3 (fun _ => Z.cellO (by assumption) (by simp) (by assumption))) ?_
        refine Z.lb 2 rfl ?_
        refine Z.lnil ?_
        refine Z.only [0, 3, 39] rfl ?_
        refine Z.nthen ?_
        refine Z.cond rfl (fun hc4 => ?_) (fun hc4 => ?_)
        · first
            | (exfalso; simp at hc4 <;> omega)
            | (
              (try simp at hc4)
              refine Z.seq ?_
              refine Z.region ?_
              refine Z.lb 1 rfl ?_
              refine Z.lnil ?_
              refine Z.only [2] rfl ?_
              refine Z.nthen ?_
              refine Z.ret ?_
              repeat (first | refine Z.rthen ?_ | refine Z.rblock ?_ | refine Z.rscope ?_)
              -- ret#0
              refine Z.out1 (by exact ⟨rfl, trivial⟩) ?_
              refine ⟨_, rfl, ?_, hs⟩
              have hm : ptAt ps k ∈ ps := ptAt_mem (by omega) (by omega)
              have : ps.all ins = false := by
                rw [List.all_eq_false]
                exact ⟨_, hm, by simp [ins]; omega⟩
              rw [this]
              )
        · first
            | (exfalso; simp at hc4 <;> omega)
            | (
              (try simp at hc4)
              refine Z.skip ?_
              refine Z.nblock ?_
              refine Z.nthen ?_
              refine Z.region ?_
              refine Z.lb 1 rfl ?_
              refine Z.l rfl rfl (by rfl) (Z.keepS hs) (Z.Yd.add rfl rfl (fun hG => Z.wi64 (by first | omega | (have hG' := Z.gh rfl hG; simp at hG'; omega)))) ?_
              refine Z.lb 1 rfl ?_
              refine Z.lnil ?_
              refine Z.only [0, 3] rfl ?_
              refine Z.nthen ?_
              exact Z.again (k + 1) (by refine ⟨?_, ?_, trivial⟩ <;> (first | rfl | (refine Z.lookv rfl ?_; simp; done) | (refine Z.lookv rfl ?_; simp; omega))) ⟨by omega, by rw [take_pt (by omega)]; simp [hE, ins]; omega, hs⟩ (by omega)
              )
        )
  · first
      | (exfalso; simp at hc2 <;> omega)
      | (
        (try simp at hc2)
        refine Z.exit ?_
        refine Z.xthen ?_
        refine Z.xthen ?_
        refine Z.xblock ?_
        refine Z.nthen ?_
        refine Z.seq ?_
        refine Z.region ?_
        refine Z.lb 1 rfl ?_
        refine Z.lnil ?_
        refine Z.only [2] rfl ?_
        refine Z.nthen ?_
        refine Z.ret ?_
        -- ret#1
        refine Z.out1 (by exact ⟨rfl, trivial⟩) ?_
        exact ⟨_, rfl, by rw [List.take_of_length_le (by omega)] at hE; rw [hE], hs⟩
        )
end Go.Proofs.Ythncbdoiilgnhaa

/- Data in memory, for the walk. -/
namespace Go.Proofs.Ythncbdoiilgnhaa
open Go.RowKit
set_option linter.unusedVariables false
set_option linter.unusedSimpArgs false
namespace Z
variable {w w0 : World} {M : List Nat} {L : List SX.Ent} {k : IntKind} {l : List Int} {i : Int} {b off : Nat} {T : TypeId}

theorem at6 {e0 e1 e2 e3 e4 e5 e : SX.Ent} {R : List SX.Ent} : (e0 :: e1 :: e2 :: e3 :: e4 :: e5 :: e :: R)[6]? = some e := rfl
theorem at7 {e0 e1 e2 e3 e4 e5 e6 e : SX.Ent} {R : List SX.Ent} : (e0 :: e1 :: e2 :: e3 :: e4 :: e5 :: e6 :: e :: R)[7]? = some e := rfl
theorem at8 {e0 e1 e2 e3 e4 e5 e6 e7 e : SX.Ent} {R : List SX.Ent} : (e0 :: e1 :: e2 :: e3 :: e4 :: e5 :: e6 :: e7 :: e :: R)[8]? = some e := rfl
theorem at9 {e0 e1 e2 e3 e4 e5 e6 e7 e8 e : SX.Ent} {R : List SX.Ent} : (e0 :: e1 :: e2 :: e3 :: e4 :: e5 :: e6 :: e7 :: e8 :: e :: R)[9]? = some e := rfl
theorem at10 {e0 e1 e2 e3 e4 e5 e6 e7 e8 e9 e : SX.Ent} {R : List SX.Ent} : (e0 :: e1 :: e2 :: e3 :: e4 :: e5 :: e6 :: e7 :: e8 :: e9 :: e :: R)[10]? = some e := rfl
theorem at11 {e0 e1 e2 e3 e4 e5 e6 e7 e8 e9 e10 e : SX.Ent} {R : List SX.Ent} : (e0 :: e1 :: e2 :: e3 :: e4 :: e5 :: e6 :: e7 :: e8 :: e9 :: e10 :: e :: R)[11]? = some e := rfl
theorem at12 {e0 e1 e2 e3 e4 e5 e6 e7 e8 e9 e10 e11 e : SX.Ent} {R : List SX.Ent} : (e0 :: e1 :: e2 :: e3 :: e4 :: e5 :: e6 :: e7 :: e8 :: e9 :: e10 :: e11 :: e :: R)[12]? = some e := rfl
theorem ints_at (h0 : 0 ≤ i) (hi : i < l.length) : (ints k l)[0 + i.toNat * 1]? = some (.int k (elt l i)) := by
  rw [Nat.zero_add, Nat.mul_one]
  exact ints_get h0 hi
theorem elt_mem {z : Int} (h0 : 0 ≤ z) (h1 : z < l.length) : elt l z ∈ l := by
  have hz : z.toNat < l.length := by omega
  simp [elt, hz]
/-- an element of a slice that was there -/
theorem cellS (h : Sl w0 (some ⟨b, off, none⟩) (ints k l)) (hM : M = []) (h0 : 0 ≤ i) (hi : i < l.length) : ∀ w, SX.Keep w0 M L w → w.cell? ⟨b, off + i.toNat * 1, none⟩ = some (.int k (elt l i)) := by
  subst hM
  obtain ⟨b', off', e, hb, hc⟩ := h.at h0 hi
  simp only [Option.some.injEq, Addr.mk.injEq, and_true] at e
  obtain ⟨rfl, rfl⟩ := e
  rw [Nat.mul_one]
  exact cellO hb (by simp) hc
theorem Sl.some {A : Option Addr} {xs : List Value} (h : Sl w A xs) (hp : 0 < xs.length) : ∃ b off, A = Option.some ⟨b, off, none⟩ ∧ b < w.heap.size ∧ Sl w (Option.some ⟨b, off, none⟩) xs := by
  obtain ⟨b, off, e, hb, hc⟩ := h hp
  subst e
  exact ⟨b, off, rfl, hb, h⟩
/-- the cells of a block, asz an aggregate -/
theorem cellsB {g T : Nat} {cs : List Value} (hm : SX.Ent.blk g T cs.toArray ∈ L) : ∀ w, SX.Keep w0 M L w → ∀ j u, cs[j]? = some u → w.cell? ⟨g, 0 + j, none⟩ = some u := fun w h j u hu => by
  rw [Nat.zero_add]
  exact h.blk hm (by simpa using hu)
end Z
end Go.Proofs.Ythncbdoiilgnhaa
