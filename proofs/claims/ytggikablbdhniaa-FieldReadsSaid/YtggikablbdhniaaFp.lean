/- The reader: GetAll, GetBytes. -/
import Derived.Test.YtggikablbdhniaaFo
namespace Go.Proofs.Ytggikablbdhniaa
open Go.RowKit
set_option linter.unusedSimpArgs false
set_option linter.unusedVariables false

theorem rgetall_any (g T : Nat) (svb : Value) (l : List Int) (a : Nat) (A : Option Addr) (n c : Nat) (ds : List Int) (w : World) (hs : SX.St w (SX.idsOf (RdL g T svb l a)) w (RdL g T svb l a))
    (hx : Sx w (SX.idsOf (RdL g T svb l a)) A (ints .i64 ds)) (hl : ds.length = n) (hn : n ≤ 1000000) (hll : l.length ≤ 1000000) (ha : a ≤ 8 * l.length) (hb : ∀ x ∈ l, 0 ≤ x ∧ x < 256) :
    Calls Try.prog 22 #[.pointer (some ⟨g, 0, none⟩), .slice A n c] w (SX.Ret fun r w' => ∃ so, r = .tuple #[so, .int .i64 (gsE l a ds)] ∧
      SX.St w (SX.idsOf (RdL g T svb l a)) w' (RdL g T svb l (if gsE l a ds = 0 then gsA l a ds else a) ++ [SX.Ent.row so 33 1 (if gsE l a ds = 0 then n else 0) (ints .u64 (if gsE l a ds = 0 then gsV l a ds else []))])) := by
  generalize hM : SX.idsOf (RdL g T svb l a) = M at *
  refine Z.enter Try.func22 rfl Try.ntmps22 rfl rfl ?_
  refine Z.seq ?_
  refine Z.region ?_
  refine Z.lb 2 rfl ?_
  refine Z.lnil ?_
  refine Z.only [0, 1] rfl ?_
  refine Z.nthen ?_
  refine Z.seq ?_
  refine Z.region ?_
  refine Z.lb 4 rfl ?_
  refine Z.le rfl trivial ?_
  refine Z.ZO.call rfl rfl (by rfl) rfl rfl Try.call42 rfl (each64 g T svb l a A n c ds _ hs.all (hx.lent (L2 := []) (by rwa [List.append_nil])) hl hn hll ha hb) ?_
  rintro v1_4 w1_4 ⟨so, rfl, hz⟩
  replace hs := hs.regainAll hz
  refine Z.lb 4 rfl ?_
  refine Z.lnil ?_
  refine Z.only [4, 5] rfl ?_
  refine Z.nthen ?_
  refine Z.ret ?_
  -- ret#0
  refine Z.out2 (by exact ⟨rfl, rfl, trivial⟩) ?_
  exact ⟨_, rfl, so, rfl, hs⟩

theorem gs8 {l : List Int} : ∀ (n : Nat) {a : Nat}, a + 8 * n ≤ 8 * l.length → gsE l a (List.replicate n 8) = 0 ∧ gsA l a (List.replicate n 8) = a + 8 * n
  | 0, a, _ => ⟨rfl, rfl⟩
  | n + 1, a, h => by
    have h1 : getE l a 8 = 0 := getE_ok (l := l) (a := a) (n := 8) (by omega) (by decide)
    have h2 : getA l a 8 = a + 8 := by unfold getA; rw [if_pos h1]; rfl
    obtain ⟨h3, h4⟩ := gs8 (l := l) n (a := a + 8) (by omega)
    refine ⟨?_, ?_⟩
    · simp only [List.replicate_succ, gsE]
      rw [if_pos h1, h2, h3]
    · have e : gsA l a (List.replicate (n + 1) 8) = gsA l (getA l a 8) (List.replicate n 8) := rfl
      rw [e, h2, h4]
      omega
def gbE (l : List Int) (a : Nat) (n : Int) : Int := if n < 0 then 2 else if ((8 * l.length : Int) - a) / 8 < n then 5 else 0
def gbV (l : List Int) (a : Nat) (n : Int) : List Int := if gbE l a n = 0 then gsV l a (List.replicate n.toNat 8) else []
def gbA (l : List Int) (a : Nat) (n : Int) : Nat := if gbE l a n = 0 then a + 8 * n.toNat else a

set_option maxRecDepth 100000 in
theorem rgetbytes_any (g T : Nat) (svb : Value) (l : List Int) (a : Nat) (n : Int) (w : World) (hs : SX.St w (SX.idsOf (RdL g T svb l a)) w (RdL g T svb l a))
    (hll : l.length ≤ 1000000) (ha : a ≤ 8 * l.length) (hb : ∀ x ∈ l, 0 ≤ x ∧ x < 256) :
    Calls Try.prog 26 #[.pointer (some ⟨g, 0, none⟩), .int .i64 n] w (SX.Ret fun r w' => ∃ so, r = .tuple #[so, .int .i64 (gbE l a n)] ∧
      SX.St w (SX.idsOf (RdL g T svb l a)) w' (RdL g T svb l (gbA l a n) ++ [SX.Ent.row so 5 1 (gbV l a n).length (ints .u8 (gbV l a n))])) := by
  generalize hM : SX.idsOf (RdL g T svb l a) = M at *
  refine Z.enter Try.func26 rfl Try.ntmps26 rfl rfl ?_
  refine Z.seq ?_
  refine Z.region ?_
  refine Z.lb 2 rfl ?_
  refine Z.lnil ?_
  refine Z.only [0, 1] rfl ?_
  refine Z.nthen ?_
  refine Z.seq ?_
  refine Z.block ?_
  refine Z.seq ?_
  refine Z.region ?_
  refine Z.lb 1 rfl ?_
  refine Z.l rfl rfl (by rfl) (Z.keepS hs) (Z.Yd.ptrNil rfl rfl Try.underlying51) ?_
  refine Z.lb 1 rfl ?_
  refine Z.lnil ?_
  refine Z.only [0, 1, 6] rfl ?_
  refine Z.nthen ?_
  refine Z.cond rfl (fun h => absurd h (by simp)) (fun hc1 => ?_)
  refine Z.seq ?_
  refine Z.region ?_
  refine Z.lb 3 rfl ?_
  refine Z.lnil ?_
  refine Z.only [0, 1, 9] rfl ?_
  refine Z.nthen ?_
  refine Z.cond rfl (fun hc3 => ?_) (fun hc3 => ?_)
  · first
      | (exfalso; simp at hc3 <;> omega)
      | (
        (try simp at hc3)
        refine Z.seq ?_
        refine Z.region ?_
        refine Z.lb 2 rfl ?_
        refine Z.lnil ?_
        refine Z.only [4, 5] rfl ?_
        refine Z.nthen ?_
        refine Z.ret ?_
        repeat (first | refine Z.rthen ?_ | refine Z.rblock ?_ | refine Z.rscope ?_)
        -- ret#0
        refine Z.out2 (by exact ⟨rfl, rfl, trivial⟩) ?_
        have e : gbE l a n = 2 := by unfold gbE; rw [if_pos (by omega)]
        refine ⟨_, rfl, _, by rw [e], ?_⟩
        unfold gbA gbV
        rw [e]
        exact (hs.nil 5 1).sel [1, 2, 0] (by decide)
        )
  · first
      | (exfalso; simp at hc3 <;> omega)
      | (
        (try simp at hc3)
        refine Z.seq ?_
        refine Z.region ?_
        refine Z.lb 2 rfl ?_
        refine Z.le rfl trivial ?_
        refine Z.ZO.call rfl rfl (by rfl) rfl rfl Try.call24 rfl (rleft_any g T svb l a _ hs.all hll ha) ?_
        rintro v5_2 w5_2 ⟨rfl, hz⟩
        replace hs := hs.regainAll hz
        refine Z.l rfl rfl (by rfl) (Z.keepS hs) (Z.Yd.quo rfl rfl (by intro hG; first | decide | omega) (by intro hG; first | exact Z.qi64 ⟨by omega, by omega⟩ (by omega) | exact rfl)) ?_
        refine Z.lb 2 rfl ?_
        refine Z.lnil ?_
        refine Z.only [0, 1, 12] rfl ?_
        refine Z.nthen ?_
        refine Z.cond rfl (fun hc5 => ?_) (fun hc5 => ?_)
        · first
            | (exfalso; simp at hc5 <;> omega)
            | (
              (try simp at hc5)
              refine Z.seq ?_
              refine Z.region ?_
              refine Z.lb 2 rfl ?_
              refine Z.lnil ?_
              refine Z.only [4, 5] rfl ?_
              refine Z.nthen ?_
              refine Z.ret ?_
              repeat (first | refine Z.rthen ?_ | refine Z.rblock ?_ | refine Z.rscope ?_)
              -- ret#1
              refine Z.out2 (by exact ⟨rfl, rfl, trivial⟩) ?_
              have e : gbE l a n = 5 := by unfold gbE; rw [if_neg (by omega), if_pos (by omega)]
              refine ⟨_, rfl, _, by rw [e], ?_⟩
              unfold gbA gbV
              rw [e]
              exact (hs.nil 5 1).sel [1, 2, 0] (by decide)
              )
        · first
            | (exfalso; simp at hc5 <;> omega)
            | (
              (try simp at hc5)
              refine Z.skip ?_
              refine Z.nblock ?_
              refine Z.nthen ?_
              refine Z.seq ?_
              refine Z.region ?_
              have e : gbE l a n = 0 := by unfold gbE; rw [if_neg (by omega), if_neg (by omega)]
              obtain ⟨m, rfl⟩ := Int.eq_ofNat_of_zero_le (show 0 ≤ n by omega)
              have hm : a + 8 * m ≤ 8 * l.length := by omega
              obtain ⟨e1, e2⟩ := gs8 (l := l) m hm
              refine Z.l rfl rfl (by rfl) (Z.keepS hs) (Z.Yd.pure rfl) ?_
              refine Z.lb 1 rfl ?_
              refine Z.le rfl trivial ?_
              refine Z.ZO.make1 (m := m) (i0 := Try.t3) (bytes := 8) rfl rfl (by rfl) hs Try.underlying48 (by kernel_rfl) rfl rfl rfl rfl rfl rfl (by omega) (by unfold maxLen; omega) ?_
              clear hs; intro g20 w20 hs
              refine Z.lb 2 rfl ?_
              have e0 : List.replicate m (Value.int .i64 0) = ints .i64 (List.replicate m 0) := by simp [ints]
              rw [e0] at hs
              replace hs := hs.rot (L1 := [_])
              refine Z.le rfl trivial ?_
              refine Z.ZO.call rfl rfl (by rfl) rfl rfl Try.call43 rfl (each8 g T svb l a _ m m (List.replicate m 0) _ (hs.lend (L1 := RdL _ _ _ _ _)) (Z.row_lentv (L1 := RdL _ _ _ _ _) hs (j := 0) rfl) (by simp) (by omega) hll ha hb) ?_
              rintro v7_5 w7_5 ⟨so, rfl, hz⟩
              replace hs := hs.regain (L1 := RdL _ _ _ _ _) hz
              refine Z.lb 4 rfl ?_
              refine Z.lnil ?_
              refine Z.only [4, 5] rfl ?_
              refine Z.nthen ?_
              refine Z.ret ?_
              -- ret#2
              refine Z.out2 (by exact ⟨rfl, rfl, trivial⟩) ?_
              refine ⟨_, rfl, so, by rw [e, e1], ?_⟩
              rw [e1, if_pos rfl, if_pos rfl, if_pos rfl, e2] at hs
              unfold gbA gbV
              rw [e, if_pos rfl, if_pos rfl, gsV_length, Int.toNat_natCast, List.length_replicate]
              exact hs.sel [0, 1, 2] (by decide)
              )
        )
end Go.Proofs.Ytggikablbdhniaa
