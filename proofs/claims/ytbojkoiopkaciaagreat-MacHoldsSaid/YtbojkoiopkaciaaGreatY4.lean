/- Part 4 of the proofs that lead to the statement. -/
import Derived.Test.YtbojkoiopkaciaaGreatY3
/- Several bytes read, and back if one fails. -/
namespace Go.Proofs.YtbojkoiopkaciaaGreat
open Go.RowKit
set_option linter.unusedSimpArgs false
set_option linter.unusedVariables false

theorem getV8 (l : List Int) (a : Nat) : 0 ≤ getV l a 8 ∧ getV l a 8 < 256 := by
  unfold getV
  split
  · have h := val_lt (bitsAt l a (8 : Int).toNat)
    have h2 : (bitsAt l a (8 : Int).toNat).length ≤ 8 := by simp [bitsAt]; omega
    have h3 : 2 ^ (bitsAt l a (8 : Int).toNat).length ≤ 2 ^ 8 := Nat.pow_le_pow_right Z.b12 h2
    have h4 : (2 : Nat) ^ 8 = 256 := by decide
    omega
  decide
theorem octet_any (g T : Nat) (sv : Value) (l : List Int) (at_ : Nat) (x : Int) (w : World) (hs : SX.St w (SX.idsOf (RdL g T sv l at_)) w (RdL g T sv l at_)) (hl : l.length ≤ 1000000) (ha : at_ ≤ 8 * l.length) (hb : ∀ x ∈ l, 0 ≤ x ∧ x < 256) :
    Calls Tryz.prog 193 #[.pointer (some ⟨g, 0, none⟩), .int .i64 x] w (SX.Ret fun r w' => r = .tuple #[.int .u8 (getV l at_ 8), .int .i64 (getE l at_ 8)] ∧ SX.St w (SX.idsOf (RdL g T sv l at_)) w' (RdL g T sv l (getA l at_ 8))) := by
  generalize hM : SX.idsOf (RdL g T sv l at_) = M at *
  have hv := getV8 l at_
  refine Z.enter Tryz.func193 rfl Tryz.ntmps193 rfl rfl ?_
  refine Z.g152 ?_
  refine Z.g82 ?_
  refine Z.g30 ?_
  refine Z.g32 ?_
  refine Z.ZO.call rfl rfl (by rfl) rfl rfl Tryz.call159 rfl (rget_any g T sv l at_ 8 _ hs.all hl ha hb) ?_
  rintro v1_1 w1_1 ⟨rfl, hz⟩
  replace hs := hs.regainAll hz
  refine Z.g212 ?_
  refine Z.only [6, 7] rfl ?_
  refine Z.g30 ?_
  refine Z.g64 ?_
  refine Z.g36 ?_
  refine Z.g247 ?_
  refine Z.g158 ?_
  refine Z.out2 Z.b22 ?_
  exact ⟨_, rfl, rfl, hs⟩

theorem back8 (ge gf gr go g T : Nat) (svb so : Value) (e : Int) (from_ a : Nat) (w : World) (hs : SX.St w (SX.idsOf (dfL ge gf gr go g T 48 svb so e from_ a)) w (dfL ge gf gr go g T 48 svb so e from_ a)) :
    CallsDf Tryz.prog 203 #[.pointer (some ⟨ge, 0, none⟩), .pointer (some ⟨gf, 0, none⟩), .pointer (some ⟨gr, 0, none⟩), .pointer (some ⟨go, 0, none⟩)] w (fun _ w' =>
      SX.St w (SX.idsOf (dfL ge gf gr go g T 48 svb so e from_ a)) w' (dfL ge gf gr go g T 48 svb (if e = 0 then so else .slice none 0 0) e from_ (if e = 0 then a else from_))) := by
  generalize hM : SX.idsOf (dfL ge gf gr go g T 48 svb so e from_ a) = M at *
  simp only [dfL] at hs
  refine Z.enterDf Tryz.func203 rfl Tryz.ntmps203 rfl rfl ?_
  refine Z.g0 ?_
  refine Z.l rfl rfl (by rfl) (Z.keepS hs) (by exact Z.Yd.load rfl Tryz.isAgg31 (fun _ => Z.cellB Z.b0 rfl)) ?_
  refine Z.g1 ?_
  refine Z.only [1, 2, 3, 5] rfl ?_
  refine Z.g313 ?_
  refine Z.cond rfl (fun hc0 => ?_) (fun hc0 => ?_)
  · (try simp at hc0)
    refine Z.region ?_
    refine Z.l rfl rfl (by rfl) (Z.keepS hs) Z.b31 ?_
    refine Z.g14 ?_
    refine Z.g10 ?_
    refine Z.g9 ?_
    refine Z.g156 ?_
    clear hs; intro ws hs
    replace hs := Z.w0 hs
    refine Z.g3 ?_
    refine Z.g84 ?_
    clear hs; intro ws hs
    replace hs := Z.w0 hs
    refine Z.g153 ?_
    refine Z.g128 ?_
    exact ⟨_, rfl, by rw [if_neg hc0, if_neg hc0]; exact hs⟩
  first
    | (exfalso; simp at hc0 <;> omega)
    | (
      (try simp at hc0)
      refine Z.skip ?_
      refine Z.g128 ?_
      exact ⟨_, rfl, by rw [if_pos hc0, if_pos hc0]; exact hs⟩
      )

set_option maxRecDepth 100000 in
theorem each8 (g T : Nat) (svb : Value) (l : List Int) (a : Nat) (A : Option Addr) (n c : Nat) (xs : List Int) (w : World) (hs : SX.St w (SX.idsOf (RdL g T svb l a)) w (RdL g T svb l a))
    (hx : Sx w (SX.idsOf (RdL g T svb l a)) A (ints .i64 xs)) (hl : xs.length = n) (hn : n ≤ 1000000) (hll : l.length ≤ 1000000) (ha : a ≤ 8 * l.length) (hb : ∀ x ∈ l, 0 ≤ x ∧ x < 256) :
    Calls Tryz.prog 192 #[.pointer (some ⟨g, 0, none⟩), .slice A n c, .func (.func 193) #[.pointer (some ⟨g, 0, none⟩)] #[]] w (SX.Ret fun r w' => ∃ so, r = .tuple #[so, .int .i64 (gsE l a (List.replicate n 8))] ∧
      SX.St w (SX.idsOf (RdL g T svb l a)) w' (RdL g T svb l (if gsE l a (List.replicate n 8) = 0 then gsA l a (List.replicate n 8) else a) ++ [SX.Ent.row so 5 1 (if gsE l a (List.replicate n 8) = 0 then n else 0) (ints .u8 (if gsE l a (List.replicate n 8) = 0 then gsV l a (List.replicate n 8) else []))])) := by
  obtain ⟨ds, hds⟩ : ∃ ds, ds = List.replicate n (8 : Int) := ⟨_, rfl⟩
  have hdl : ds.length = n := by rw [hds]; simp
  rw [← hds]
  have hd8 : ∀ k, k < n → ds[k]? = some 8 := fun k hk => by rw [hds, List.getElem?_replicate, if_pos hk]
  clear hds
  generalize hM : SX.idsOf (RdL g T svb l a) = M at *
  have hnil : SX.St w M w (RdL g T svb l a ++ [SX.Ent.row (.slice none 0 0) 5 1 0 []]) := (hs.nil 5 1).sel [1, 2, 0] Z.b12
  clear hs
  have hs := hnil
  clear hnil
  simp only [RdL, List.cons_append, List.nil_append] at hs
  refine Z.enterD Tryz.func192 rfl Tryz.ntmps192 rfl rfl ?_
  refine Z.g90 ?_
  clear hs; intro g3 w3 hs
  refine Z.g3 ?_
  refine Z.g164 ?_
  clear hs; intro g6 w6 hs
  refine Z.g184 ?_
  clear hs; intro g7 w7 hs
  refine Z.g314 ?_
  refine Z.only [1, 2, 3, 6, 7] rfl ?_
  refine Z.g60 ?_
  refine Z.l rfl rfl (by rfl) (Z.keepS hs) Z.b31 ?_
  refine Z.g205 ?_
  refine Z.g314 ?_
  refine Z.only [1, 2, 3, 6, 7, 14] rfl ?_
  refine Z.g313 ?_
  refine Z.cond rfl (fun h => absurd h Z.b17) (fun hc1 => ?_)
  refine Z.g151 ?_
  refine Z.l rfl rfl (by rfl) (Z.keepS hs) Z.b31 ?_
  refine Z.g10 ?_
  refine Z.g140 ?_
  refine Z.g250 ?_
  clear hs; intro g8 w8 hs
  refine Z.g156 ?_
  clear hs; intro ws hs
  replace hs := Z.w0 hs
  refine Z.g314 ?_
  refine Z.only [1, 2, 3, 6, 7, 8] rfl ?_
  refine Z.g30 ?_
  refine Z.g95 ?_
  refine Z.only [1, 2, 6, 7] rfl ?_
  replace hs : SX.St w M _ (RdL g T svb l a ++ [SX.Ent.blk g8 3 #[.int .i64 (a : Int)], SX.Ent.blk g7 31 #[.int .i64 0], SX.Ent.blk g6 48 #[.slice none 0 0], SX.Ent.blk g3 187 #[.pointer (some ⟨g, 0, none⟩)], SX.Ent.row (.slice none 0 0) 5 1 0 []]) := hs.sel [4, 5, 0, 1, 2, 3, 6] Z.b12
  refine Z.g123 ?_
  refine Z.g227 ?_
  refine Z.only [2, 6, 7, 20, 21, 22] rfl ?_
  refine Z.g210 ?_
  refine Z.loopk (ι := Nat × Value) [2, 6, 7, 20, 21] rfl (fun k => [(22, [], .int .i64 (k.1 : Int))]) (fun k wr => k.1 ≤ n ∧ gsE l a (ds.take k.1) = 0 ∧ SX.St w M wr (RdL g T svb l (gsA l a (ds.take k.1)) ++ [SX.Ent.blk g8 3 #[.int .i64 (a : Int)], SX.Ent.blk g7 31 #[.int .i64 0], SX.Ent.blk g6 48 #[k.2], SX.Ent.blk g3 187 #[.pointer (some ⟨g, 0, none⟩)], SX.Ent.row k.2 5 1 k.1 (ints .u8 (gsV l a (ds.take k.1)))])) (fun k => n - k.1) (0, .slice none 0 0) Z.b6 ⟨by omega, rfl, hs⟩ ?_
  clear hs
  rintro ⟨k, so⟩ w1 ⟨hkn, hz, hs⟩
  refine Z.only [2, 6, 7, 20, 21, 22] rfl ?_
  (try dsimp only at hs)
  dsimp only at hkn hz
  simp only [RdL, List.cons_append, List.nil_append] at hs
  refine Z.g120 ?_
  refine Z.only [2, 6, 7, 20, 21, 22, 23] rfl ?_
  refine Z.g150 ?_
  refine Z.cond rfl (fun hc6 => ?_) (fun hc6 => ?_)
  · (try simp at hc6)
    obtain ⟨b, off, rfl, hx⟩ := hx.some Z.b74
    have hwk : ds[k]? = some 8 := hd8 k Z.b9
    have hga := gsA_le (l := l) (ws := ds.take k) ha
    refine Z.g238 ?_
    refine Z.g24 ?_
    refine Z.l rfl rfl (by rfl) (Z.keepS hs) (by exact Z.Yd.load rfl Tryz.isAgg3 (fun hG => Z.cellXi Z.b63 Z.b3 Z.b3)) ?_
    refine Z.g1 ?_
    refine Z.only [2, 6, 7, 10, 20, 21, 22] rfl ?_
    refine Z.g276 ?_
    refine Z.ZO.call rfl rfl (by rfl) rfl rfl Tryz.call193 rfl (octet_any g T svb l _ _ _ (hs.lend (L1 := RdL _ _ _ _ _)) hll hga hb) ?_
    rintro v8_2 w8_2 ⟨rfl, hzz⟩
    replace hs := hs.regain (L1 := RdL _ _ _ _ _) hzz
    simp only [RdL, List.cons_append, List.nil_append] at hs
    refine Z.g212 ?_
    refine Z.only [2, 6, 7, 11, 12, 20, 21, 22] rfl ?_
    refine Z.g234 ?_
    refine Z.only [2, 6, 7, 11, 12, 20, 21, 22, 33] rfl ?_
    refine Z.g313 ?_
    refine Z.cond rfl (fun hc9 => ?_) (fun hc9 => ?_)
    · (try simp at hc9)
      refine Z.g0 ?_
      refine Z.g32 ?_
      refine Z.g84 ?_
      clear hs; intro ws hs
      replace hs := Z.w0 hs
      refine Z.g237 ?_
      clear hs; intro ws hs
      replace hs := Z.w0 hs
      refine Z.g314 ?_
      refine Z.g188 ?_
      repeat (first | refine Z.rthen ?_ | refine Z.rblock ?_ | refine Z.rscope ?_)
      refine Z.outD1 Tryz.call203 (back8 g7 g8 g3 g6 g T svb _ _ a _ _ (SX.St.lend (L1 := dfL _ _ _ _ _ _ _ _ _ _ _ _) (L2 := [_, _]) (hs.sel [3, 2, 5, 4, 0, 1, 6] Z.b12))) ?_
      rintro vD wD hzz
      replace hs := SX.St.regain (L1 := dfL _ _ _ _ _ _ _ _ _ _ _ _) (L2 := [_, _]) (hs.sel [3, 2, 5, 4, 0, 1, 6] Z.b12) hzz
      simp only [dfL, List.cons_append, List.nil_append] at hs
      refine ⟨[_, _], Z.b26, ?_⟩
      have e := gsE_at hwk hz hc9
      rw [if_neg hc9, if_neg hc9] at hs
      refine ⟨_, rfl, _, by rw [if_neg hc9, e]; rfl, ?_⟩
      rw [if_neg (by rw [e]; exact hc9), if_neg (by rw [e]; exact hc9), if_neg (by rw [e]; exact hc9)]
      exact (hs.nil 5 1).sel [5, 6, 0] Z.b12
    (try simp at hc9)
    refine Z.skip ?_
    refine Z.g121 ?_
    refine Z.l rfl rfl (by rfl) (Z.keepS hs) Z.b28 ?_
    refine Z.g32 ?_
    refine Z.ZO.lit rfl rfl (by rfl) rfl (by intro W; go_simp; exact rfl) hs ?_
    clear hs; intro g37 w37 hs
    refine Z.g3 ?_
    refine Z.ZO.append (i0 := Tryz.t5) (size := 1) (bytes := 1) rfl rfl (by rfl) hs Tryz.underlying48 Z.b4 rfl rfl rfl rfl Z.b12 rfl rfl Z.b1 Z.b1 Z.b24 Z.b45 Z.b12 Z.b23 Z.b9 ?_
    clear hs; intro g38 cap38 w38 hs
    simp only [List.set_cons_zero, List.set_cons_succ, List.eraseIdx_cons_zero, List.eraseIdx_cons_succ] at hs
    refine Z.g3 ?_
    refine Z.g84 ?_
    clear hs; intro ws hs
    replace hs := Z.w0 hs
    refine Z.g314 ?_
    refine Z.only [2, 6, 7, 20, 21, 22] rfl ?_
    refine Z.g180 ?_
    refine Z.only [2, 6, 7, 20, 21, 22] rfl ?_
    refine Z.g313 ?_
    obtain ⟨e1, e2, e3⟩ := gs_snoc hwk hz hc9
    have e4 : ints .u8 (gsV l a (ds.take k)) ++ [.int .u8 (getV l (gsA l a (ds.take k)) 8)] = ints .u8 (gsV l a (ds.take (k + 1))) := by rw [e3]; simp [ints]
    rw [e4, ← e2] at hs
    exact Z.again (k + 1, _) Z.b50 ⟨by simp only; omega, e1, hs⟩ Z.b21
  (try simp at hc6)
  refine Z.g211 ?_
  obtain ⟨Ao, co, rfl, -, -, -⟩ := SX.row_slv hs (j := 6) rfl
  refine Z.l rfl rfl (by rfl) (Z.keepS hs) Z.b28 ?_
  refine Z.g3 ?_
  refine Z.g84 ?_
  clear hs; intro ws hs
  replace hs := Z.w0 hs
  refine Z.g237 ?_
  clear hs; intro ws hs
  replace hs := Z.w0 hs
  refine Z.g314 ?_
  refine Z.g188 ?_
  refine Z.outD1 Tryz.call203 (back8 g7 g8 g3 g6 g T svb _ _ a _ _ (SX.St.lend (L1 := dfL _ _ _ _ _ _ _ _ _ _ _ _) (L2 := [_, _]) (hs.sel [3, 2, 5, 4, 0, 1, 6] Z.b12))) ?_
  rintro vD wD hzz
  replace hs := SX.St.regain (L1 := dfL _ _ _ _ _ _ _ _ _ _ _ _) (L2 := [_, _]) (hs.sel [3, 2, 5, 4, 0, 1, 6] Z.b12) hzz
  simp only [dfL, List.cons_append, List.nil_append] at hs
  refine ⟨[_, _], Z.b26, ?_⟩
  obtain rfl : k = n := by omega
  rw [List.take_of_length_le Z.b9] at hz hs
  simp only [if_true] at hs ⊢
  refine ⟨_, rfl, _, by rw [hz]; rfl, ?_⟩
  rw [if_pos hz, if_pos hz, if_pos hz]
  exact hs.sel [4, 5, 6] Z.b12
end Go.Proofs.YtbojkoiopkaciaaGreat

/- The reader: GetAll, GetBytes. -/
namespace Go.Proofs.YtbojkoiopkaciaaGreat
open Go.RowKit
set_option linter.unusedSimpArgs false
set_option linter.unusedVariables false

theorem gs8 {l : List Int} : ∀ (n : Nat) {a : Nat}, a + 8 * n ≤ 8 * l.length → gsE l a (List.replicate n 8) = 0 ∧ gsA l a (List.replicate n 8) = a + 8 * n
  | 0, a, _ => ⟨rfl, rfl⟩
  | n + 1, a, h => by
    have h1 : getE l a 8 = 0 := getE_ok (l := l) (a := a) (n := 8) Z.b9 Z.b12
    have h2 : getA l a 8 = a + 8 := by unfold getA; rw [if_pos h1]; rfl
    obtain ⟨h3, h4⟩ := gs8 (l := l) n (a := a + 8) Z.b9
    refine ⟨?_, ?_⟩
    · simp only [List.replicate_succ, gsE]
      rw [if_pos h1, h2, h3]
    have e : gsA l a (List.replicate (n + 1) 8) = gsA l (getA l a 8) (List.replicate n 8) := rfl
    rw [e, h2, h4]
    omega
def gbE (l : List Int) (a : Nat) (n : Int) : Int := if n < 0 then 2 else if ((8 * l.length : Int) - a) / 8 < n then 5 else 0
def gbV (l : List Int) (a : Nat) (n : Int) : List Int := if gbE l a n = 0 then gsV l a (List.replicate n.toNat 8) else []
def gbA (l : List Int) (a : Nat) (n : Int) : Nat := if gbE l a n = 0 then a + 8 * n.toNat else a

set_option maxRecDepth 100000 in
theorem rgetbytes_any (g T : Nat) (svb : Value) (l : List Int) (a : Nat) (n : Int) (w : World) (hs : SX.St w (SX.idsOf (RdL g T svb l a)) w (RdL g T svb l a))
    (hll : l.length ≤ 1000000) (ha : a ≤ 8 * l.length) (hb : ∀ x ∈ l, 0 ≤ x ∧ x < 256) :
    Calls Tryz.prog 168 #[.pointer (some ⟨g, 0, none⟩), .int .i64 n] w (SX.Ret fun r w' => ∃ so, r = .tuple #[so, .int .i64 (gbE l a n)] ∧
      SX.St w (SX.idsOf (RdL g T svb l a)) w' (RdL g T svb l (gbA l a n) ++ [SX.Ent.row so 5 1 (gbV l a n).length (ints .u8 (gbV l a n))])) := by
  generalize hM : SX.idsOf (RdL g T svb l a) = M at *
  refine Z.enter Tryz.func168 rfl Tryz.ntmps168 rfl rfl ?_
  refine Z.g152 ?_
  refine Z.only [0, 1] rfl ?_
  refine Z.g313 ?_
  refine Z.g35 ?_
  refine Z.g182 ?_
  refine Z.g205 ?_
  refine Z.g1 ?_
  refine Z.only [0, 1, 6] rfl ?_
  refine Z.g313 ?_
  refine Z.cond rfl (fun h => absurd h Z.b17) (fun hc1 => ?_)
  refine Z.g0 ?_
  refine Z.g247 ?_
  refine Z.only [0, 1, 9] rfl ?_
  refine Z.g313 ?_
  refine Z.cond rfl (fun hc3 => ?_) (fun hc3 => ?_)
  · (try simp at hc3)
    refine Z.g152 ?_
    refine Z.g158 ?_
    repeat (first | refine Z.rthen ?_ | refine Z.rblock ?_ | refine Z.rscope ?_)
    refine Z.out2 Z.b22 ?_
    have e : gbE l a n = 2 := by unfold gbE; rw [if_pos Z.b9]
    refine ⟨_, rfl, _, by rw [e], ?_⟩
    unfold gbA gbV
    rw [e]
    exact (hs.nil 5 1).sel [1, 2, 0] Z.b12
  (try simp at hc3)
  refine Z.g0 ?_
  refine Z.g63 ?_
  refine Z.ZO.call rfl rfl (by rfl) rfl rfl Tryz.call166 rfl (rleft_any g T svb l a _ hs.all hll ha) ?_
  rintro v5_2 w5_2 ⟨rfl, hz⟩
  replace hs := hs.regainAll hz
  refine Z.l rfl rfl (by rfl) (Z.keepS hs) (Z.Yd.quo rfl rfl Z.b54 Z.b58) ?_
  refine Z.g31 ?_
  refine Z.only [0, 1, 12] rfl ?_
  refine Z.g313 ?_
  refine Z.cond rfl (fun hc5 => ?_) (fun hc5 => ?_)
  · (try simp at hc5)
    refine Z.g152 ?_
    refine Z.g158 ?_
    repeat (first | refine Z.rthen ?_ | refine Z.rblock ?_ | refine Z.rscope ?_)
    refine Z.out2 Z.b22 ?_
    have e : gbE l a n = 5 := by unfold gbE; rw [if_neg Z.b9, if_pos Z.b9]
    refine ⟨_, rfl, _, by rw [e], ?_⟩
    unfold gbA gbV
    rw [e]
    exact (hs.nil 5 1).sel [1, 2, 0] Z.b12
  (try simp at hc5)
  refine Z.g71 ?_
  refine Z.g30 ?_
  have e : gbE l a n = 0 := by unfold gbE; rw [if_neg Z.b9, if_neg Z.b9]
  obtain ⟨m, rfl⟩ := Int.eq_ofNat_of_zero_le (show 0 ≤ n by omega)
  have hm : a + 8 * m ≤ 8 * l.length := by omega
  obtain ⟨e1, e2⟩ := gs8 (l := l) m hm
  refine Z.g18 ?_
  refine Z.g32 ?_
  refine Z.ZO.make1 (m := m) (i0 := Tryz.t3) (bytes := 8) rfl rfl (by rfl) hs Tryz.underlying34 Z.b4 rfl rfl rfl rfl rfl rfl Z.b9 Z.b23 ?_
  clear hs; intro g20 w20 hs
  refine Z.g22 ?_
  have e0 : List.replicate m (Value.int .i64 0) = ints .i64 (List.replicate m 0) := by simp [ints]
  rw [e0] at hs
  replace hs := hs.rot (L1 := [_])
  refine Z.g3 ?_
  refine Z.ZO.call rfl rfl (by rfl) rfl rfl Tryz.call192 rfl (each8 g T svb l a _ m m (List.replicate m 0) _ (hs.lend (L1 := RdL _ _ _ _ _)) (Z.row_lentv (L1 := RdL _ _ _ _ _) hs (j := 0) rfl) Z.b17 Z.b9 hll ha hb) ?_
  rintro v7_5 w7_5 ⟨so, rfl, hz⟩
  replace hs := hs.regain (L1 := RdL _ _ _ _ _) hz
  refine Z.lb 4 rfl ?_
  refine Z.g314 ?_
  refine Z.g158 ?_
  refine Z.out2 Z.b22 ?_
  refine ⟨_, rfl, so, by rw [e, e1], ?_⟩
  rw [e1, if_pos rfl, if_pos rfl, if_pos rfl, e2] at hs
  unfold gbA gbV
  rw [e, if_pos rfl, if_pos rfl, gsV_length, Int.toNat_natCast, List.length_replicate]
  exact hs.sel [0, 1, 2] Z.b12
end Go.Proofs.YtbojkoiopkaciaaGreat

/- The law's valid. -/
namespace Go.Proofs.YtbojkoiopkaciaaGreat
open Go.RowKit
set_option linter.unusedSimpArgs false
set_option linter.unusedVariables false

end Go.Proofs.YtbojkoiopkaciaaGreat

/- FieldCuts. -/
namespace Go.Proofs.YtbojkoiopkaciaaGreat
open Go.RowKit
set_option linter.unusedSimpArgs false
set_option linter.unusedVariables false

end Go.Proofs.YtbojkoiopkaciaaGreat

/- What is written is read back: plain facts. -/
namespace Go.Proofs.YtbojkoiopkaciaaGreat
open Go.RowKit
set_option linter.unusedSimpArgs false
set_option linter.unusedVariables false

theorem val_fld (v : Nat) : ∀ w, val (fld v w) = v % 2 ^ w := by
  have h : ∀ (bs cs : List Bool), val (bs ++ cs) = val bs * 2 ^ cs.length + val cs := by
    have key : ∀ (cs : List Bool) (a : Nat), cs.foldl (fun v b => 2 * v + b.toNat) a = a * 2 ^ cs.length + cs.foldl (fun v b => 2 * v + b.toNat) 0 := by
      intro cs
      induction cs with
      | nil => intro a; simp
      | cons c cs ih =>
        intro a
        simp only [List.foldl_cons, List.length_cons]
        rw [ih (2 * a + c.toNat), ih (2 * 0 + c.toNat), Nat.pow_succ, Nat.add_mul, Nat.mul_zero, Nat.zero_add, ← Nat.mul_assoc, Nat.mul_comm (a * 2 ^ cs.length) 2, ← Nat.mul_assoc, Nat.add_assoc]
    intro bs cs
    unfold val
    rw [List.foldl_append]
    exact key cs _
  intro w
  induction w with
  | zero => simp [fld, val, Nat.mod_one]
  | succ w ih =>
    have e : fld v (w + 1) = [v.testBit w] ++ fld v w := rfl
    rw [e, h, ih, fld_length]
    have e2 : val [v.testBit w] = (v.testBit w).toNat := by simp [val]
    rw [e2, Nat.toNat_testBit, Nat.pow_succ, Nat.mod_mul]
    rw [Nat.mul_comm (2 ^ w)]
    omega
theorem unb_pk (bs : List Bool) : unb (pk bs) = pad bs := by
  apply List.ext_getElem?
  intro k
  by_cases hk : k < (pk bs).length * 8
  · rw [unb_get hk]
    have hl := pk_length bs
    have e : elt (pk bs) ((k : Int) / 8) = (byt bs (k / 8) : Int) := by
      have := elt_pkn (bs := bs) (m := (bs.length + 7) / 8) (j := k / 8) Z.b9
      rw [← this]
      unfold pk
      congr 1
    rw [e, Int.toNat_natCast]
    have hb : (byt bs (k / 8)).testBit (7 - k % 8) = bt bs k := by
      have hn := bn_le bs
      have hbn : ∀ i, bn bs i = (bt bs i).toNat := fun _ => rfl
      have key : ∀ (b0 b1 b2 b3 b4 b5 b6 b7 : Bool) (r : Nat), r < 8 → (128 * b0.toNat + 64 * b1.toNat + 32 * b2.toNat + 16 * b3.toNat + 8 * b4.toNat + 4 * b5.toNat + 2 * b6.toNat + b7.toNat).testBit (7 - r) = [b0, b1, b2, b3, b4, b5, b6, b7].getD r false := by
        intro b0 b1 b2 b3 b4 b5 b6 b7 r hr
        have h8 : r = 0 ∨ r = 1 ∨ r = 2 ∨ r = 3 ∨ r = 4 ∨ r = 5 ∨ r = 6 ∨ r = 7 := by omega
        rcases h8 with rfl | rfl | rfl | rfl | rfl | rfl | rfl | rfl <;> revert b0 b1 b2 b3 b4 b5 b6 b7 <;> decide
      have := key (bt bs (8 * (k / 8))) (bt bs (8 * (k / 8) + 1)) (bt bs (8 * (k / 8) + 2)) (bt bs (8 * (k / 8) + 3)) (bt bs (8 * (k / 8) + 4)) (bt bs (8 * (k / 8) + 5)) (bt bs (8 * (k / 8) + 6)) (bt bs (8 * (k / 8) + 7)) (k % 8) Z.b9
      unfold byt bn
      rw [this]
      have h8 : k % 8 = 0 ∨ k % 8 = 1 ∨ k % 8 = 2 ∨ k % 8 = 3 ∨ k % 8 = 4 ∨ k % 8 = 5 ∨ k % 8 = 6 ∨ k % 8 = 7 := by omega
      rcases h8 with h | h | h | h | h | h | h | h <;> rw [h] <;> simp <;> congr 1 <;> omega
    rw [hb]
    unfold pad bt
    rw [List.getD_eq_getElem?_getD, List.getElem?_append]
    split
    · rename_i h
      rw [List.getElem?_eq_getElem h]
      rfl
    rename_i h
    rw [List.getElem?_eq_none Z.b9, List.getElem?_replicate, if_pos Z.b9]
    rfl
  have h1 := unb_length (pk bs)
  have h2 := pad_length bs
  have h3 := pk_length bs
  rw [List.getElem?_eq_none Z.b9, List.getElem?_eq_none Z.b9]
end Go.Proofs.YtbojkoiopkaciaaGreat

/- Numbers out of bytes and bits: plain facts. -/
namespace Go.Proofs.YtbojkoiopkaciaaGreat
open Go.RowKit
set_option linter.unusedSimpArgs false
set_option linter.unusedVariables false

theorem snoc_ind {α : Type} {p : List α → Prop} (h0 : p []) (h1 : ∀ l x, p l → p (l ++ [x])) (l : List α) : p l := by
  rw [← List.reverse_reverse l]
  induction l.reverse with
  | nil => exact h0
  | cons x r ih => rw [List.reverse_cons]; exact h1 _ _ ih
theorem val_app (a b : List Bool) : val (a ++ b) = val a * 2 ^ b.length + val b := by
  refine snoc_ind (p := fun b => val (a ++ b) = val a * 2 ^ b.length + val b) ?_ (fun b x ih => ?_) b
  · simp [val]
  rw [← List.append_assoc, val_snoc, ih, val_snoc, List.length_append, List.length_singleton, Nat.pow_succ, ← Nat.mul_assoc]
  omega
theorem val_mid {bs : List Bool} {a n : Nat} (h : a + n ≤ bs.length) : val ((bs.drop a).take n) = val bs / 2 ^ (bs.length - a - n) % 2 ^ n := by
  have e : bs = bs.take a ++ ((bs.drop a).take n ++ bs.drop (a + n)) := by
    rw [← List.drop_drop, List.take_append_drop, List.take_append_drop]
  have hl : ((bs.drop a).take n).length = n := by simp; omega
  have hl2 : (bs.drop (a + n)).length = bs.length - a - n := by simp; omega
  have h1 := val_lt (bs.drop (a + n))
  have h2 := val_lt ((bs.drop a).take n)
  rw [hl2] at h1
  rw [hl] at h2
  have key : val bs = (val (bs.take a) * 2 ^ n + val ((bs.drop a).take n)) * 2 ^ (bs.length - a - n) + val (bs.drop (a + n)) := by
    conv => lhs; rw [e]
    rw [val_app, val_app, List.length_append, hl, hl2, Nat.pow_add, Nat.add_mul, Nat.mul_assoc]
    omega
  rw [key, Nat.mul_comm _ (2 ^ (bs.length - a - n)), Nat.mul_add_div (Nat.pow_pos Z.b12), Nat.div_eq_of_lt h1, Nat.add_zero, Nat.mul_comm, Nat.mul_add_mod, Nat.mod_eq_of_lt h2]
def num (l : List Int) : Int := l.foldl (fun v x => 256 * v + x) 0
theorem num_snoc (l : List Int) (x : Int) : num (l ++ [x]) = 256 * num l + x := by simp [num]
theorem unb_app (a b : List Int) : unb (a ++ b) = unb a ++ unb b := by simp [unb]
theorem val_unb {l : List Int} (hb : ∀ x ∈ l, 0 ≤ x ∧ x < 256) : (val (unb l) : Int) = num l := by
  refine snoc_ind (p := fun l => (∀ x ∈ l, 0 ≤ x ∧ x < 256) → (val (unb l) : Int) = num l) ?_ (fun l x ih hb => ?_) l hb
  · intro _; simp [val, unb, num]
  have h1 := ih fun y hy => hb y (by simp [hy])
  have hx := hb x Z.b17
  rw [unb_app, val_app, num_snoc, ← h1]
  have e : unb [x] = fld x.toNat 8 := by simp [unb]
  rw [e, fld_length, val_fld]
  have : x.toNat % 2 ^ 8 = x.toNat := Nat.mod_eq_of_lt Z.b9
  rw [this]
  omega
theorem num_nonneg {l : List Int} (hb : ∀ x ∈ l, 0 ≤ x ∧ x < 256) : 0 ≤ num l := by rw [← val_unb hb]; omega
theorem getV_num {l : List Int} {a n : Nat} (hb : ∀ x ∈ l, 0 ≤ x ∧ x < 256) (h : a + n ≤ 8 * l.length) (hn : n ≤ 64) : getV l a (n : Int) = num l / 2 ^ (8 * l.length - a - n) % 2 ^ n := by
  have h0 : getE l a (n : Int) = 0 := getE_ok h hn
  unfold getV
  rw [if_pos h0, ← val_unb hb, Int.toNat_natCast]
  unfold bitsAt
  have hl := unb_length l
  rw [val_mid Z.b9, hl, show l.length * 8 - a - n = 8 * l.length - a - n from by omega]
  push_cast
  rfl
theorem pk_bytes {bs : List Bool} : ∀ x ∈ pk bs, 0 ≤ x ∧ x < 256 := by
  intro x hx
  simp only [pk, pkn, List.mem_map] at hx
  obtain ⟨j, _, rfl⟩ := hx
  have := byt_lt bs j
  omega
theorem pk_num {bs : List Bool} (h : bs.length % 8 = 0) : num (pk bs) = (val bs : Int) := by
  rw [← val_unb pk_bytes, unb_pk]
  unfold pad
  rw [h]
  simp
theorem flat_val {f : Int × Int} {fs : List (Int × Int)} : val ((f :: fs).flatMap fldF) = (f.1.toNat % 2 ^ f.2.toNat) * 2 ^ (fs.flatMap fldF).length + val (fs.flatMap fldF) := by
  rw [List.flatMap_cons, val_app]
  unfold fldF
  rw [val_fld]
end Go.Proofs.YtbojkoiopkaciaaGreat

/- Control elements: decoding. -/
namespace Go.Proofs.YtbojkoiopkaciaaGreat
open Go.RowKit
set_option linter.unusedSimpArgs false
set_option linter.unusedVariables false
--newlaws

def Byts (l : List Int) : Prop := ∀ x ∈ l, 0 ≤ x ∧ x < 256
def opE (lc : Int) (l : List Int) (want : Int) (n : Int) : Int := if lc ≠ want then 2 else if (l.length : Int) < n then 5 else if (l.length : Int) > n then 4 else 0
theorem Sl.none0 {w : World} {A : Option Addr} {l : List Int} {k : IntKind} {n : Nat} (h : Sl w A (ints k l)) (hl : l.length = n) (hA : A = none) : n = 0 := by
  cases n with
  | zero => rfl
  | succ n =>
    obtain ⟨b, off, e, -⟩ := h (by simp [ints, hl])
    rw [hA] at e
    cases e
theorem opened_ok (lc want n : Int) (A : Option Addr) (m c : Nat) (l : List Int) (w : World) (hx : Sx w [] A (ints .u8 l)) (hl : l.length = m) (hm : m ≤ 1000000) (h : opE lc l want n = 0) :
    Calls Tryz.prog 154 #[.agg #[.int .i64 lc, .slice A m c], .int .i64 want, .int .i64 n] w (SX.Ret fun v w' => ∃ g sv, v = .agg #[.pointer (some ⟨g, 0, none⟩)] ∧ SX.St w [] w' (RdL g 242 sv l 0)) := by
  have hs := SX.St.start w
  have hz := Sl.none0 hx.sl hl
  unfold opE at h
  split at h
  · simp at h
  split at h
  · simp at h
  split at h
  · simp at h
  refine Z.enter Tryz.func154 rfl Tryz.ntmps154 rfl rfl ?_
  refine Z.g90 ?_
  clear hs; intro g3 w3 hs
  refine Z.g3 ?_
  refine Z.g131 ?_
  clear hs; intro g6 w6 hs
  refine Z.g251 ?_
  refine Z.g110 ?_
  rintro v1_4 w1_4 ⟨rfl, hy⟩
  replace hs := Z.w1 (hs.call hy); clear hy
  refine Z.g236 ?_
  refine Z.ZO.call rfl rfl (by rfl) rfl rfl Tryz.call145 rfl (must_ok _ 5 _ Z.b41) ?_
  rintro v2_5 w2_5 ⟨rfl, hy⟩
  replace hs := Z.w1 (hs.call hy); clear hy
  refine Z.g236 ?_
  refine Z.ZO.call rfl rfl (by rfl) rfl rfl Tryz.call145 rfl (must_ok _ 4 _ Z.b41) ?_
  rintro v3_5 w3_5 ⟨rfl, hy⟩
  replace hs := Z.w1 (hs.call hy); clear hy
  refine Z.g314 ?_
  refine Z.only [3, 6] rfl ?_
  refine Z.g30 ?_
  refine Z.g9 ?_
  refine Z.l rfl rfl (by rfl) (Z.keepS hs) Z.b28 ?_
  refine Z.g3 ?_
  refine Z.ZO.call rfl rfl (by rfl) rfl rfl Tryz.call110 rfl (newreader_any A m c l _ ((hx.st hs).sx) hl Z.b9 hz) ?_
  rintro v4_2 w4_2 ⟨g, sv, rfl, hy⟩
  replace hs := Z.w1 (hs.call hy); clear hy
  refine Z.l rfl rfl (by rfl) (Z.keepS hs) (Z.Yd.buildL [(0, 1)] [.pointer none] rfl rfl Z.b15) ?_
  simp only [RdL, List.cons_append, List.nil_append] at hs
  refine Z.g124 ?_
  clear hs; intro ws hs
  replace hs := Z.w0 hs
  replace hs := Z.w3 hs
  refine Z.g314 ?_
  refine Z.only [6] rfl ?_
  refine Z.g6 ?_
  refine Z.out1 (by exact ⟨⟨_, rfl, Z.rvcA hs Tryz.isAgg237 Z.b0 (by exact Tryz.sizeOf237)⟩, trivial⟩) ?_
  exact ⟨_, rfl, g, sv, rfl, hs.sel [0, 1] Z.b12⟩
theorem opened_bad (lc want n : Int) (A : Option Addr) (m c : Nat) (l : List Int) (w : World) (hl : l.length = m) (hm : m ≤ 9223372036854775807) (h : opE lc l want n ≠ 0) :
    Calls Tryz.prog 154 #[.agg #[.int .i64 lc, .slice A m c], .int .i64 want, .int .i64 n] w (PanE (opE lc l want n) fun w' => SX.St w [] w' []) := by
  have hs := SX.St.start w
  by_cases h1 : lc = want
  · by_cases h2 : (l.length : Int) < n
    · have e : opE lc l want n = 5 := by unfold opE; rw [if_neg Z.b9, if_pos h2]
      rw [e]
      refine Z.enter Tryz.func154 rfl Tryz.ntmps154 rfl rfl ?_
      refine Z.g90 ?_
      clear hs; intro g3 w3 hs
      refine Z.g3 ?_
      refine Z.g131 ?_
      clear hs; intro g6 w6 hs
      refine Z.g251 ?_
      refine Z.g110 ?_
      rintro v1_4 w1_4 ⟨rfl, hy⟩
      replace hs := Z.w1 (hs.call hy); clear hy
      refine Z.g236 ?_
      refine Z.ZO.callP rfl rfl rfl Tryz.call145 rfl (must_bad _ 5 _ Z.b41) ?_
      rintro c2_5 w2_5 ⟨rfl, hy⟩
      replace hs := Z.w1 (hs.call hy); clear hy
      repeat (first | refine Z.pthen ?_ | refine Z.pblock ?_ | refine Z.pscope ?_)
      refine Z.outp ?_
      exact ⟨_, rfl, rfl, hs.sub (List.nil_sublist _)⟩
    by_cases h3 : (l.length : Int) > n
    · have e : opE lc l want n = 4 := by unfold opE; rw [if_neg Z.b9, if_neg h2, if_pos h3]
      rw [e]
      refine Z.enter Tryz.func154 rfl Tryz.ntmps154 rfl rfl ?_
      refine Z.g90 ?_
      clear hs; intro g3 w3 hs
      refine Z.g3 ?_
      refine Z.g131 ?_
      clear hs; intro g6 w6 hs
      refine Z.g251 ?_
      refine Z.g110 ?_
      rintro v1_4 w1_4 ⟨rfl, hy⟩
      replace hs := Z.w1 (hs.call hy); clear hy
      refine Z.g236 ?_
      refine Z.ZO.call rfl rfl (by rfl) rfl rfl Tryz.call145 rfl (must_ok _ 5 _ Z.b41) ?_
      rintro v2_5 w2_5 ⟨rfl, hy⟩
      replace hs := Z.w1 (hs.call hy); clear hy
      refine Z.g236 ?_
      refine Z.ZO.callP rfl rfl rfl Tryz.call145 rfl (must_bad _ 4 _ Z.b41) ?_
      rintro c3_5 w3_5 ⟨rfl, hy⟩
      replace hs := Z.w1 (hs.call hy); clear hy
      repeat (first | refine Z.pthen ?_ | refine Z.pblock ?_ | refine Z.pscope ?_)
      refine Z.outp ?_
      exact ⟨_, rfl, rfl, hs.sub (List.nil_sublist _)⟩
    exact absurd (by unfold opE; rw [if_neg Z.b9, if_neg h2, if_neg h3]) h
  have e : opE lc l want n = 2 := by unfold opE; rw [if_pos h1]
  rw [e]
  refine Z.enter Tryz.func154 rfl Tryz.ntmps154 rfl rfl ?_
  refine Z.g90 ?_
  clear hs; intro g3 w3 hs
  refine Z.g3 ?_
  refine Z.g131 ?_
  clear hs; intro g6 w6 hs
  refine Z.g251 ?_
  refine Z.ZO.callP rfl rfl rfl Tryz.call145 rfl (must_bad _ 2 _ Z.b41) ?_
  rintro c1_4 w1_4 ⟨rfl, hy⟩
  replace hs := Z.w1 (hs.call hy); clear hy
  repeat (first | refine Z.pthen ?_ | refine Z.pblock ?_ | refine Z.pscope ?_)
  refine Z.outp ?_
  exact ⟨_, rfl, rfl, hs.sub (List.nil_sublist _)⟩
theorem dbits_ok (g T : Nat) (sv : Value) (l : List Int) (a n : Nat) (w : World) (hs : SX.St w (SX.idsOf (RdL g T sv l a)) w (RdL g T sv l a)) (hl : l.length ≤ 1000000) (hb : Byts l) (h : a + n ≤ 8 * l.length) (hn : n ≤ 62) :
    Calls Tryz.prog 155 #[.agg #[.pointer (some ⟨g, 0, none⟩)], .int .i64 (n : Int)] w (SX.Ret fun v w' => v = .int .i64 (getV l a (n : Int)) ∧ SX.St w (SX.idsOf (RdL g T sv l a)) w' (RdL g T sv l (a + n))) := by
  generalize hM : SX.idsOf (RdL g T sv l a) = M at *
  have he := getE_ok h Z.b9
  have ha : getA l a (n : Int) = a + n := by unfold getA; rw [if_pos he, Int.toNat_natCast]
  have hv : 0 ≤ getV l a (n : Int) ∧ getV l a (n : Int) < 4611686018427387904 := by
    have h1 : getV l a (n : Int) = (val (bitsAt l a n) : Int) := by unfold getV; rw [if_pos he, Int.toNat_natCast]
    have h2 := val_lt (bitsAt l a n)
    rw [bitsAt_length Z.b9] at h2
    have h3 : 2 ^ n ≤ 2 ^ 62 := Nat.pow_le_pow_right Z.b12 hn
    rw [h1]
    have h4 : (2 : Nat) ^ 62 = 4611686018427387904 := by decide
    rw [h4] at h3
    omega
  refine Z.enter Tryz.func155 rfl Tryz.ntmps155 rfl rfl ?_
  refine Z.g90 ?_
  clear hs; intro g2 w2 hs
  refine Z.g231 ?_
  refine Z.g86 ?_
  refine Z.g64 ?_
  replace hs := hs.rot (L1 := [_])
  refine Z.g3 ?_
  refine Z.ZO.call rfl rfl (by rfl) rfl rfl Tryz.call159 rfl (rget_any g T sv l a (n : Int) _ hs.lend hl Z.b9 hb) ?_
  rintro v1_3 w1_3 ⟨rfl, hz⟩
  replace hs := hs.regain hz
  rw [ha] at hs
  rw [he]
  refine Z.g63 ?_
  refine Z.ZO.call rfl rfl (by rfl) rfl rfl Tryz.call158 rfl (got64_ok _ _) ?_
  rintro v1_6 w1_6 ⟨rfl, hy⟩
  replace hs := Z.w1 (hs.call hy); clear hy
  refine Z.l rfl rfl (by rfl) (Z.keepS hs) (Z.Yd.convI rfl ⟨_, Tryz.underlying123⟩ Tryz.underlying3 (fun hG => Z.wi64 Z.b3)) ?_
  refine Z.g1 ?_
  refine Z.g62 ?_
  refine Z.g52 ?_
  exact ⟨_, rfl, rfl, hs.sub (List.sublist_append_left _ _)⟩

def powE (lc : Int) (l : List Int) : Int := if opE lc l 26 1 ≠ 0 then opE lc l 26 1 else if num l / 64 ≠ 0 then 9 else 0
def powV (lc : Int) (l : List Int) : Int := if powE lc l = 0 then num l else 0
theorem one_byte {l : List Int} (hb : Byts l) (h : l.length = 1) : 0 ≤ num l ∧ num l < 256 ∧ l = [num l] := by
  obtain ⟨x, rfl⟩ := list1 h
  have := hb x Z.b17
  simp [num]
  omega
theorem powclear (g T : Nat) (a : Value) (W : World) (hs : SX.St W (SX.idsOf [SX.Ent.blk g T #[a]]) W [SX.Ent.blk g T #[a]]) :
    Calls Tryz.prog 153 #[.pointer (some ⟨g, 0, none⟩)] W (SX.Ret fun v w' => v = .tuple #[] ∧ SX.St W (SX.idsOf [SX.Ent.blk g T #[a]]) w' [SX.Ent.blk g T #[.int .i64 0]]) := by
  generalize SX.idsOf [SX.Ent.blk g T #[a]] = M at *
  refine Z.enter Tryz.func153 rfl Tryz.ntmps153 rfl rfl ?_
  refine Z.region ?_
  refine Z.g156 ?_
  clear hs; intro ws hs
  replace hs := Z.w0 hs
  refine Z.g153 ?_
  refine Z.g128 ?_
  exact ⟨_, rfl, rfl, hs⟩
theorem idclear (g T : Nat) (a : Value) (W : World) (hs : SX.St W (SX.idsOf [SX.Ent.blk g T #[a]]) W [SX.Ent.blk g T #[a]]) :
    Calls Tryz.prog 156 #[.pointer (some ⟨g, 0, none⟩)] W (SX.Ret fun v w' => v = .tuple #[] ∧ SX.St W (SX.idsOf [SX.Ent.blk g T #[a]]) w' [SX.Ent.blk g T #[.int .u64 0]]) := by
  generalize SX.idsOf [SX.Ent.blk g T #[a]] = M at *
  refine Z.enter Tryz.func156 rfl Tryz.ntmps156 rfl rfl ?_
  refine Z.region ?_
  refine Z.g3 ?_
  refine Z.ZO.store rfl rfl hs Tryz.sizeOf123 rfl rfl rfl Z.b1 Z.b8 ?_
  clear hs; intro ws hs
  replace hs := Z.w0 hs
  refine Z.g153 ?_
  refine Z.g128 ?_
  exact ⟨_, rfl, rfl, hs⟩
set_option maxRecDepth 100000 in
theorem decpow_any (lc : Int) (A : Option Addr) (m c : Nat) (l : List Int) (w : World) (hx : Sx w [] A (ints .u8 l)) (hl : l.length = m) (hm : m ≤ 1000000) (hb : Byts l) :
    Calls Tryz.prog 102 #[.agg #[.int .i64 lc, .slice A m c]] w (SX.Ret fun v w' => v = .tuple #[.int .i64 (powV lc l), .int .i64 (powE lc l)] ∧ SX.St w [] w' []) := by
  have hs := SX.St.start w
  by_cases h : opE lc l 26 1 = 0
  · have hl1 : l.length = 1 := by
      unfold opE at h
      split at h
      · simp at h
      split at h
      · simp at h
      split at h
      · simp at h
      omega
    obtain ⟨h0, h256, -⟩ := one_byte hb hl1
    have e1 : getV l 0 ((2 : Nat) : Int) = num l / 64 := by
      rw [getV_num hb Z.b9 Z.b9, hl1]
      have : num l / 2 ^ (8 * 1 - 0 - 2) % 2 ^ 2 = num l / 64 % 4 := rfl
      rw [this]
      omega
    have e2 : getV l 2 ((6 : Nat) : Int) = num l % 64 := by
      rw [getV_num hb Z.b9 Z.b9, hl1]
      have : num l / 2 ^ (8 * 1 - 2 - 6) % 2 ^ 6 = num l / 1 % 64 := rfl
      rw [this]
      omega
    by_cases h9 : num l / 64 = 0
    · have eE : powE lc l = 0 := by unfold powE; rw [if_neg Z.b9, if_neg Z.b9]
      have eV : powV lc l = num l % 64 := by unfold powV; rw [if_pos eE]; omega
      rw [eE, eV]
      refine Z.enterD Tryz.func102 rfl Tryz.ntmps102 rfl rfl ?_
      refine Z.g90 ?_
      clear hs; intro g1 w1 hs
      refine Z.g250 ?_
      clear hs; intro g2 w2 hs
      refine Z.g184 ?_
      clear hs; intro g3 w3 hs
      refine Z.g61 ?_
      refine Z.g30 ?_
      refine Z.g143 ?_
      refine Z.g3 ?_
      refine Z.ZO.call rfl rfl (by rfl) rfl rfl Tryz.call154 rfl (opened_ok lc 26 1 A m c l _ ((hx.st hs).sx) hl hm h) ?_
      rintro v2_1 w2_1 ⟨gr, sv, rfl, hy⟩
      replace hs := Z.w1 (hs.call hy); clear hy
      refine Z.g3 ?_
      refine Z.g131 ?_
      clear hs; intro g4 w4 hs
      refine Z.g124 ?_
      clear hs; intro ws hs
      replace hs := Z.w0 hs
      replace hs := Z.w3 hs
      refine Z.g255 ?_
      refine Z.l rfl rfl (by rfl) (Z.keepS hs) Z.b48 ?_
      replace hs := hs.sel [1, 2, 3, 4, 0] Z.b12
      replace hs : SX.St w [] _ (RdL gr 242 sv l 0 ++ [_, _, _]) := hs
      refine Z.g3 ?_
      refine Z.g222 ?_
      rintro v3_1 w3_1 ⟨rfl, hz⟩
      replace hs := hs.regain hz
      rw [e1]
      refine Z.g32 ?_
      refine Z.ZO.call rfl rfl (by rfl) rfl rfl Tryz.call145 rfl (must_ok _ 9 _ (by simpa using h9)) ?_
      rintro v3_3 w3_3 ⟨rfl, hy⟩
      replace hs := Z.w1 (hs.call hy); clear hy
      refine Z.g255 ?_
      refine Z.l rfl rfl (by rfl) (Z.keepS hs) Z.b48 ?_
      refine Z.g3 ?_
      refine Z.ZO.call rfl rfl (by rfl) rfl rfl Tryz.call155 rfl (dbits_ok gr _ sv l 2 6 _ hs.lend Z.b9 hb Z.b9 Z.b9) ?_
      rintro v4_1 w4_1 ⟨rfl, hz⟩
      replace hs := hs.regain hz
      rw [e2]
      refine Z.g156 ?_
      clear hs; intro ws hs
      replace hs := Z.w0 hs
      refine Z.g237 ?_
      clear hs; intro ws hs
      replace hs := Z.w0 hs
      refine Z.g314 ?_
      refine Z.g126 ?_
      refine Z.outDr Tryz.call152 (caught_ret g3 _ _ _) ?_
      rintro vD wD ⟨rfl, hy⟩
      replace hs := hs.call hy
      refine ⟨[_, _], Z.b68, ?_⟩
      exact ⟨_, rfl, rfl, hs.sub (List.nil_sublist _)⟩
    have eE : powE lc l = 9 := by unfold powE; rw [if_neg Z.b9, if_pos h9]
    have eV : powV lc l = 0 := by unfold powV; rw [if_neg Z.b9]
    rw [eE, eV]
    refine Z.enterD Tryz.func102 rfl Tryz.ntmps102 rfl rfl ?_
    refine Z.g90 ?_
    clear hs; intro g1 w1 hs
    refine Z.g250 ?_
    clear hs; intro g2 w2 hs
    refine Z.g184 ?_
    clear hs; intro g3 w3 hs
    refine Z.g61 ?_
    refine Z.g30 ?_
    refine Z.g143 ?_
    refine Z.g3 ?_
    refine Z.ZO.call rfl rfl (by rfl) rfl rfl Tryz.call154 rfl (opened_ok lc 26 1 A m c l _ ((hx.st hs).sx) hl hm h) ?_
    rintro v2_1 w2_1 ⟨gr, sv, rfl, hy⟩
    replace hs := Z.w1 (hs.call hy); clear hy
    refine Z.g3 ?_
    refine Z.g131 ?_
    clear hs; intro g4 w4 hs
    refine Z.g124 ?_
    clear hs; intro ws hs
    replace hs := Z.w0 hs
    replace hs := Z.w3 hs
    refine Z.g255 ?_
    refine Z.l rfl rfl (by rfl) (Z.keepS hs) Z.b48 ?_
    replace hs := hs.sel [1, 2, 3, 4, 0] Z.b12
    replace hs : SX.St w [] _ (RdL gr 242 sv l 0 ++ [_, _, _]) := hs
    refine Z.g3 ?_
    refine Z.g222 ?_
    rintro v3_1 w3_1 ⟨rfl, hz⟩
    replace hs := hs.regain hz
    rw [e1]
    refine Z.g32 ?_
    refine Z.ZO.callP rfl rfl rfl Tryz.call145 rfl (must_bad _ 9 _ (by simpa using h9)) ?_
    rintro c3_3 w3_3 ⟨rfl, hy⟩
    replace hs := Z.w1 (hs.call hy); clear hy
    replace hs := hs.sel [2, 3] Z.b12
    repeat (first | refine Z.pthen ?_ | refine Z.pblock ?_ | refine Z.pscope ?_)
    refine Z.outDp Tryz.call152 (caught_pan g3 _ _ _ _ _ [SX.Ent.blk g2 _ _] _ _ (hs.lend (L2 := [])) Tryz.call153 (fun W hW ↦ powclear g2 _ _ W hW)) ?_
    rintro vD wD ⟨rfl, hz⟩
    replace hs := hs.regain (L2 := []) hz
    refine ⟨[_, _], Z.b68, ?_⟩
    exact ⟨_, rfl, rfl, hs.sub (List.nil_sublist _)⟩
  have eE : powE lc l = opE lc l 26 1 := by unfold powE; rw [if_pos h]
  have eV : powV lc l = 0 := by unfold powV; rw [if_neg Z.b9]
  rw [eE, eV]
  refine Z.enterD Tryz.func102 rfl Tryz.ntmps102 rfl rfl ?_
  refine Z.g90 ?_
  clear hs; intro g1 w1 hs
  refine Z.g250 ?_
  clear hs; intro g2 w2 hs
  refine Z.g184 ?_
  clear hs; intro g3 w3 hs
  refine Z.g61 ?_
  refine Z.g30 ?_
  refine Z.g143 ?_
  refine Z.g3 ?_
  refine Z.ZO.callP rfl rfl rfl Tryz.call154 rfl (opened_bad lc 26 1 A m c l _ hl Z.b9 h) ?_
  rintro c2_1 w2_1 ⟨rfl, hy⟩
  replace hs := Z.w1 (hs.call hy); clear hy
  replace hs := hs.sel [0, 1] Z.b12
  repeat (first | refine Z.pthen ?_ | refine Z.pblock ?_ | refine Z.pscope ?_)
  refine Z.outDp Tryz.call152 (caught_pan g3 _ _ _ _ _ [SX.Ent.blk g2 _ _] _ _ (hs.lend (L2 := [])) Tryz.call153 (fun W hW ↦ powclear g2 _ _ W hW)) ?_
  rintro vD wD ⟨rfl, hz⟩
  replace hs := hs.regain (L2 := []) hz
  refine ⟨[_, _], Z.b68, ?_⟩
  exact ⟨_, rfl, rfl, hs.sub (List.nil_sublist _)⟩
end Go.Proofs.YtbojkoiopkaciaaGreat

/- Control elements: identities and reports decoded. -/
namespace Go.Proofs.YtbojkoiopkaciaaGreat
open Go.RowKit
set_option linter.unusedSimpArgs false
set_option linter.unusedVariables false
--newlaws

def wid (lc : Int) : Int := if lc = 27 then 2 else 6
def isId (lc : Int) : Prop := lc = 27 ∨ lc = 28
instance (lc : Int) : Decidable (isId lc) := inferInstanceAs (Decidable (_ ∨ _))
theorem width_ok (lc : Int) (w : World) (h : isId lc) : Calls Tryz.prog 157 #[.int .i64 lc] w (SX.Ret fun v w' => v = .int .i64 (wid lc) ∧ SX.St w [] w' []) := by
  have hs := SX.St.start w
  unfold isId at h
  refine Z.enter Tryz.func157 rfl Tryz.ntmps157 rfl rfl ?_
  refine Z.g241 ?_
  refine Z.lb 6 rfl ?_
  refine Z.g3 ?_
  refine Z.g110 ?_
  rintro v1_6 w1_6 ⟨rfl, hy⟩
  replace hs := Z.w1 (hs.call hy); clear hy
  refine Z.g314 ?_
  refine Z.g82 ?_
  refine Z.g234 ?_
  refine Z.only [11] rfl ?_
  refine Z.g313 ?_
  refine Z.cond rfl (fun hc2 => ?_) (fun hc2 => ?_)
  · (try simp at hc2)
    refine Z.g120 ?_
    refine Z.g33 ?_
    repeat (first | refine Z.rthen ?_ | refine Z.rblock ?_ | refine Z.rscope ?_)
    refine Z.g52 ?_
    exact ⟨_, rfl, by unfold wid; rw [if_pos Z.b9], hs⟩
  (try simp at hc2)
  refine Z.g151 ?_
  refine Z.g154 ?_
  refine Z.g52 ?_
  exact ⟨_, rfl, by unfold wid; rw [if_neg Z.b9], hs⟩
theorem width_bad (lc : Int) (w : World) (h : ¬ isId lc) : Calls Tryz.prog 157 #[.int .i64 lc] w (PanE 2 fun w' => SX.St w [] w' []) := by
  have hs := SX.St.start w
  unfold isId at h
  refine Z.enter Tryz.func157 rfl Tryz.ntmps157 rfl rfl ?_
  refine Z.g241 ?_
  refine Z.lb 6 rfl ?_
  refine Z.g3 ?_
  refine Z.ZO.callP rfl rfl rfl Tryz.call145 rfl (must_bad _ 2 _ Z.b41) ?_
  rintro c1_6 w1_6 ⟨rfl, hy⟩
  replace hs := Z.w1 (hs.call hy); clear hy
  repeat (first | refine Z.pthen ?_ | refine Z.pblock ?_ | refine Z.pscope ?_)
  refine Z.outp ?_
  exact ⟨_, rfl, rfl, hs.sub (List.nil_sublist _)⟩
def idE (lc : Int) (l : List Int) : Int := if isId lc then opE lc l lc (wid lc) else 2
def idV (lc : Int) (l : List Int) : Int := if idE lc l = 0 then num l else 0
theorem opE_len {lc want n : Int} {l : List Int} (h : opE lc l want n = 0) : lc = want ∧ (l.length : Int) = n := by
  unfold opE at h
  split at h
  · simp at h
  split at h
  · simp at h
  split at h
  · simp at h
  omega
theorem num_lt {l : List Int} (hb : Byts l) : num l < ((2 ^ (l.length * 8) : Nat) : Int) := by
  have h1 := val_lt (unb l)
  rw [unb_length] at h1
  rw [← val_unb hb]
  omega
theorem getV_all {l : List Int} (hb : Byts l) (h : l.length ≤ 8) : getV l 0 ((8 * l.length : Nat) : Int) = num l := by
  have h0 : getE l 0 ((8 * l.length : Nat) : Int) = 0 := getE_ok Z.b9 Z.b9
  unfold getV
  rw [if_pos h0, ← val_unb hb, Int.toNat_natCast]
  unfold bitsAt
  rw [List.drop_zero, List.take_of_length_le (by rw [unb_length]; omega)]
set_option maxRecDepth 100000 in
theorem decid_any (lc : Int) (A : Option Addr) (m c : Nat) (l : List Int) (w : World) (hx : Sx w [] A (ints .u8 l)) (hl : l.length = m) (hm : m ≤ 9223372036854775807) (hb : Byts l) :
    Calls Tryz.prog 104 #[.agg #[.int .i64 lc, .slice A m c]] w (SX.Ret fun v w' => v = .tuple #[.int .u64 (idV lc l), .int .i64 (idE lc l)] ∧ SX.St w [] w' []) := by
  have hs := SX.St.start w
  by_cases hi : isId lc
  · by_cases h : opE lc l lc (wid lc) = 0
    · have eE : idE lc l = 0 := by unfold idE; rw [if_pos hi, h]
      have eV : idV lc l = num l := by unfold idV; rw [if_pos eE]
      obtain ⟨-, hlw⟩ := opE_len h
      have hw : wid lc = 2 ∨ wid lc = 6 := by unfold wid; split <;> omega
      have hg := getV_all hb Z.b9
      have h8 : 8 * wid lc = ((8 * l.length : Nat) : Int) := by omega
      have hge := getE_ok (l := l) (a := 0) (n := 8 * l.length) Z.b9 Z.b9
      rw [eE, eV]
      refine Z.enterD Tryz.func104 rfl Tryz.ntmps104 rfl rfl ?_
      refine Z.g90 ?_
      clear hs; intro g1 w1 hs
      refine Z.g3 ?_
      refine Z.ZO.alloc rfl rfl (by rfl) Tryz.zeroValue123 rfl hs ?_
      clear hs; intro g2 w2 hs
      refine Z.g184 ?_
      clear hs; intro g3 w3 hs
      refine Z.g61 ?_
      refine Z.g263 ?_
      refine Z.ZO.call rfl rfl (by rfl) rfl rfl Tryz.call157 rfl (width_ok lc _ hi) ?_
      rintro v2_2 w2_2 ⟨rfl, hy⟩
      replace hs := Z.w1 (hs.call hy); clear hy
      refine Z.g1 ?_
      refine Z.only [1, 2, 3, 4] rfl ?_
      refine Z.g30 ?_
      refine Z.g143 ?_
      refine Z.g97 ?_
      refine Z.g32 ?_
      refine Z.ZO.call rfl rfl (by rfl) rfl rfl Tryz.call154 rfl (opened_ok lc lc (wid lc) A m c l _ ((hx.st hs).sx) hl Z.b9 h) ?_
      rintro v3_4 w3_4 ⟨gr, sv, rfl, hy⟩
      replace hs := Z.w1 (hs.call hy); clear hy
      refine Z.l rfl rfl (by rfl) (Z.keepS hs) (by exact Z.Yd.fieldL 0 1 rfl rfl Z.b15) ?_
      refine Z.g64 ?_
      refine Z.l rfl rfl (by rfl) (Z.keepS hs) (Z.Yd.mul rfl rfl (fun hG => Z.wi64 Z.b3)) ?_
      replace hs : SX.St w [] _ (RdL gr 242 sv l 0 ++ [_, _, _]) := hs
      rw [h8]
      refine Z.g3 ?_
      refine Z.ZO.call rfl rfl (by rfl) rfl rfl Tryz.call159 rfl (rget_any gr _ sv l 0 _ _ hs.lend Z.b9 Z.b9 hb) ?_
      rintro v3_8 w3_8 ⟨rfl, hz⟩
      replace hs := hs.regain hz
      rw [hg, hge]
      refine Z.g63 ?_
      refine Z.ZO.call rfl rfl (by rfl) rfl rfl Tryz.call158 rfl (got64_ok _ _) ?_
      rintro v3_11 w3_11 ⟨rfl, hy⟩
      replace hs := Z.w1 (hs.call hy); clear hy
      simp only [RdL, List.cons_append, List.nil_append] at hs
      refine Z.g3 ?_
      refine Z.ZO.store rfl rfl hs Tryz.sizeOf123 rfl rfl rfl Z.b1 Z.b8 ?_
      clear hs; intro ws hs
      replace hs := Z.w0 hs
      refine Z.g237 ?_
      clear hs; intro ws hs
      replace hs := Z.w0 hs
      refine Z.g314 ?_
      refine Z.g126 ?_
      refine Z.outDr Tryz.call152 (caught_ret g3 _ _ _) ?_
      rintro vD wD ⟨rfl, hy⟩
      replace hs := hs.call hy
      refine ⟨[_, _], Z.b67, ?_⟩
      exact ⟨_, rfl, rfl, hs.sub (List.nil_sublist _)⟩
    have eE : idE lc l = opE lc l lc (wid lc) := by unfold idE; rw [if_pos hi]
    have eV : idV lc l = 0 := by unfold idV; rw [if_neg Z.b9]
    rw [eE, eV]
    refine Z.enterD Tryz.func104 rfl Tryz.ntmps104 rfl rfl ?_
    refine Z.g90 ?_
    clear hs; intro g1 w1 hs
    refine Z.g3 ?_
    refine Z.ZO.alloc rfl rfl (by rfl) Tryz.zeroValue123 rfl hs ?_
    clear hs; intro g2 w2 hs
    refine Z.g184 ?_
    clear hs; intro g3 w3 hs
    refine Z.g61 ?_
    refine Z.g263 ?_
    refine Z.ZO.call rfl rfl (by rfl) rfl rfl Tryz.call157 rfl (width_ok lc _ hi) ?_
    rintro v2_2 w2_2 ⟨rfl, hy⟩
    replace hs := Z.w1 (hs.call hy); clear hy
    refine Z.g1 ?_
    refine Z.only [1, 2, 3, 4] rfl ?_
    refine Z.g30 ?_
    refine Z.g143 ?_
    refine Z.g97 ?_
    refine Z.g32 ?_
    refine Z.ZO.callP rfl rfl rfl Tryz.call154 rfl (opened_bad lc lc (wid lc) A m c l _ hl Z.b9 h) ?_
    rintro c3_4 w3_4 ⟨rfl, hy⟩
    replace hs := Z.w1 (hs.call hy); clear hy
    replace hs := hs.sel [0, 1] Z.b12
    repeat (first | refine Z.pthen ?_ | refine Z.pblock ?_ | refine Z.pscope ?_)
    refine Z.outDp Tryz.call152 (caught_pan g3 _ _ _ _ _ [SX.Ent.blk g2 _ _] _ _ (hs.lend (L2 := [])) Tryz.call156 (fun W hW ↦ idclear g2 _ _ W hW)) ?_
    rintro vD wD ⟨rfl, hz⟩
    replace hs := hs.regain (L2 := []) hz
    refine ⟨[_, _], Z.b67, ?_⟩
    exact ⟨_, rfl, rfl, hs.sub (List.nil_sublist _)⟩
  have eE : idE lc l = 2 := by unfold idE; rw [if_neg hi]
  have eV : idV lc l = 0 := by unfold idV; rw [if_neg Z.b9]
  rw [eE, eV]
  refine Z.enterD Tryz.func104 rfl Tryz.ntmps104 rfl rfl ?_
  refine Z.g90 ?_
  clear hs; intro g1 w1 hs
  refine Z.g3 ?_
  refine Z.ZO.alloc rfl rfl (by rfl) Tryz.zeroValue123 rfl hs ?_
  clear hs; intro g2 w2 hs
  refine Z.g184 ?_
  clear hs; intro g3 w3 hs
  refine Z.g61 ?_
  refine Z.g263 ?_
  refine Z.ZO.callP rfl rfl rfl Tryz.call157 rfl (width_bad lc _ hi) ?_
  rintro c2_2 w2_2 ⟨rfl, hy⟩
  replace hs := Z.w1 (hs.call hy); clear hy
  replace hs := hs.sel [0, 1] Z.b12
  repeat (first | refine Z.pthen ?_ | refine Z.pblock ?_ | refine Z.pscope ?_)
  refine Z.outDp Tryz.call152 (caught_pan g3 _ _ _ _ _ [SX.Ent.blk g2 _ _] _ _ (hs.lend (L2 := [])) Tryz.call156 (fun W hW ↦ idclear g2 _ _ W hW)) ?_
  rintro vD wD ⟨rfl, hz⟩
  replace hs := hs.regain (L2 := []) hz
  refine ⟨[_, _], Z.b67, ?_⟩
  exact ⟨_, rfl, rfl, hs.sub (List.nil_sublist _)⟩
end Go.Proofs.YtbojkoiopkaciaaGreat

/- Control elements: reports decoded. -/
namespace Go.Proofs.YtbojkoiopkaciaaGreat
open Go.RowKit
set_option linter.unusedSimpArgs false
set_option linter.unusedVariables false
--newlaws

def repE (lc : Int) (l : List Int) : Int := if lc = 30 then opE lc l 30 3 else opE lc l 29 1
structure RepV where
  long : Bool
  group : Int
  a : Int
  b : Int
  c : Int
  d : Int
def RepV.cells (r : RepV) : List Value := [.bool r.long, .int .i64 r.group, .int .i64 r.a, .int .i64 r.b, .int .i64 r.c, .int .i64 r.d]
def RepV.zero : RepV := ⟨false, 0, 0, 0, 0, 0⟩
def RepV.short (g v : Int) : RepV := ⟨false, g, if g = 0 then v else 0, if g = 1 then v else 0, if g = 2 then v else 0, if g = 3 then v else 0⟩
def RepV.lng (n : Int) : RepV := ⟨true, 0, n / 262144, n / 4096 % 64, n / 64 % 64, n % 64⟩
def repV (lc : Int) (l : List Int) : RepV := if repE lc l ≠ 0 then RepV.zero else if lc = 30 then RepV.lng (num l) else RepV.short (num l / 64) (num l % 64)
def lcells (x : Nat → Int) (k : Nat) : List Value := [.bool true, .int .i64 0, .int .i64 (if 0 < k then x 0 else 0), .int .i64 (if 1 < k then x 1 else 0), .int .i64 (if 2 < k then x 2 else 0), .int .i64 (if 3 < k then x 3 else 0)]
@[simp] theorem lcells_len (x : Nat → Int) (k : Nat) : (lcells x k).length = 6 := rfl
theorem lcells_set (x : Nat → Int) (k : Nat) (hk : k < 4) : (lcells x k).set (2 + (k : Int).toNat * 1) (.int .i64 (x k)) = lcells x (k + 1) := by
  have h : k = 0 ∨ k = 1 ∨ k = 2 ∨ k = 3 := by omega
  rcases h with rfl | rfl | rfl | rfl <;> rfl
theorem repclear (g T : Nat) (cs : List Value) (hc : cs.length = 6) (W : World) (hs : SX.St W (SX.idsOf [SX.Ent.blk g T cs.toArray]) W [SX.Ent.blk g T cs.toArray]) :
    Calls Tryz.prog 160 #[.pointer (some ⟨g, 0, none⟩)] W (SX.Ret fun v w' => v = .tuple #[] ∧ SX.St W (SX.idsOf [SX.Ent.blk g T cs.toArray]) w' [SX.Ent.blk g T RepV.zero.cells.toArray]) := by
  generalize SX.idsOf [SX.Ent.blk g T cs.toArray] = M at *
  obtain ⟨x0, x1, x2, x3, x4, x5, rfl⟩ := list6 hc
  refine Z.enter Tryz.func160 rfl Tryz.ntmps160 rfl rfl ?_
  refine Z.region ?_
  refine Z.g136 ?_
  refine Z.g124 ?_
  clear hs; intro ws hs
  replace hs := Z.w0 hs
  replace hs := Z.w3 hs
  refine Z.g153 ?_
  refine Z.g128 ?_
  exact ⟨_, rfl, rfl, hs⟩
set_option maxRecDepth 100000 in
theorem declong (A : Option Addr) (m c : Nat) (l : List Int) (w : World) (hx : Sx w [] A (ints .u8 l)) (hl : l.length = m) (hm : m ≤ 1000000) (hb : Byts l) (h : opE 30 l 30 3 = 0) :
    Calls Tryz.prog 106 #[.agg #[.int .i64 30, .slice A m c]] w (SX.Ret fun v w' => v = .tuple #[.agg (RepV.lng (num l)).cells.toArray, .int .i64 0] ∧ SX.St w [] w' []) := by
  have hs := SX.St.start w
  obtain ⟨-, hl3⟩ := opE_len h
  have hl3 : l.length = 3 := by omega
  have hn := num_lt hb
  have hn0 := num_nonneg hb
  rw [hl3] at hn
  have hx4 : ∀ k : Nat, k < 4 → getV l (6 * k) ((6 : Nat) : Int) = num l / 2 ^ (18 - 6 * k) % 64 := fun k hk => by
    rw [getV_num hb Z.b9 Z.b9, hl3, show 8 * 3 - 6 * k - 6 = 18 - 6 * k from by omega]
    rfl
  have ex : ∀ x : Nat → Int, (∀ k, k < 4 → x k = num l / 2 ^ (18 - 6 * k) % 64) → lcells x 4 = (RepV.lng (num l)).cells := fun x hx => by
    have h0 := hx 0 Z.b9
    have h1 := hx 1 Z.b9
    have h2 := hx 2 Z.b9
    have h3 := hx 3 Z.b9
    have e0 : num l / 2 ^ (18 - 6 * 0) % 64 = num l / 262144 := by
      have : num l / 2 ^ (18 - 6 * 0) % 64 = num l / 262144 % 64 := rfl
      have h2 : ((2 ^ (3 * 8) : Nat) : Int) = 16777216 := by decide
      rw [h2] at hn
      rw [this]; omega
    have e1 : num l / 2 ^ (18 - 6 * 1) % 64 = num l / 4096 % 64 := rfl
    have e2 : num l / 2 ^ (18 - 6 * 2) % 64 = num l / 64 % 64 := rfl
    have e3 : num l / 2 ^ (18 - 6 * 3) % 64 = num l % 64 := by
      have : num l / 2 ^ (18 - 6 * 3) % 64 = num l / 1 % 64 := rfl
      rw [this]; omega
    rw [e0] at h0
    rw [e1] at h1
    rw [e2] at h2
    rw [e3] at h3
    simp [lcells, RepV.cells, RepV.lng, h0, h1, h2, h3]
  generalize hX : (fun k : Nat => num l / 2 ^ (18 - 6 * k) % 64) = X
  have hXk : ∀ k, X k = num l / 2 ^ (18 - 6 * k) % 64 := fun k => by rw [← hX]
  have eL := ex X (fun k _ => hXk k)
  rw [← eL]
  refine Z.enterD Tryz.func106 rfl Tryz.ntmps106 rfl rfl ?_
  refine Z.g90 ?_
  clear hs; intro g1 w1 hs
  refine Z.g3 ?_
  refine Z.g165 ?_
  clear hs; intro g2 w2 hs
  refine Z.g184 ?_
  clear hs; intro g3 w3 hs
  refine Z.g216 ?_
  refine Z.g313 ?_
  refine Z.cond rfl (fun hc2 => ?_) (fun h => absurd h Z.b17)
  refine Z.g0 ?_
  refine Z.g143 ?_
  refine Z.g3 ?_
  refine Z.ZO.call rfl rfl (by rfl) rfl rfl Tryz.call154 rfl (opened_ok 30 30 3 A m c l _ ((hx.st hs).sx) hl hm h) ?_
  rintro v3_1 w3_1 ⟨gr, sv, rfl, hy⟩
  replace hs := Z.w1 (hs.call hy); clear hy
  refine Z.g3 ?_
  refine Z.g131 ?_
  clear hs; intro g4 w4 hs
  refine Z.g124 ?_
  clear hs; intro ws hs
  replace hs := Z.w0 hs
  replace hs := Z.w3 hs
  refine Z.g255 ?_
  refine Z.g4 ?_
  refine Z.g3 ?_
  refine Z.g75 ?_
  clear hs; intro ws hs
  replace hs := Z.w0 hs
  refine Z.g314 ?_
  refine Z.only [2, 3, 4] rfl ?_
  refine Z.g60 ?_
  refine Z.g1 ?_
  refine Z.only [2, 3, 4, 14] rfl ?_
  refine Z.g210 ?_
  refine Z.loopk (ι := Nat) [2, 3, 4] rfl (fun k => [(14, [], .int .i64 (k : Int))]) (fun k wr => k ≤ 4 ∧ SX.St w [] wr (RdL gr 242 sv l (6 * k) ++ [SX.Ent.blk g2 86 (lcells X k).toArray, SX.Ent.blk g3 31 #[.int .i64 0], SX.Ent.blk g4 237 #[.pointer (some ⟨gr, 0, none⟩)]])) (fun k => 4 - k) 0 Z.b6 ⟨by omega, hs.sel [1, 2, 4, 3, 0] Z.b12⟩ ?_
  clear hs
  rintro k w1 ⟨hk, hs⟩
  refine Z.only [2, 3, 4, 14] rfl ?_
  refine Z.g120 ?_
  refine Z.only [2, 3, 4, 14, 15] rfl ?_
  refine Z.g150 ?_
  refine Z.cond rfl (fun hc6 => ?_) (fun hc6 => ?_)
  · (try simp at hc6)
    refine Z.g91 ?_
    refine Z.g152 ?_
    refine Z.only [2, 3, 4, 5, 14] rfl ?_
    refine Z.g121 ?_
    refine Z.g64 ?_
    refine Z.l rfl rfl (by rfl) (Z.keepS hs) Z.b48 ?_
    have hv := hx4 k Z.b9
    refine Z.g3 ?_
    refine Z.ZO.call rfl rfl (by rfl) rfl rfl Tryz.call155 rfl (dbits_ok gr _ sv l (6 * k) 6 _ hs.lend Z.b9 hb Z.b9 Z.b9) ?_
    rintro v8_2 w8_2 ⟨rfl, hz⟩
    replace hs := hs.regain hz
    rw [hv, ← hXk k]
    simp only [RdL, List.cons_append, List.nil_append] at hs
    refine Z.g21 ?_
    refine Z.g59 ?_
    refine Z.g156 ?_
    clear hs; intro ws hs
    replace hs := Z.w0 hs
    refine Z.g314 ?_
    refine Z.only [2, 3, 4, 14] rfl ?_
    refine Z.g180 ?_
    refine Z.only [2, 3, 4, 14] rfl ?_
    refine Z.g313 ?_
    rw [lcells_set X k Z.b9] at hs
    exact Z.again (k + 1) Z.b10 ⟨by omega, hs⟩ Z.b9
  first
    | (exfalso; simp at hc6 <;> omega)
    | (
      (try simp at hc6)
      refine Z.g211 ?_
      obtain rfl : k = 4 := by omega
      simp only [RdL, List.cons_append, List.nil_append] at hs
      unfold lcells at hs
      refine Z.l rfl rfl (by rfl) (Z.keepS hs) Z.b61 ?_
      refine Z.g124 ?_
      clear hs; intro ws hs
      replace hs := Z.w0 hs
      replace hs := Z.w3 hs
      refine Z.g237 ?_
      clear hs; intro ws hs
      replace hs := Z.w0 hs
      refine Z.g314 ?_
      refine Z.g126 ?_
      repeat (first | refine Z.rthen ?_ | refine Z.rblock ?_ | refine Z.rscope ?_)
      refine Z.outDr Tryz.call152 (caught_ret g3 _ _ _) ?_
      rintro vD wD ⟨rfl, hy⟩
      replace hs := hs.call hy
      refine ⟨[_, _], Z.b51, ?_⟩
      exact ⟨_, rfl, rfl, hs.sub (List.nil_sublist _)⟩
      )

set_option maxRecDepth 100000 in
theorem decshort (A : Option Addr) (m c : Nat) (l : List Int) (w : World) (hx : Sx w [] A (ints .u8 l)) (hl : l.length = m) (hm : m ≤ 1000000) (hb : Byts l) (h : opE 29 l 29 1 = 0) :
    Calls Tryz.prog 106 #[.agg #[.int .i64 29, .slice A m c]] w (SX.Ret fun v w' => v = .tuple #[.agg (RepV.short (num l / 64) (num l % 64)).cells.toArray, .int .i64 0] ∧ SX.St w [] w' []) := by
  have hs := SX.St.start w
  obtain ⟨-, hl1⟩ := opE_len h
  have hl1 : l.length = 1 := by omega
  obtain ⟨h0, h256, -⟩ := one_byte hb hl1
  have e1 : getV l 0 ((2 : Nat) : Int) = num l / 64 := by
    rw [getV_num hb Z.b9 Z.b9, hl1]
    have : num l / 2 ^ (8 * 1 - 0 - 2) % 2 ^ 2 = num l / 64 % 4 := rfl
    rw [this]
    omega
  have e2 : getV l 2 ((6 : Nat) : Int) = num l % 64 := by
    rw [getV_num hb Z.b9 Z.b9, hl1]
    have : num l / 2 ^ (8 * 1 - 2 - 6) % 2 ^ 6 = num l / 1 % 64 := rfl
    rw [this]
    omega
  generalize num l % 64 = V at *
  obtain ⟨q, hq⟩ : ∃ q, num l / 64 = q := ⟨_, rfl⟩
  have hq4 : q = 0 ∨ q = 1 ∨ q = 2 ∨ q = 3 := by omega
  rw [hq] at e1 ⊢
  have hsh : ([.bool false, .int .i64 q, .int .i64 0, .int .i64 0, .int .i64 0, .int .i64 0] : List Value).set (2 + q.toNat * 1) (.int .i64 V) = (RepV.short q V).cells := by
    rcases hq4 with rfl | rfl | rfl | rfl <;> rfl
  refine Z.enterD Tryz.func106 rfl Tryz.ntmps106 rfl rfl ?_
  refine Z.g90 ?_
  clear hs; intro g1 w1 hs
  refine Z.g3 ?_
  refine Z.g165 ?_
  clear hs; intro g2 w2 hs
  refine Z.g184 ?_
  clear hs; intro g3 w3 hs
  refine Z.g216 ?_
  refine Z.g313 ?_
  refine Z.cond rfl (fun h => absurd h Z.b17) (fun hc2 => ?_)
  refine Z.g151 ?_
  refine Z.g143 ?_
  refine Z.g3 ?_
  refine Z.ZO.call rfl rfl (by rfl) rfl rfl Tryz.call154 rfl (opened_ok 29 29 1 A m c l _ ((hx.st hs).sx) hl hm h) ?_
  rintro v11_1 w11_1 ⟨gr, sv, rfl, hy⟩
  replace hs := Z.w1 (hs.call hy); clear hy
  refine Z.g3 ?_
  refine Z.g131 ?_
  clear hs; intro g6 w6 hs
  refine Z.g124 ?_
  clear hs; intro ws hs
  replace hs := Z.w0 hs
  replace hs := Z.w3 hs
  refine Z.g314 ?_
  refine Z.only [2, 3, 6] rfl ?_
  refine Z.g30 ?_
  refine Z.l rfl rfl (by rfl) (Z.keepS hs) Z.b48 ?_
  replace hs := hs.sel [1, 2, 3, 4, 0] Z.b12
  replace hs : SX.St w [] _ (RdL gr 242 sv l 0 ++ [_, _, _]) := hs
  refine Z.g3 ?_
  refine Z.g222 ?_
  rintro v12_1 w12_1 ⟨rfl, hz⟩
  replace hs := hs.regain hz
  rw [e1]
  simp only [RdL, List.cons_append, List.nil_append] at hs
  refine Z.g9 ?_
  refine Z.g156 ?_
  clear hs; intro ws hs
  replace hs := Z.w0 hs
  refine Z.g314 ?_
  refine Z.only [2, 3, 6] rfl ?_
  refine Z.g150 ?_
  refine Z.drawL [SX.Ent.blk g2 86 #[.bool false, .int .i64 q, .int .i64 0, .int .i64 0, .int .i64 0, .int .i64 0], SX.Ent.blk g6 237 #[.pointer (some ⟨gr, 0, none⟩)]] (fun j => j != 6) mixed hs ?_
  clear hs; intro wd13 hs
  refine Z.g145 ?_
  refine Z.t 1 rfl rfl rfl (by rfl) Z.b4 ⟨_, hs, Z.b2⟩ Z.b25 ?_
  refine Z.t 2 rfl rfl rfl (by rfl) Z.b4 ⟨_, hs, Z.b2⟩ Z.b48 ?_
  refine Z.tX 4 [4, 5, 6] rfl rfl rfl (by rfl) Z.b4 ⟨_, hs, Z.b2⟩ (Z.Yd.fieldA (m := 2) rfl Z.b4) ?_
  replace hs : SX.St w [] _ (RdL gr 242 sv l 2 ++ [_, _, _]) := hs
  refine Z.tn 3 rfl rfl Z.b4 rfl trivial ?_
  refine Z.ZO.call rfl rfl (by rfl) rfl rfl Tryz.call155 rfl (dbits_ok gr _ sv l 2 6 _ hs.lend Z.b9 hb Z.b9 Z.b9) ?_
  rintro v13_3 w13_3 ⟨rfl, hz⟩
  replace hs := hs.regain hz
  rw [e2]
  simp only [RdL, List.cons_append, List.nil_append] at hs
  refine Z.tk (Dn := fun j => j != 6) (i := 3) (fun _ => ⟨_, hs, Z.b2⟩) ?_
  refine Z.t 5 rfl rfl rfl (by rfl) Z.b4 ⟨_, hs, Z.b2⟩ (Z.Yd.elemA rfl rfl Tryz.underlying37 Tryz.sizeOf3 (fun hG => ⟨Z.b3, Z.b3⟩)) ?_
  refine Z.g191 ?_
  refine Z.g23 ?_
  clear hs; intro ws hs
  replace hs := Z.w0 hs
  refine Z.tk (Dn := fun j => j != 6) (i := 6) (fun h => absurd h Z.b12) ?_
  refine Z.g68 ?_
  refine Z.only [2, 3] rfl ?_
  rw [hsh] at hs
  unfold RepV.short RepV.cells at hs
  refine Z.g30 ?_
  refine Z.l rfl rfl (by rfl) (Z.keepS hs) Z.b61 ?_
  refine Z.g124 ?_
  clear hs; intro ws hs
  replace hs := Z.w0 hs
  replace hs := Z.w3 hs
  refine Z.g237 ?_
  clear hs; intro ws hs
  replace hs := Z.w0 hs
  refine Z.g314 ?_
  refine Z.g126 ?_
  refine Z.outDr Tryz.call152 (caught_ret g3 _ _ _) ?_
  rintro vD wD ⟨rfl, hy⟩
  replace hs := hs.call hy
  refine ⟨[_, _], Z.b51, ?_⟩
  exact ⟨_, rfl, rfl, hs.sub (List.nil_sublist _)⟩
set_option maxRecDepth 100000 in
theorem decrep_any (lc : Int) (A : Option Addr) (m c : Nat) (l : List Int) (w : World) (hx : Sx w [] A (ints .u8 l)) (hl : l.length = m) (hm : m ≤ 1000000) (hb : Byts l) :
    Calls Tryz.prog 106 #[.agg #[.int .i64 lc, .slice A m c]] w (SX.Ret fun v w' => v = .tuple #[.agg (repV lc l).cells.toArray, .int .i64 (repE lc l)] ∧ SX.St w [] w' []) := by
  have hs := SX.St.start w
  by_cases h0 : repE lc l = 0
  · by_cases h30 : lc = 30
    · have eV : repV lc l = RepV.lng (num l) := by unfold repV; rw [if_neg Z.b9, if_pos h30]
      rw [h0, eV]
      unfold repE at h0
      rw [if_pos h30] at h0
      subst h30
      exact declong A m c l w hx hl hm hb h0
    have eV : repV lc l = RepV.short (num l / 64) (num l % 64) := by unfold repV; rw [if_neg Z.b9, if_neg h30]
    rw [h0, eV]
    unfold repE at h0
    rw [if_neg h30] at h0
    obtain ⟨rfl, -⟩ := opE_len h0
    exact decshort A m c l w hx hl hm hb h0
  have eV : repV lc l = RepV.zero := by unfold repV; rw [if_pos h0]
  rw [eV]
  by_cases h30 : lc = 30
  · have eE : repE lc l = opE lc l 30 3 := by unfold repE; rw [if_pos h30]
    rw [eE] at h0 ⊢
    refine Z.enterD Tryz.func106 rfl Tryz.ntmps106 rfl rfl ?_
    refine Z.g90 ?_
    clear hs; intro g1 w1 hs
    refine Z.g3 ?_
    refine Z.g165 ?_
    clear hs; intro g2 w2 hs
    refine Z.g184 ?_
    clear hs; intro g3 w3 hs
    refine Z.g216 ?_
    refine Z.g313 ?_
    refine Z.cond rfl (fun hc2 => ?_) (fun h => absurd h (by simpa using h30))
    refine Z.g0 ?_
    refine Z.g143 ?_
    refine Z.g3 ?_
    refine Z.ZO.callP rfl rfl rfl Tryz.call154 rfl (opened_bad lc 30 3 A m c l _ hl Z.b9 h0) ?_
    rintro c3_1 w3_1 ⟨rfl, hy⟩
    replace hs := Z.w1 (hs.call hy); clear hy
    replace hs := hs.sel [0, 1] Z.b12
    repeat (first | refine Z.pthen ?_ | refine Z.pblock ?_ | refine Z.pscope ?_)
    refine Z.outDp Tryz.call152 (caught_pan g3 _ _ _ _ _ [SX.Ent.blk g2 _ _] _ _ (hs.lend (L2 := [])) Tryz.call160 (fun W hW ↦ repclear g2 _ _ rfl W hW)) ?_
    rintro vD wD ⟨rfl, hz⟩
    replace hs := hs.regain (L2 := []) hz
    refine ⟨[_, _], Z.b51, ?_⟩
    exact ⟨_, rfl, rfl, hs.sub (List.nil_sublist _)⟩
  have eE : repE lc l = opE lc l 29 1 := by unfold repE; rw [if_neg h30]
  rw [eE] at h0 ⊢
  refine Z.enterD Tryz.func106 rfl Tryz.ntmps106 rfl rfl ?_
  refine Z.g90 ?_
  clear hs; intro g1 w1 hs
  refine Z.g3 ?_
  refine Z.g165 ?_
  clear hs; intro g2 w2 hs
  refine Z.g184 ?_
  clear hs; intro g3 w3 hs
  refine Z.g216 ?_
  refine Z.g313 ?_
  refine Z.cond rfl (fun h => absurd h (by simpa using h30)) (fun hc2 => ?_)
  refine Z.g151 ?_
  refine Z.g143 ?_
  refine Z.g3 ?_
  refine Z.ZO.callP rfl rfl rfl Tryz.call154 rfl (opened_bad lc 29 1 A m c l _ hl Z.b9 h0) ?_
  rintro c11_1 w11_1 ⟨rfl, hy⟩
  replace hs := Z.w1 (hs.call hy); clear hy
  replace hs := hs.sel [0, 1] Z.b12
  repeat (first | refine Z.pthen ?_ | refine Z.pblock ?_ | refine Z.pscope ?_)
  refine Z.outDp Tryz.call152 (caught_pan g3 _ _ _ _ _ [SX.Ent.blk g2 _ _] _ _ (hs.lend (L2 := [])) Tryz.call160 (fun W hW ↦ repclear g2 _ _ rfl W hW)) ?_
  rintro vD wD ⟨rfl, hz⟩
  replace hs := hs.regain (L2 := []) hz
  refine ⟨[_, _], Z.b51, ?_⟩
  exact ⟨_, rfl, rfl, hs.sub (List.nil_sublist _)⟩
end Go.Proofs.YtbojkoiopkaciaaGreat

/- Control elements: encoding. -/
namespace Go.Proofs.YtbojkoiopkaciaaGreat
open Go.RowKit
set_option linter.unusedSimpArgs false
set_option linter.unusedVariables false
--newlaws

theorem blkLater {w0 w W : World} {M : List Nat} {L L' : List SX.Ent} {g T j : Nat} {cs : Array Value} (hs : SX.St w0 M w L) (hj : L[j]? = some (SX.Ent.blk g T cs)) (hW : SX.St w [] W L') : g < W.heap.size ∧ ∀ i u, cs[i]? = some u → W.cell? ⟨g, i, none⟩ = some u := by
  have hr : w.heap[g]? = some (.cells cs T (0, 0)) := hs.get hj
  have hlt := SX.lt_of_some hr
  exact ⟨Nat.lt_of_lt_of_le hlt hW.size, fun i u hu => (hW.oldcell (p := ⟨g, i, none⟩) hlt Z.b17).trans ((SX.cell_blk hr i).trans hu)⟩
theorem IsPart.of {lc : Int} {l l' : List Int} {v : Value} {w w' : World} (h : IsPart lc l v w w') (e : l = l') : IsPart lc l' v w w' := e ▸ h

theorem pow_bytes (h : Int) (h0 : 0 ≤ h) (h1 : h ≤ 63) : pk ([((0 : Int), (2 : Int)), (h, 6)].flatMap fldF) = [h] := by
  obtain ⟨n, rfl⟩ := Int.eq_ofNat_of_zero_le h0
  have hl : ([((0 : Int), (2 : Int)), ((n : Int), 6)].flatMap fldF).length = 8 := by simp [fldF, fld_length]
  have hp : (pk ([((0 : Int), (2 : Int)), ((n : Int), 6)].flatMap fldF)).length = 1 := by rw [pk_length, hl]
  have hn := pk_num (bs := [((0 : Int), (2 : Int)), ((n : Int), 6)].flatMap fldF) (by rw [hl])
  obtain ⟨x, hx⟩ := list1 hp
  rw [hx] at hn ⊢
  simp only [flat_val, num, List.foldl_cons, List.foldl_nil] at hn
  simp [fldF, fld_length, val] at hn
  simp only [List.cons.injEq, and_true]
  omega
set_option maxRecDepth 100000 in
theorem encpow1_ok (g : Nat) (h : Int) (w : World) (hg : g < w.heap.size) (hc : w.cell? ⟨g, 0, none⟩ = some (.int .i64 h)) (hh : 0 ≤ h ∧ h ≤ 63) :
    Calls Tryz.prog 150 #[.pointer (some ⟨g, 0, none⟩)] w (SX.Ret fun v w' => IsPart 26 [h] v w w') := by
  have hs := SX.St.start w
  refine Z.enter Tryz.func150 rfl Tryz.ntmps150 rfl rfl ?_
  refine Z.g230 ?_
  refine Z.g57 ?_
  clear hs; intro g1 w1 hs
  refine Z.g314 ?_
  refine Z.only [0, 1] rfl ?_
  refine Z.g150 ?_
  refine Z.drawK (fun j => j != 5) mixed hs ?_
  clear hs; intro wd1 hs
  refine Z.t 1 rfl rfl rfl (by rfl) Z.b4 ⟨_, hs, Z.b2⟩ (Z.Yd.load rfl Tryz.isAgg3 (fun _ => Z.cellO hg Z.b17 hc)) ?_
  refine Z.tn 0 rfl rfl Z.b4 rfl trivial ?_
  refine Z.ZO.call rfl rfl (by rfl) rfl rfl Tryz.call144 rfl (group_ok 0 _ Z.b9) ?_
  rintro v1_0 w1_0 ⟨rfl, hy⟩
  replace hs := Z.w1 (hs.call hy); clear hy
  refine Z.tk (Dn := fun j => j != 5) (i := 0) (fun _ => ⟨_, hs, Z.b2⟩) ?_
  refine Z.g141 ?_
  refine Z.ZO.call rfl rfl (by rfl) rfl rfl Tryz.call147 rfl (level_ok h _ hh) ?_
  rintro v1_2 w1_2 ⟨rfl, hy⟩
  replace hs := Z.w1 (hs.call hy); clear hy
  refine Z.tk (Dn := fun j => j != 5) (i := 2) (fun _ => ⟨_, hs, Z.b2⟩) ?_
  refine Z.tn 3 rfl rfl Z.b4 rfl trivial ?_
  refine Z.g119 ?_
  clear hs; intro g5 w5 hs
  refine Z.tk (Dn := fun j => j != 5) (i := 3) (fun _ => ⟨_, hs, Z.b2⟩) ?_
  have hsx := Z.blk_lentj (L1 := []) hs (j := 0) rfl
  refine Z.tn 4 rfl rfl Z.b4 rfl trivial ?_
  refine Z.ZO.call rfl rfl (by rfl) rfl rfl Tryz.call146 rfl (built_ok 26 _ 2 2 [(0, 2), (h, 6)] _ hsx rfl Z.b9 (by simp [GoodF]; omega) (by simp [chkA, chkF, quoF]; omega)) ?_
  rintro v1_4 w1_4 ⟨B, co, rfl, hy⟩
  replace hs := Z.w1 (hs.call hy); clear hy
  rw [pow_bytes h hh.1 hh.2] at hs ⊢
  refine Z.tk (Dn := fun j => j != 5) (i := 4) (fun _ => ⟨_, hs, Z.b2⟩) ?_
  refine Z.g105 ?_
  clear hs; intro ws hs
  replace hs := Z.w0 hs
  replace hs := Z.w3 hs
  refine Z.tk (Dn := fun j => j != 5) (i := 5) (fun h => absurd h Z.b12) ?_
  refine Z.g68 ?_
  refine Z.only [1] rfl ?_
  refine Z.g6 ?_
  refine Z.out1 Z.b36 ?_
  exact ⟨_, rfl, B, co, rfl, hs.sel [0] Z.b12⟩
def be : Nat → Int → List Int
  | 0, _ => []
  | n + 1, v => be n (v / 256) ++ [v % 256]
@[simp] theorem be_length : ∀ (n : Nat) (v : Int), (be n v).length = n
  | 0, _ => rfl
  | n + 1, v => by simp [be, be_length n]
theorem be_num {l : List Int} (hb : Byts l) : be l.length (num l) = l := by
  refine snoc_ind (p := fun l => Byts l → be l.length (num l) = l) (fun _ => rfl) (fun l x ih hb => ?_) l hb
  have hx := hb x Z.b17
  rw [List.length_append, List.length_singleton, num_snoc]
  show be l.length ((256 * num l + x) / 256) ++ [(256 * num l + x) % 256] = _
  rw [show (256 * num l + x) / 256 = num l from by omega, show (256 * num l + x) % 256 = x from by omega, ih fun y hy => hb y (by simp [hy])]
theorem pk_be {bs : List Bool} {n : Nat} (h : bs.length = 8 * n) : pk bs = be n (val bs) := by
  have h1 := be_num (l := pk bs) pk_bytes
  rw [pk_num Z.b9, pk_length, show (bs.length + 7) / 8 = n from by omega] at h1
  exact h1.symm
theorem be_bytes : ∀ (n : Nat) (v : Int), Byts (be n v)
  | 0, _ => by intro x hx; cases hx
  | n + 1, v => by
    intro x hx
    rcases List.mem_append.1 hx with hx | hx
    · exact be_bytes n _ x hx
    obtain rfl : x = v % 256 := by simpa using hx
    omega
theorem encpow_ok (h : Int) (w : World) (hh : 0 ≤ h ∧ h ≤ 63) :
    Calls Tryz.prog 97 #[.int .i64 h] w (SX.Ret fun v w' => ∃ u, v = .tuple #[u, .int .i64 0] ∧ IsPart 26 [h] u w w') := by
  have hs := SX.St.start w
  refine Z.enter Tryz.func97 rfl Tryz.ntmps97 rfl rfl ?_
  refine Z.g90 ?_
  clear hs; intro g1 w1 hs
  refine Z.g254 ?_
  clear hs; intro g2 w2 hs
  refine Z.g231 ?_
  refine Z.g64 ?_
  have hof : ∀ W L, SX.St w2 [] W L → Calls Tryz.prog 150 #[.pointer (some ⟨g1, 0, none⟩)] W (SX.Ret fun v w' => IsPart 26 [h] v W w') := fun W L hW => by
    obtain ⟨a1, a2⟩ := blkLater hs (j := 1) rfl hW
    exact encpow1_ok g1 h W a1 (a2 0 _ rfl) hh
  refine Z.g3 ?_
  refine Z.ZO.call rfl rfl (by rfl) rfl rfl Tryz.call142 rfl (element_ok _ _ 26 _ _ Tryz.call150 hof) ?_
  rintro v1_1 w1_1 ⟨u, rfl, B, co, rfl, hy⟩
  replace hs := Z.w1 (hs.call hy); clear hy
  refine Z.g63 ?_
  refine Z.g7 ?_
  clear hs; intro ws hs
  replace hs := Z.w0 hs
  replace hs := Z.w3 hs
  refine Z.g1 ?_
  refine Z.g126 ?_
  refine Z.out2 (by exact ⟨⟨_, rfl, Z.rvcA hs Tryz.isAgg77 Z.b0 Z.b18⟩, rfl, trivial⟩) ?_
  exact ⟨_, rfl, _, rfl, B, co, rfl, hs.sel [0] Z.b12⟩
end Go.Proofs.YtbojkoiopkaciaaGreat

/- Control elements: reports encoded. -/
namespace Go.Proofs.YtbojkoiopkaciaaGreat
open Go.RowKit
set_option linter.unusedSimpArgs false
set_option linter.unusedVariables false
--newlaws

def RepV.lv (r : RepV) : Nat → Int
  | 0 => r.a
  | 1 => r.b
  | 2 => r.c
  | _ => r.d
def okL (x : Int) : Prop := 0 ≤ x ∧ x ≤ 63
instance (x : Int) : Decidable (okL x) := inferInstanceAs (Decidable (_ ∧ _))
def RepV.ok (r : RepV) : Prop := (0 ≤ r.group ∧ r.group ≤ 3) ∧ (if r.long = true then r.group = 0 ∧ okL r.a ∧ okL r.b ∧ okL r.c ∧ okL r.d else (∀ k : Nat, k < 4 → r.lv k = 0 ∨ (k : Int) = r.group) ∧ okL (r.lv r.group.toNat))
abbrev RepV.lvs (r : RepV) : List Value := [.int .i64 r.a, .int .i64 r.b, .int .i64 r.c, .int .i64 r.d]
theorem Cel.lvs {w : World} {g : Nat} {r : RepV} (h : Cel w g r.cells) : ∀ (j : Nat) (u : Value), r.lvs[j]? = some u → w.cell? ⟨g, 0 + 2 + j, none⟩ = some u := fun j u hu => by
  refine h.2 _ u ?_
  show (_ :: _ :: r.lvs)[0 + 2 + j]? = some u
  rw [show 0 + 2 + j = j + 1 + 1 from by omega]
  exact hu
theorem lvs_get (r : RepV) (k : Nat) (hk : k < 4) : r.lvs.toArray[k]? = some (.int .i64 (r.lv k)) := by
  have : k = 0 ∨ k = 1 ∨ k = 2 ∨ k = 3 := by omega
  rcases this with rfl | rfl | rfl | rfl <;> rfl
theorem lvs_nth (r : RepV) (k : Nat) (hk : k < 4) : Z.nth r.lvs k = some (.int .i64 (r.lv k)) := by
  have : k = 0 ∨ k = 1 ∨ k = 2 ∨ k = 3 := by omega
  rcases this with rfl | rfl | rfl | rfl <;> rfl
theorem long_bytes (r : RepV) (ha : okL r.a) (hb : okL r.b) (hc : okL r.c) (hd : okL r.d) : pk ([(r.a, (6 : Int)), (r.b, 6), (r.c, 6), (r.d, 6)].flatMap fldF) = be 3 (((r.a * 64 + r.b) * 64 + r.c) * 64 + r.d) := by
  unfold okL at *
  obtain ⟨a, hA⟩ := Int.eq_ofNat_of_zero_le ha.1
  obtain ⟨b, hB⟩ := Int.eq_ofNat_of_zero_le hb.1
  obtain ⟨c, hC⟩ := Int.eq_ofNat_of_zero_le hc.1
  obtain ⟨d, hD⟩ := Int.eq_ofNat_of_zero_le hd.1
  rw [pk_be (n := 3) (by simp [fldF, fld_length]), hA, hB, hC, hD]
  congr 1
  simp only [flat_val]
  simp [fldF, fld_length, val]
  omega
theorem short_bytes (g v : Int) (hg : 0 ≤ g ∧ g ≤ 3) (hv : okL v) : pk ([(g, (2 : Int)), (v, 6)].flatMap fldF) = [64 * g + v] := by
  unfold okL at *
  obtain ⟨a, rfl⟩ := Int.eq_ofNat_of_zero_le hg.1
  obtain ⟨b, rfl⟩ := Int.eq_ofNat_of_zero_le hv.1
  rw [pk_be (n := 1) (by simp [fldF, fld_length])]
  simp only [flat_val, be, List.nil_append]
  simp [fldF, fld_length, val]
  omega
theorem okF {v wd : Int} (hv : 0 ≤ v) (hw : 0 ≤ wd ∧ wd ≤ 8) (h : v < 2 ^ wd.toNat) : GoodF (v, wd) ∧ chkF (v, wd) = 0 := by
  obtain ⟨n, rfl⟩ := Int.eq_ofNat_of_zero_le hv
  have h1 : n < 2 ^ wd.toNat := by
    have : ((2 : Int) ^ wd.toNat) = ((2 ^ wd.toNat : Nat) : Int) := by rw [Int.natCast_pow]; rfl
    omega
  have h2 : 2 ^ wd.toNat ≤ 2 ^ 8 := Nat.pow_le_pow_right Z.b12 Z.b9
  have h3 : (2 : Nat) ^ 8 = 256 := by decide
  refine ⟨by unfold GoodF; simp only; omega, ?_⟩
  unfold chkF quoF
  rw [if_neg Z.b21, if_pos (by simpa using Nat.div_eq_of_lt h1)]

def encL (r : RepV) : List Int := if r.long = true then be 3 (((r.a * 64 + r.b) * 64 + r.c) * 64 + r.d) else [64 * r.group + r.lv r.group.toNat]
def encLc (r : RepV) : Int := if r.long = true then 30 else 29
set_option maxRecDepth 100000 in
theorem encrep1_long (g : Nat) (r : RepV) (w : World) (hc : Cel w g r.cells) (hr : r.ok) (hl : r.long = true) :
    Calls Tryz.prog 143 #[.pointer (some ⟨g, 0, none⟩)] w (SX.Ret fun v w' => IsPart 30 (be 3 (((r.a * 64 + r.b) * 64 + r.c) * 64 + r.d)) v w w') := by
  have hs := SX.St.start w
  obtain ⟨hg, hr⟩ := hr
  rw [if_pos hl] at hr
  obtain ⟨h0, ha, hb, hcc, hd⟩ := hr
  have fa := okF (v := r.a) (wd := 6) ha.1 Z.b9 (by have := ha.2; simp; omega)
  have fb := okF (v := r.b) (wd := 6) hb.1 Z.b9 (by have := hb.2; simp; omega)
  have fc := okF (v := r.c) (wd := 6) hcc.1 Z.b9 (by have := hcc.2; simp; omega)
  have fd := okF (v := r.d) (wd := 6) hd.1 Z.b9 (by have := hd.2; simp; omega)
  refine Z.enter Tryz.func143 rfl Tryz.ntmps143 rfl rfl ?_
  refine Z.g230 ?_
  refine Z.g57 ?_
  clear hs; intro g1 w1 hs
  refine Z.g314 ?_
  refine Z.only [0, 1] rfl ?_
  refine Z.g150 ?_
  refine Z.cutt (ι := Nat × Nat) [0, 1] rfl (fun x => [(2, [], .pointer (some ⟨x.1, 0, none⟩)), (3, [], .pointer (some ⟨x.2, 0, none⟩))]) (fun x wr => SX.St w [] wr [SX.Ent.blk x.2 37 r.lvs.toArray, SX.Ent.blk x.1 211 #[.int .u64 r.group, .int .i64 2], SX.Ent.blk g1 77 #[.int .i64 0, .slice none 0 0]]) ?_ ?_
  · skip
    refine Z.drawK (fun _ => true) mixed hs ?_
    clear hs; intro wd1 hs
    refine Z.g145 ?_
    refine Z.t 1 rfl rfl rfl (by rfl) Z.b4 ⟨_, hs, Z.b2⟩ (Z.Yd.load rfl Tryz.isAgg3 (fun _ => Z.cellO hc.1 Z.b17 (hc.2 1 _ rfl))) ?_
    refine Z.t 3 rfl rfl rfl (by rfl) Z.b4 ⟨_, hs, Z.b2⟩ (Z.Yd.fieldA (m := 2) rfl Z.b4) ?_
    refine Z.t 4 rfl rfl rfl (by rfl) Z.b4 ⟨_, hs, Z.b2⟩ (Z.Yd.loadA _ rfl Tryz.isAgg37 (fun _ w' hk j u hu => Z.cellO hc.1 Z.b17 (Cel.lvs hc j u hu) w' hk) (by exact Tryz.sizeOf37)) ?_
    refine Z.forkD [2, 5, 6] rfl Z.b4 rfl ⟨⟨_, _, rfl, rfl, trivial, ?_⟩, ⟨_, _, rfl, rfl, trivial, ?_⟩, ⟨_, _, rfl, rfl, trivial, ?_⟩, trivial⟩
    · skip
      refine Z.g73 ?_
      rintro v1_2 w1_2 ⟨rfl, hy⟩
      replace hs := Z.w1 (hs.call hy); clear hy
      refine Z.g37 ?_
      refine Z.fork2 5 6 rfl rfl rfl Z.b4 rfl rfl trivial trivial ?_ ?_
      · skip
        refine Z.g76 ?_
        clear hs; intro g2 w2 hs
        refine Z.g44 ?_
        refine Z.g191 ?_
        refine Z.g81 ?_
        clear hs; intro g3 w3 hs
        refine Z.g70 ?_
        refine Z.g85 ?_
        clear hs; intro ws hs
        replace hs := Z.w0 hs
        replace hs := Z.w3 hs
        refine Z.g194 ?_
        clear hs; intro ws hs
        replace hs := Z.w0 hs
        replace hs := Z.w3 hs
        refine Z.g26 ?_
        refine Z.g313 ?_
        exact Z.meet (g2, g3) Z.b10 Z.b40
      skip
      refine Z.g81 ?_
      clear hs; intro g3 w3 hs
      refine Z.g70 ?_
      refine Z.tn 5 rfl rfl Z.b4 rfl trivial ?_
      refine Z.g76 ?_
      clear hs; intro g2 w2 hs
      refine Z.g44 ?_
      refine Z.g85 ?_
      clear hs; intro ws hs
      replace hs := Z.w0 hs
      replace hs := Z.w3 hs
      refine Z.g194 ?_
      clear hs; intro ws hs
      replace hs := Z.w0 hs
      replace hs := Z.w3 hs
      refine Z.g26 ?_
      refine Z.g313 ?_
      exact Z.meet (g2, g3) Z.b10 Z.b40
    · skip
      refine Z.g76 ?_
      clear hs; intro g2 w2 hs
      refine Z.g44 ?_
      refine Z.fork2 2 6 rfl rfl rfl Z.b4 rfl rfl trivial trivial ?_ ?_
      · skip
        refine Z.g73 ?_
        rintro v1_2 w1_2 ⟨rfl, hy⟩
        replace hs := Z.w1 (hs.call hy); clear hy
        refine Z.g37 ?_
        refine Z.g191 ?_
        refine Z.g81 ?_
        clear hs; intro g3 w3 hs
        refine Z.g70 ?_
        refine Z.g85 ?_
        clear hs; intro ws hs
        replace hs := Z.w0 hs
        replace hs := Z.w3 hs
        refine Z.g194 ?_
        clear hs; intro ws hs
        replace hs := Z.w0 hs
        replace hs := Z.w3 hs
        refine Z.g26 ?_
        refine Z.g313 ?_
        exact Z.meet (g2, g3) Z.b10 Z.b40
      skip
      refine Z.g81 ?_
      clear hs; intro g3 w3 hs
      refine Z.g70 ?_
      refine Z.g141 ?_
      refine Z.g73 ?_
      rintro v1_2 w1_2 ⟨rfl, hy⟩
      replace hs := Z.w1 (hs.call hy); clear hy
      refine Z.g37 ?_
      refine Z.g85 ?_
      clear hs; intro ws hs
      replace hs := Z.w0 hs
      replace hs := Z.w3 hs
      refine Z.g194 ?_
      clear hs; intro ws hs
      replace hs := Z.w0 hs
      replace hs := Z.w3 hs
      refine Z.g26 ?_
      refine Z.g313 ?_
      exact Z.meet (g2, g3) Z.b10 Z.b40
    skip
    refine Z.g81 ?_
    clear hs; intro g3 w3 hs
    refine Z.g70 ?_
    refine Z.fork2 2 5 rfl rfl rfl Z.b4 rfl rfl trivial trivial ?_ ?_
    · skip
      refine Z.g73 ?_
      rintro v1_2 w1_2 ⟨rfl, hy⟩
      replace hs := Z.w1 (hs.call hy); clear hy
      refine Z.g37 ?_
      refine Z.tn 5 rfl rfl Z.b4 rfl trivial ?_
      refine Z.g76 ?_
      clear hs; intro g2 w2 hs
      refine Z.g44 ?_
      refine Z.g85 ?_
      clear hs; intro ws hs
      replace hs := Z.w0 hs
      replace hs := Z.w3 hs
      refine Z.g194 ?_
      clear hs; intro ws hs
      replace hs := Z.w0 hs
      replace hs := Z.w3 hs
      refine Z.g26 ?_
      refine Z.g313 ?_
      exact Z.meet (g2, g3) Z.b10 Z.b40
    skip
    refine Z.g76 ?_
    clear hs; intro g2 w2 hs
    refine Z.g44 ?_
    refine Z.g141 ?_
    refine Z.g73 ?_
    rintro v1_2 w1_2 ⟨rfl, hy⟩
    replace hs := Z.w1 (hs.call hy); clear hy
    refine Z.g37 ?_
    refine Z.g85 ?_
    clear hs; intro ws hs
    replace hs := Z.w0 hs
    replace hs := Z.w3 hs
    refine Z.g194 ?_
    clear hs; intro ws hs
    replace hs := Z.w0 hs
    replace hs := Z.w3 hs
    refine Z.g26 ?_
    refine Z.g313 ?_
    exact Z.meet (g2, g3) Z.b10 Z.b40
  clear hs
  rintro ⟨g2, g3⟩ w2 hs
  refine Z.only [0, 1, 2, 3] rfl ?_
  (try dsimp only at hs)
  refine Z.seq ?_
  refine Z.g0 ?_
  refine Z.g177 ?_
  refine Z.g314 ?_
  refine Z.only [0, 1, 2, 3, 12] rfl ?_
  refine Z.g313 ?_
  refine Z.cond rfl (fun hc2 => ?_) (fun h => absurd h (by simpa using hl))
  refine Z.g0 ?_
  refine Z.g9 ?_
  refine Z.l rfl rfl (by rfl) (Z.keepS hs) (Z.Yd.load rfl Tryz.isAgg3 (fun _ => Z.cellO hc.1 Z.b17 (hc.2 1 _ rfl))) ?_
  refine Z.g32 ?_
  refine Z.ZO.call rfl rfl (by rfl) rfl rfl Tryz.call145 rfl (must_ok _ 2 _ (by simpa using h0)) ?_
  rintro v3_3 w3_3 ⟨rfl, hy⟩
  replace hs := Z.w1 (hs.call hy); clear hy
  refine Z.g314 ?_
  refine Z.only [1, 3] rfl ?_
  refine Z.g150 ?_
  refine Z.drawK (fun j => j != 14) mixed hs ?_
  clear hs; intro wd4 hs
  refine Z.t 0 rfl rfl rfl (by rfl) Z.b4 ⟨_, hs, Z.b2⟩ (Z.Yd.elemA rfl rfl Tryz.underlying37 Tryz.sizeOf3 (fun hG => ⟨Z.b3, Z.b3⟩)) ?_
  refine Z.t 1 rfl rfl rfl (by rfl) Z.b4 ⟨_, hs, Z.b2⟩ Z.b25 ?_
  refine Z.t 3 rfl rfl rfl (by rfl) Z.b4 ⟨_, hs, Z.b2⟩ (Z.Yd.elemA rfl rfl Tryz.underlying37 Tryz.sizeOf3 (fun hG => ⟨Z.b3, Z.b3⟩)) ?_
  refine Z.t 4 rfl rfl rfl (by rfl) Z.b4 ⟨_, hs, Z.b2⟩ Z.b25 ?_
  refine Z.t 6 rfl rfl rfl (by rfl) Z.b4 ⟨_, hs, Z.b2⟩ (Z.Yd.elemA rfl rfl Tryz.underlying37 Tryz.sizeOf3 (fun hG => ⟨Z.b3, Z.b3⟩)) ?_
  refine Z.t 7 rfl rfl rfl (by rfl) Z.b4 ⟨_, hs, Z.b2⟩ Z.b25 ?_
  refine Z.t 9 rfl rfl rfl (by rfl) Z.b4 ⟨_, hs, Z.b2⟩ (Z.Yd.elemA rfl rfl Tryz.underlying37 Tryz.sizeOf3 (fun hG => ⟨Z.b3, Z.b3⟩)) ?_
  refine Z.t 10 rfl rfl rfl (by rfl) Z.b4 ⟨_, hs, Z.b2⟩ Z.b25 ?_
  refine Z.g141 ?_
  refine Z.ZO.call rfl rfl (by rfl) rfl rfl Tryz.call147 rfl (level_ok _ _ ha) ?_
  rintro v4_2 w4_2 ⟨rfl, hy⟩
  replace hs := Z.w1 (hs.call hy); clear hy
  refine Z.tk (Dn := fun j => j != 14) (i := 2) (fun _ => ⟨_, hs, Z.b2⟩) ?_
  refine Z.tn 5 rfl rfl Z.b4 rfl trivial ?_
  refine Z.ZO.call rfl rfl (by rfl) rfl rfl Tryz.call147 rfl (level_ok _ _ hb) ?_
  rintro v4_5 w4_5 ⟨rfl, hy⟩
  replace hs := Z.w1 (hs.call hy); clear hy
  refine Z.tk (Dn := fun j => j != 14) (i := 5) (fun _ => ⟨_, hs, Z.b2⟩) ?_
  refine Z.tn 8 rfl rfl Z.b4 rfl trivial ?_
  refine Z.ZO.call rfl rfl (by rfl) rfl rfl Tryz.call147 rfl (level_ok _ _ hcc) ?_
  rintro v4_8 w4_8 ⟨rfl, hy⟩
  replace hs := Z.w1 (hs.call hy); clear hy
  refine Z.tk (Dn := fun j => j != 14) (i := 8) (fun _ => ⟨_, hs, Z.b2⟩) ?_
  refine Z.tn 11 rfl rfl Z.b4 rfl trivial ?_
  refine Z.ZO.call rfl rfl (by rfl) rfl rfl Tryz.call147 rfl (level_ok _ _ hd) ?_
  rintro v4_11 w4_11 ⟨rfl, hy⟩
  replace hs := Z.w1 (hs.call hy); clear hy
  refine Z.tk (Dn := fun j => j != 14) (i := 11) (fun _ => ⟨_, hs, Z.b2⟩) ?_
  refine Z.tn 12 rfl rfl Z.b4 rfl trivial ?_
  refine Z.ZO.litL (T' := 211) [(0, 2), (2, 2), (4, 2), (6, 2)] [.int .u64 0, .int .i64 0, .int .u64 0, .int .i64 0, .int .u64 0, .int .i64 0, .int .u64 0, .int .i64 0] rfl rfl (by rfl) rfl rfl Z.b19 hs ?_
  clear hs; intro g29 w29 hs
  refine Z.tk (Dn := fun j => j != 14) (i := 12) (fun _ => ⟨_, hs, Z.b2⟩) ?_
  have hsx := Z.blk_lentj (L1 := []) hs (j := 0) rfl
  refine Z.tn 13 rfl rfl Z.b4 rfl trivial ?_
  refine Z.ZO.call rfl rfl (by rfl) rfl rfl Tryz.call146 rfl (built_ok 30 _ 4 4 [(r.a, 6), (r.b, 6), (r.c, 6), (r.d, 6)] _ hsx rfl Z.b9 (by simp [fa.1, fb.1, fc.1, fd.1]) (by simp [chkA, fa.2, fb.2, fc.2, fd.2])) ?_
  rintro v4_13 w4_13 ⟨B, co, rfl, hy⟩
  replace hs := Z.w1 (hs.call hy); clear hy
  rw [long_bytes r ha hb hcc hd] at hs ⊢
  refine Z.tk (Dn := fun j => j != 14) (i := 13) (fun _ => ⟨_, hs, Z.b2⟩) ?_
  refine Z.tn 14 rfl rfl Z.b4 rfl trivial ?_
  refine Z.g7 ?_
  clear hs; intro ws hs
  replace hs := Z.w0 hs
  replace hs := Z.w3 hs
  refine Z.tk (Dn := fun j => j != 14) (i := 14) (fun h => absurd h Z.b12) ?_
  refine Z.g68 ?_
  refine Z.only [1] rfl ?_
  refine Z.g6 ?_
  repeat (first | refine Z.rthen ?_ | refine Z.rblock ?_ | refine Z.rscope ?_)
  refine Z.out1 Z.b36 ?_
  exact ⟨_, rfl, B, co, rfl, hs.sel [0] Z.b12⟩
set_option maxRecDepth 100000 in
theorem encrep1_short (g : Nat) (r : RepV) (w : World) (hc : Cel w g r.cells) (hr : r.ok) (hl : r.long = false) :
    Calls Tryz.prog 143 #[.pointer (some ⟨g, 0, none⟩)] w (SX.Ret fun v w' => IsPart 29 [64 * r.group + r.lv r.group.toNat] v w w') := by
  have hs := SX.St.start w
  obtain ⟨hg, hr⟩ := hr
  rw [if_neg (by simp [hl])] at hr
  obtain ⟨hz, hv⟩ := hr
  have fg := okF (v := r.group) (wd := 2) hg.1 Z.b9 (by have := hg.2; simp; omega)
  have fv := okF (v := r.lv r.group.toNat) (wd := 6) hv.1 Z.b9 (by have := hv.2; simp; omega)
  have hget : Z.nth r.lvs (0 + r.group.toNat * 1) = some (.int .i64 (r.lv r.group.toNat)) := by rw [Nat.zero_add, Nat.mul_one]; exact lvs_nth r _ Z.b9
  refine Z.enter Tryz.func143 rfl Tryz.ntmps143 rfl rfl ?_
  refine Z.g230 ?_
  refine Z.g57 ?_
  clear hs; intro g1 w1 hs
  refine Z.g314 ?_
  refine Z.only [0, 1] rfl ?_
  refine Z.g150 ?_
  refine Z.cutt (ι := Nat × Nat) [0, 1] rfl (fun x => [(2, [], .pointer (some ⟨x.1, 0, none⟩)), (3, [], .pointer (some ⟨x.2, 0, none⟩))]) (fun x wr => SX.St w [] wr [SX.Ent.blk x.2 37 r.lvs.toArray, SX.Ent.blk x.1 211 #[.int .u64 r.group, .int .i64 2], SX.Ent.blk g1 77 #[.int .i64 0, .slice none 0 0]]) ?_ ?_
  · skip
    refine Z.drawK (fun _ => true) mixed hs ?_
    clear hs; intro wd1 hs
    refine Z.g145 ?_
    refine Z.t 1 rfl rfl rfl (by rfl) Z.b4 ⟨_, hs, Z.b2⟩ (Z.Yd.load rfl Tryz.isAgg3 (fun _ => Z.cellO hc.1 Z.b17 (hc.2 1 _ rfl))) ?_
    refine Z.t 3 rfl rfl rfl (by rfl) Z.b4 ⟨_, hs, Z.b2⟩ (Z.Yd.fieldA (m := 2) rfl Z.b4) ?_
    refine Z.t 4 rfl rfl rfl (by rfl) Z.b4 ⟨_, hs, Z.b2⟩ (Z.Yd.loadA _ rfl Tryz.isAgg37 (fun _ w' hk j u hu => Z.cellO hc.1 Z.b17 (Cel.lvs hc j u hu) w' hk) (by exact Tryz.sizeOf37)) ?_
    refine Z.forkD [2, 5, 6] rfl Z.b4 rfl ⟨⟨_, _, rfl, rfl, trivial, ?_⟩, ⟨_, _, rfl, rfl, trivial, ?_⟩, ⟨_, _, rfl, rfl, trivial, ?_⟩, trivial⟩
    · skip
      refine Z.g73 ?_
      rintro v1_2 w1_2 ⟨rfl, hy⟩
      replace hs := Z.w1 (hs.call hy); clear hy
      refine Z.g37 ?_
      refine Z.fork2 5 6 rfl rfl rfl Z.b4 rfl rfl trivial trivial ?_ ?_
      · skip
        refine Z.g76 ?_
        clear hs; intro g2 w2 hs
        refine Z.g44 ?_
        refine Z.g191 ?_
        refine Z.g81 ?_
        clear hs; intro g3 w3 hs
        refine Z.g70 ?_
        refine Z.g85 ?_
        clear hs; intro ws hs
        replace hs := Z.w0 hs
        replace hs := Z.w3 hs
        refine Z.g194 ?_
        clear hs; intro ws hs
        replace hs := Z.w0 hs
        replace hs := Z.w3 hs
        refine Z.g26 ?_
        refine Z.g313 ?_
        exact Z.meet (g2, g3) Z.b10 Z.b40
      skip
      refine Z.g81 ?_
      clear hs; intro g3 w3 hs
      refine Z.g70 ?_
      refine Z.tn 5 rfl rfl Z.b4 rfl trivial ?_
      refine Z.g76 ?_
      clear hs; intro g2 w2 hs
      refine Z.g44 ?_
      refine Z.g85 ?_
      clear hs; intro ws hs
      replace hs := Z.w0 hs
      replace hs := Z.w3 hs
      refine Z.g194 ?_
      clear hs; intro ws hs
      replace hs := Z.w0 hs
      replace hs := Z.w3 hs
      refine Z.g26 ?_
      refine Z.g313 ?_
      exact Z.meet (g2, g3) Z.b10 Z.b40
    · skip
      refine Z.g76 ?_
      clear hs; intro g2 w2 hs
      refine Z.g44 ?_
      refine Z.fork2 2 6 rfl rfl rfl Z.b4 rfl rfl trivial trivial ?_ ?_
      · skip
        refine Z.g73 ?_
        rintro v1_2 w1_2 ⟨rfl, hy⟩
        replace hs := Z.w1 (hs.call hy); clear hy
        refine Z.g37 ?_
        refine Z.g191 ?_
        refine Z.g81 ?_
        clear hs; intro g3 w3 hs
        refine Z.g70 ?_
        refine Z.g85 ?_
        clear hs; intro ws hs
        replace hs := Z.w0 hs
        replace hs := Z.w3 hs
        refine Z.g194 ?_
        clear hs; intro ws hs
        replace hs := Z.w0 hs
        replace hs := Z.w3 hs
        refine Z.g26 ?_
        refine Z.g313 ?_
        exact Z.meet (g2, g3) Z.b10 Z.b40
      skip
      refine Z.g81 ?_
      clear hs; intro g3 w3 hs
      refine Z.g70 ?_
      refine Z.g141 ?_
      refine Z.g73 ?_
      rintro v1_2 w1_2 ⟨rfl, hy⟩
      replace hs := Z.w1 (hs.call hy); clear hy
      refine Z.g37 ?_
      refine Z.g85 ?_
      clear hs; intro ws hs
      replace hs := Z.w0 hs
      replace hs := Z.w3 hs
      refine Z.g194 ?_
      clear hs; intro ws hs
      replace hs := Z.w0 hs
      replace hs := Z.w3 hs
      refine Z.g26 ?_
      refine Z.g313 ?_
      exact Z.meet (g2, g3) Z.b10 Z.b40
    skip
    refine Z.g81 ?_
    clear hs; intro g3 w3 hs
    refine Z.g70 ?_
    refine Z.fork2 2 5 rfl rfl rfl Z.b4 rfl rfl trivial trivial ?_ ?_
    · skip
      refine Z.g73 ?_
      rintro v1_2 w1_2 ⟨rfl, hy⟩
      replace hs := Z.w1 (hs.call hy); clear hy
      refine Z.g37 ?_
      refine Z.tn 5 rfl rfl Z.b4 rfl trivial ?_
      refine Z.g76 ?_
      clear hs; intro g2 w2 hs
      refine Z.g44 ?_
      refine Z.g85 ?_
      clear hs; intro ws hs
      replace hs := Z.w0 hs
      replace hs := Z.w3 hs
      refine Z.g194 ?_
      clear hs; intro ws hs
      replace hs := Z.w0 hs
      replace hs := Z.w3 hs
      refine Z.g26 ?_
      refine Z.g313 ?_
      exact Z.meet (g2, g3) Z.b10 Z.b40
    skip
    refine Z.g76 ?_
    clear hs; intro g2 w2 hs
    refine Z.g44 ?_
    refine Z.g141 ?_
    refine Z.g73 ?_
    rintro v1_2 w1_2 ⟨rfl, hy⟩
    replace hs := Z.w1 (hs.call hy); clear hy
    refine Z.g37 ?_
    refine Z.g85 ?_
    clear hs; intro ws hs
    replace hs := Z.w0 hs
    replace hs := Z.w3 hs
    refine Z.g194 ?_
    clear hs; intro ws hs
    replace hs := Z.w0 hs
    replace hs := Z.w3 hs
    refine Z.g26 ?_
    refine Z.g313 ?_
    exact Z.meet (g2, g3) Z.b10 Z.b40
  clear hs
  rintro ⟨g2, g3⟩ w2 hs
  refine Z.only [0, 1, 2, 3] rfl ?_
  (try dsimp only at hs)
  refine Z.seq ?_
  refine Z.g0 ?_
  refine Z.g177 ?_
  refine Z.g314 ?_
  refine Z.only [0, 1, 2, 3, 12] rfl ?_
  refine Z.g313 ?_
  refine Z.cond rfl (fun h => absurd h (by simpa using hl)) (fun hc2 => ?_)
  refine Z.g183 ?_
  refine Z.l rfl rfl (by rfl) (Z.keepS hs) Z.b62 ?_
  refine Z.g1 ?_
  refine Z.only [0, 1, 2, 3, 31, 32] rfl ?_
  refine Z.g210 ?_
  refine Z.loopk (ι := Nat) [0, 1, 2, 3, 31] rfl (fun k => [(32, [], .int .i64 (k : Int))]) (fun k wr => k ≤ 4 ∧ SX.St w [] wr [SX.Ent.blk g3 37 r.lvs.toArray, SX.Ent.blk g2 211 #[.int .u64 r.group, .int .i64 2], SX.Ent.blk g1 77 #[.int .i64 0, .slice none 0 0]]) (fun k => 4 - k) 0 Z.b6 ⟨by omega, hs⟩ ?_
  clear hs
  rintro k w3 ⟨hk, hs⟩
  refine Z.only [0, 1, 2, 3, 31, 32] rfl ?_
  refine Z.g120 ?_
  refine Z.only [0, 1, 2, 3, 31, 32, 33] rfl ?_
  refine Z.g150 ?_
  refine Z.cond rfl (fun hc6 => ?_) (fun hc6 => ?_)
  · (try simp at hc6)
    have hgk := lvs_get r k Z.b9
    have hzk := hz k Z.b9
    refine Z.g91 ?_
    refine Z.g182 ?_
    refine Z.l rfl rfl (by rfl) (Z.keepS hs) (Z.Yd.idx1 rfl rfl Tryz.underlying37 Tryz.sizeOf3 Tryz.isAgg3 (fun _ => ⟨by omega, by omega, hgk⟩)) ?_
    refine Z.g31 ?_
    refine Z.only [0, 1, 2, 3, 4, 5, 31, 32] rfl ?_
    refine Z.g121 ?_
    refine Z.lb 4 rfl ?_
    refine Z.g9 ?_
    refine Z.l rfl rfl (by rfl) (Z.keepS hs) (Z.Yd.load rfl Tryz.isAgg3 (fun _ => Z.cellO hc.1 Z.b17 (hc.2 1 _ rfl))) ?_
    refine Z.g63 ?_
    refine Z.g110 ?_
    rintro v8_8 w8_8 ⟨rfl, hy⟩
    replace hs := Z.w1 (hs.call hy); clear hy
    refine Z.g314 ?_
    refine Z.only [0, 1, 2, 3, 31, 32] rfl ?_
    refine Z.g180 ?_
    refine Z.only [0, 1, 2, 3, 31, 32] rfl ?_
    refine Z.g313 ?_
    exact Z.again (k + 1) Z.b50 ⟨by omega, hs⟩ Z.b9
  first
    | (exfalso; simp at hc6 <;> omega)
    | (
      (try simp at hc6)
      refine Z.g11 ?_
      refine Z.g150 ?_
      refine Z.drawK (fun j => j != 8) mixed hs ?_
      clear hs; intro wd10 hs
      refine Z.t 0 rfl rfl rfl (by rfl) Z.b4 ⟨_, hs, Z.b2⟩ (by exact Z.Yd.loadA _ rfl Tryz.isAgg211 (fun _ => Z.cellsB Z.b0) (by exact Tryz.sizeOf211)) ?_
      refine Z.t 1 rfl rfl rfl (by rfl) Z.b4 ⟨_, hs, Z.b2⟩ (Z.Yd.fieldA (m := 1) rfl Z.b4) ?_
      refine Z.t 2 rfl rfl rfl (by rfl) Z.b4 ⟨_, hs, Z.b2⟩ (Z.Yd.load rfl Tryz.isAgg3 (fun _ => Z.cellO hc.1 Z.b17 (hc.2 1 _ rfl))) ?_
      refine Z.t 3 rfl rfl rfl (by rfl) Z.b4 ⟨_, hs, Z.b2⟩ (Z.Yd.elemA rfl rfl Tryz.underlying37 Tryz.sizeOf3 (fun hG => ⟨Z.b3, Z.b3⟩)) ?_
      refine Z.t 4 rfl rfl rfl (by rfl) Z.b4 ⟨_, hs, Z.b2⟩ (Z.Yd.load rfl Tryz.isAgg3 (fun _ => Z.cellB (cs := r.lvs.toArray) Z.b0 hget)) ?_
      refine Z.tn 5 rfl rfl Z.b4 rfl trivial ?_
      refine Z.ZO.call rfl rfl (by rfl) rfl rfl Tryz.call147 rfl (level_ok _ _ hv) ?_
      rintro v10_5 w10_5 ⟨rfl, hy⟩
      replace hs := Z.w1 (hs.call hy); clear hy
      refine Z.tk (Dn := fun j => j != 8) (i := 5) (fun _ => ⟨_, hs, Z.b2⟩) ?_
      refine Z.g191 ?_
      refine Z.g119 ?_
      clear hs; intro g52 w52 hs
      refine Z.tk (Dn := fun j => j != 8) (i := 6) (fun _ => ⟨_, hs, Z.b2⟩) ?_
      have hsx := Z.blk_lentj (L1 := []) hs (j := 0) rfl
      refine Z.tn 7 rfl rfl Z.b4 rfl trivial ?_
      refine Z.ZO.call rfl rfl (by rfl) rfl rfl Tryz.call146 rfl (built_ok 29 _ 2 2 [(r.group, 2), (r.lv r.group.toNat, 6)] _ hsx rfl Z.b9 (by simp [fg.1, fv.1]) (by simp [chkA, fg.2, fv.2])) ?_
      rintro v10_7 w10_7 ⟨B, co, rfl, hy⟩
      replace hs := Z.w1 (hs.call hy); clear hy
      rw [short_bytes _ _ hg hv] at hs ⊢
      refine Z.tk (Dn := fun j => j != 8) (i := 7) (fun _ => ⟨_, hs, Z.b2⟩) ?_
      refine Z.tn 8 rfl rfl Z.b4 rfl trivial ?_
      refine Z.g7 ?_
      clear hs; intro ws hs
      replace hs := Z.w0 hs
      replace hs := Z.w3 hs
      refine Z.tk (Dn := fun j => j != 8) (i := 8) (fun h => absurd h Z.b12) ?_
      refine Z.g68 ?_
      refine Z.only [1] rfl ?_
      refine Z.g6 ?_
      refine Z.out1 Z.b36 ?_
      exact ⟨_, rfl, B, co, rfl, hs.sel [0] Z.b12⟩
      )

end Go.Proofs.YtbojkoiopkaciaaGreat

/- Control elements: levels and limits. -/
namespace Go.Proofs.YtbojkoiopkaciaaGreat
open Go.RowKit
set_option linter.unusedSimpArgs false
set_option linter.unusedVariables false
--newlaws

def lim : Nat → Int
  | 0 => 0
  | 1 => 10
  | k + 2 => lim (k + 1) + max 2 (lim (k + 1) / 6)
theorem lim_succ (k : Nat) (h : 1 ≤ k) : lim (k + 1) = lim k + max 2 (lim k / 6) := by
  obtain ⟨j, rfl⟩ : ∃ j, k = j + 1 := ⟨k - 1, by omega⟩
  rfl
theorem lim_mono1 (k : Nat) : lim k < lim (k + 1) := by
  by_cases h : 1 ≤ k
  · rw [lim_succ k h]; omega
  obtain rfl : k = 0 := by omega
  decide
theorem lim_mono {i j : Nat} (h : i ≤ j) : lim i ≤ lim j := by
  induction h with
  | refl => exact Int.le_refl _
  | step h ih => exact Int.le_trans ih (Int.le_of_lt (lim_mono1 _))
theorem lim_bd {k : Nat} (h : k ≤ 62) : 0 ≤ lim k ∧ lim k ≤ 1000000 := by
  have h0 : lim 0 ≤ lim k := lim_mono (Nat.zero_le k)
  have h1 : lim k ≤ lim 62 := lim_mono h
  have h2 : lim 62 ≤ 1000000 := by decide +kernel
  have h3 : lim 0 = 0 := rfl
  omega
def lmI (k : Nat) : List Int := (List.range 63).map fun j => if j < k then lim j else 0
def lmC (k : Nat) : List Value := ints .i64 (lmI k)
@[simp] theorem lmC_len (k : Nat) : (lmC k).length = 63 := by simp [lmC, lmI, ints]
theorem lmI_get {k j : Nat} (hj : j < 63) (hk : j < k) : (lmI k)[j]? = some (lim j) := by simp [lmI, hj, hk]
theorem lmC_get {k j : Nat} (hj : j < 63) (hk : j < k) : (lmC k)[j]? = some (.int .i64 (lim j)) := by simp [lmC, ints, lmI_get hj hk]
theorem lmC_set {k : Nat} (hk : k < 63) : (lmC k).set k (.int .i64 (lim k)) = lmC (k + 1) := by
  apply List.ext_getElem?
  intro i
  rw [List.getElem?_set]
  simp only [lmC, lmI, ints, List.getElem?_map, List.length_map, List.length_range]
  by_cases h : k = i
  · subst h
    rw [if_pos rfl, if_pos hk, List.getElem?_range hk]
    simp
  rw [if_neg h]
  by_cases hi : i < 63
  · rw [List.getElem?_range hi]
    simp only [Option.map_some, Option.some.injEq, Value.int.injEq, true_and]
    by_cases h2 : i < k
    · rw [if_pos h2, if_pos Z.b9]
    rw [if_neg h2, if_neg Z.b9]
  rw [List.getElem?_eq_none (by simpa using hi)]
  rfl
theorem lmC_one : ∀ (k : Nat), ∀ x ∈ lmC k, x.oneCell' = true := fun k => Z.ints_one
set_option maxRecDepth 100000 in
theorem limits_any (w : World) : Calls Tryz.prog 188 #[] w (SX.Ret fun v w' => v = .agg (lmC 63).toArray ∧ SX.St w [] w' []) := by
  have hs := SX.St.start w
  refine Z.enter Tryz.func188 rfl Tryz.ntmps188 rfl rfl ?_
  refine Z.g230 ?_
  refine Z.ZO.alloc rfl rfl (by rfl) Tryz.zeroValue261 rfl hs ?_
  clear hs; intro g0 w0 hs
  refine Z.g314 ?_
  refine Z.g82 ?_
  refine Z.g30 ?_
  refine Z.l rfl rfl (by rfl) (Z.keepS hs) (Z.Yd.elemA rfl rfl Tryz.underlying261 Tryz.sizeOf3 (fun hG => ⟨Z.b3, Z.b3⟩)) ?_
  refine Z.g156 ?_
  clear hs; intro ws hs
  replace hs := Z.w0 hs
  refine Z.g314 ?_
  refine Z.g82 ?_
  refine Z.g60 ?_
  replace hs : SX.St w [] _ [SX.Ent.blk g0 261 (lmC 2).toArray] := hs
  refine Z.g264 ?_
  refine Z.only [0, 1] rfl ?_
  refine Z.g210 ?_
  refine Z.loopk (ι := Nat) [0] rfl (fun k => [(1, [], .int .i64 (k : Int))]) (fun k wr => (2 ≤ k ∧ k ≤ 63) ∧ SX.St w [] wr [SX.Ent.blk g0 261 (lmC k).toArray]) (fun k => 63 - k) 2 Z.b6 ⟨by omega, hs⟩ ?_
  clear hs
  rintro k w1 ⟨hk, hs⟩
  refine Z.only [0, 1] rfl ?_
  refine Z.seq ?_
  refine Z.g152 ?_
  refine Z.only [0, 1, 4] rfl ?_
  refine Z.g313 ?_
  refine Z.cond rfl (fun hc3 => ?_) (fun hc3 => ?_)
  · (try simp at hc3)
    have hbd := lim_bd (k := k - 1) Z.b9
    have hget : Z.nth (lmC k) (0 + ((k : Int) - 1).toNat * 1) = some (.int .i64 (lim (k - 1))) := by
      rw [Z.nth_eq, show 0 + ((k : Int) - 1).toNat * 1 = k - 1 from by omega]
      exact lmC_get Z.b9 Z.b9
    have hls := lim_succ (k - 1) Z.b9
    rw [show k - 1 + 1 = k from by omega] at hls
    refine Z.g91 ?_
    refine Z.drawK (fun j => j != 13) mixed hs ?_
    clear hs; intro wd5 hs
    refine Z.tb [0, 1] Z.b4 rfl ⟨_, hs, Z.b2⟩ rfl ?_
    refine Z.t 2 rfl rfl rfl (by rfl) Z.b4 ⟨_, hs, Z.b2⟩ (Z.Yd.sub rfl rfl (fun hG => Z.wi64 Z.b3)) ?_
    refine Z.t 3 rfl rfl rfl (by rfl) Z.b4 ⟨_, hs, Z.b2⟩ (Z.Yd.elemA rfl rfl Tryz.underlying261 Tryz.sizeOf3 (fun hG => ⟨Z.b3, Z.b3⟩)) ?_
    refine Z.t 4 rfl rfl rfl (by rfl) Z.b4 ⟨_, hs, Z.b2⟩ (Z.Yd.load rfl Tryz.isAgg3 (fun _ => Z.cellB (cs := (lmC k).toArray) Z.b0 hget)) ?_
    refine Z.tb [5] Z.b4 rfl ⟨_, hs, Z.b2⟩ rfl ?_
    refine Z.t 6 rfl rfl rfl (by rfl) Z.b4 ⟨_, hs, Z.b2⟩ (Z.Yd.sub rfl rfl (fun hG => Z.wi64 Z.b3)) ?_
    refine Z.t 7 rfl rfl rfl (by rfl) Z.b4 ⟨_, hs, Z.b2⟩ (Z.Yd.elemA rfl rfl Tryz.underlying261 Tryz.sizeOf3 (fun hG => ⟨Z.b3, Z.b3⟩)) ?_
    refine Z.t 8 rfl rfl rfl (by rfl) Z.b4 ⟨_, hs, Z.b2⟩ (Z.Yd.load rfl Tryz.isAgg3 (fun _ => Z.cellB (cs := (lmC k).toArray) Z.b0 hget)) ?_
    refine Z.t 9 rfl rfl rfl (by rfl) Z.b4 ⟨_, hs, Z.b2⟩ (Z.Yd.quo rfl rfl Z.b54 Z.b58) ?_
    refine Z.t 10 rfl rfl rfl (by rfl) Z.b4 ⟨_, hs, Z.b2⟩ (Z.Yd.max rfl rfl) ?_
    refine Z.t 11 rfl rfl rfl (by rfl) Z.b4 ⟨_, hs, Z.b2⟩ (Z.Yd.add rfl rfl (fun hG => Z.wi64 Z.b3)) ?_
    refine Z.t 12 rfl rfl rfl (by rfl) Z.b4 ⟨_, hs, Z.b2⟩ (Z.Yd.elemA rfl rfl Tryz.underlying261 Tryz.sizeOf3 (fun hG => ⟨Z.b3, Z.b3⟩)) ?_
    refine Z.tn 13 rfl rfl Z.b4 rfl trivial ?_
    refine Z.g23 ?_
    clear hs; intro ws hs
    replace hs := Z.w0 hs
    refine Z.tk (Dn := fun j => j != 13) (i := 13) (fun h => absurd h Z.b12) ?_
    refine Z.g68 ?_
    refine Z.only [0, 1] rfl ?_
    refine Z.nblock ?_
    refine Z.g121 ?_
    refine Z.g64 ?_
    refine Z.g5 ?_
    refine Z.g65 ?_
    refine Z.g313 ?_
    rw [show lim (k - 1) + max 2 (lim (k - 1) / 6) = lim k from hls.symm, show (k : Int).toNat * 1 = k from by omega, lmC_set Z.b9] at hs
    exact Z.again (k + 1) Z.b14 ⟨by omega, hs⟩ Z.b9
  (try simp at hc3)
  refine Z.g211 ?_
  obtain rfl : k = 63 := by omega
  refine Z.l rfl rfl (by rfl) (Z.keepS hs) (by exact Z.Yd.loadA _ rfl Tryz.isAgg261 (fun _ => Z.cellsB Z.b0) (by exact Tryz.sizeOf261)) ?_
  refine Z.g3 ?_
  refine Z.ZO.storeA rfl rfl hs rfl rfl Z.b4 (by rw [List.all_toArray]; exact List.all_eq_true.2 (lmC_one 63)) Z.b1 (by rfl) ?_
  clear hs; intro ws hs
  replace hs := Z.w0 hs
  refine Z.g314 ?_
  refine Z.g82 ?_
  refine Z.g6 ?_
  refine Z.out1 (by exact ⟨⟨_, rfl, Z.rvcA hs Tryz.isAgg261 Z.b0 (by exact Tryz.sizeOf261)⟩, trivial⟩) ?_
  exact ⟨_, rfl, rfl, hs.sub (List.nil_sublist _)⟩
end Go.Proofs.YtbojkoiopkaciaaGreat

/- Control elements: levels. -/
namespace Go.Proofs.YtbojkoiopkaciaaGreat
open Go.RowKit
set_option linter.unusedSimpArgs false
set_option linter.unusedVariables false
--newlaws

theorem cnan_any (x : Int) (w : World) : Calls Tryz.prog 206 #[.int .i64 x] w (SX.Ret fun v w' => v = .bool false ∧ SX.St w [] w' []) := by
  have hs := SX.St.start w
  refine Z.enter Tryz.func206 rfl Tryz.ntmps206 rfl rfl ?_
  refine Z.g241 ?_
  refine Z.lb 4 rfl ?_
  refine Z.g314 ?_
  refine Z.g33 ?_
  refine Z.g52 ?_
  exact ⟨_, rfl, by simp, hs⟩
theorem snan_any (x : Int) (w : World) : Calls Tryz.prog 202 #[.int .i64 x] w (SX.Ret fun v w' => v = .bool false ∧ SX.St w [] w' []) := by
  have hs := SX.St.start w
  refine Z.enter Tryz.func202 rfl Tryz.ntmps202 rfl rfl ?_
  refine Z.g241 ?_
  refine Z.lb 4 rfl ?_
  refine Z.g314 ?_
  refine Z.g33 ?_
  refine Z.g52 ?_
  exact ⟨_, rfl, by simp, hs⟩
theorem less_any (x y : Int) (w : World) : Calls Tryz.prog 201 #[.int .i64 x, .int .i64 y] w (SX.Ret fun v w' => v = .bool (decide (x < y)) ∧ SX.St w [] w' []) := by
  have hs := SX.St.start w
  refine Z.enter Tryz.func201 rfl Tryz.ntmps201 rfl rfl ?_
  refine Z.g243 ?_
  refine Z.g30 ?_
  refine Z.g32 ?_
  refine Z.ZO.call rfl rfl (by rfl) rfl rfl Tryz.call206 rfl (cnan_any x _) ?_
  rintro v1_1 w1_1 ⟨rfl, hy⟩
  replace hs := Z.w1 (hs.call hy); clear hy
  refine Z.g64 ?_
  refine Z.yes (s := 7) (b := false) rfl (rfl) rfl ?_
  refine Z.g193 ?_
  refine Z.g64 ?_
  refine Z.yes (s := 12) (b := false) rfl (rfl) rfl ?_
  refine Z.g221 ?_
  refine Z.yes (s := 12) (b := false) rfl rfl rfl ?_
  refine Z.g13 ?_
  refine Z.g1 ?_
  refine Z.g62 ?_
  refine Z.g52 ?_
  exact ⟨_, rfl, by simp, hs⟩
set_option maxRecDepth 100000 in
theorem bsearch_any (A : Option Addr) (n c : Nat) (l : List Int) (x : Int) (w : World) (hx : Sl w A (ints .i64 l)) (hl : l.length = n) (hn : n ≤ 1000000) (hm : ∀ i j : Nat, i ≤ j → j < n → elt l (i : Int) ≤ elt l (j : Int)) :
    Calls Tryz.prog 189 #[.slice A n c, .int .i64 x] w (SX.Ret fun v w' => (∃ (i : Nat) (b : Bool), v = .tuple #[.int .i64 (i : Int), .bool b] ∧ i ≤ n ∧ (∀ j : Nat, j < i → elt l (j : Int) < x) ∧ ∀ j : Nat, i ≤ j → j < n → x ≤ elt l (j : Int)) ∧ SX.St w [] w' []) := by
  have hs := SX.St.start w
  refine Z.enter Tryz.func189 rfl Tryz.ntmps189 rfl rfl ?_
  refine Z.g152 ?_
  refine Z.only [0, 1] rfl ?_
  refine Z.g30 ?_
  refine Z.g64 ?_
  refine Z.g227 ?_
  refine Z.only [0, 1, 6] rfl ?_
  refine Z.g92 ?_
  refine Z.g314 ?_
  refine Z.only [0, 1, 6, 7, 8] rfl ?_
  refine Z.g313 ?_
  refine Z.g35 ?_
  refine Z.loopk (ι := Nat × Nat) [0, 1, 6] rfl (fun p => [(7, [], .int .i64 (p.1 : Int)), (8, [], .int .i64 (p.2 : Int))]) (fun p wr => ((p.1 ≤ p.2 ∧ p.2 ≤ n) ∧ (∀ j : Nat, j < p.1 → elt l (j : Int) < x) ∧ ∀ j : Nat, p.2 ≤ j → j < n → x ≤ elt l (j : Int)) ∧ SX.St w [] wr []) (fun p => p.2 - p.1) (0, n) Z.b14 ⟨⟨by simp, by simp, by simp only; intro j h1 h2; omega⟩, hs⟩ ?_
  clear hs
  rintro ⟨lo, hi⟩ w1 ⟨⟨hb, hlo, hhi⟩, hs⟩
  refine Z.only [0, 1, 6, 7, 8] rfl ?_
  (try dsimp only at hs)
  dsimp only at hb hlo hhi
  refine Z.seq ?_
  refine Z.g0 ?_
  refine Z.g247 ?_
  refine Z.only [0, 1, 6, 7, 8, 15] rfl ?_
  refine Z.g313 ?_
  refine Z.cond rfl (fun hc3 => ?_) (fun hc3 => ?_)
  · (try simp at hc3)
    obtain ⟨bb, off, rfl, hbb, hx⟩ := Z.Sl.some hx Z.b74
    obtain ⟨m, hmm⟩ : ∃ m : Nat, m = (lo + hi) / 2 := ⟨_, rfl⟩
    have hsum : ((lo : Int) + (hi : Int)) / 2 = (m : Int) := by omega
    have hm1 : lo ≤ m ∧ m < hi := by omega
    refine Z.skip ?_
    refine Z.g210 ?_
    refine Z.g0 ?_
    refine Z.g22 ?_
    refine Z.g5 ?_
    refine Z.l rfl rfl (by rfl) (Z.keepS hs) (Z.Yd.convI rfl ⟨_, Tryz.underlying3⟩ Tryz.underlying223 (fun hG => Z.wu64 Z.b3)) ?_
    refine Z.l rfl rfl (by rfl) (Z.keepS hs) (Z.Yd.shr rfl rfl (by intro hG; decide) (fun _ => Z.shrl (c := 2) rfl)) ?_
    rw [hsum]
    refine Z.l rfl rfl (by rfl) (Z.keepS hs) (Z.Yd.convI rfl ⟨_, Tryz.underlying223⟩ Tryz.underlying3 (fun hG => Z.wi64 Z.b3)) ?_
    refine Z.g1 ?_
    refine Z.only [0, 1, 6, 7, 8, 9] rfl ?_
    refine Z.g30 ?_
    refine Z.g22 ?_
    refine Z.g24 ?_
    refine Z.l rfl rfl (by rfl) (Z.keepS hs) Z.b75 ?_
    refine Z.g32 ?_
    refine Z.ZO.call rfl rfl (by rfl) rfl rfl Tryz.call201 rfl (less_any _ _ _) ?_
    rintro v5_5 w5_5 ⟨rfl, hy⟩
    replace hs := Z.w1 (hs.call hy); clear hy
    refine Z.g314 ?_
    refine Z.only [0, 1, 6, 7, 8, 9, 27] rfl ?_
    refine Z.g313 ?_
    refine Z.cond rfl (fun hc5 => ?_) (fun hc5 => ?_)
    · (try simp at hc5)
      refine Z.region ?_
      refine Z.g64 ?_
      refine Z.g187 ?_
      refine Z.only [0, 1, 6, 7, 8] rfl ?_
      refine Z.nblock ?_
      refine Z.g313 ?_
      first
      | exact Z.again (m + 1, hi) Z.b11 ⟨⟨by simp only; omega, by
          simp only
          intro j hj
          exact Int.lt_of_le_of_lt (hm j m Z.b9 Z.b9) Z.b63, hhi⟩, hs⟩ Z.b21
      | exact Z.again (lo, m) Z.b11 ⟨⟨by simp only; omega, hlo, by
          simp only
          intro j hj hjn
          exact Int.le_trans Z.b63 (hm m j Z.b9 Z.b9)⟩, hs⟩ Z.b21
    (try simp at hc5)
    refine Z.region ?_
    refine Z.g31 ?_
    refine Z.only [0, 1, 6, 7, 8] rfl ?_
    refine Z.nblock ?_
    refine Z.g313 ?_
    first
    | exact Z.again (m + 1, hi) Z.b11 ⟨⟨by simp only; omega, by
        simp only
        intro j hj
        exact Int.lt_of_le_of_lt (hm j m Z.b9 Z.b9) Z.b63, hhi⟩, hs⟩ Z.b21
    | exact Z.again (lo, m) Z.b11 ⟨⟨by simp only; omega, hlo, by
        simp only
        intro j hj hjn
        exact Int.le_trans Z.b63 (hm m j Z.b9 Z.b9)⟩, hs⟩ Z.b21
  (try simp at hc3)
  refine Z.g211 ?_
  obtain rfl : lo = hi := by omega
  refine Z.g18 ?_
  refine Z.lb 4 rfl ?_
  refine Z.split (s := 35) rfl (fun hsp35 => ?_) (fun hsp35 => ?_)
  · refine Z.yes (s := 35) (b := true) rfl hsp35 rfl ?_
    (try simp at hsp35)
    obtain ⟨bb, off, rfl, hbb, hx⟩ := Z.Sl.some hx Z.b74
    refine Z.g22 ?_
    refine Z.g24 ?_
    refine Z.l rfl rfl (by rfl) (Z.keepS hs) Z.b75 ?_
    refine Z.g221 ?_
    refine Z.yes (s := 35) (b := true) rfl rfl rfl ?_
    refine Z.split (s := 42) rfl (fun hsp42 => ?_) (fun hsp42 => ?_)
    · refine Z.yes (s := 42) (b := true) rfl hsp42 rfl ?_
      (try simp at hsp42)
      refine Z.g2 ?_
      refine Z.g2 ?_
      refine Z.lsU rfl rfl rfl (by rfl) ?_
      refine Z.g200 ?_
      refine Z.g15 ?_
      refine Z.yes (s := 35) (b := true) rfl rfl rfl ?_
      refine Z.g15 ?_
      refine Z.g31 ?_
      refine Z.g158 ?_
      refine Z.out2 Z.b22 ?_
      exact ⟨_, rfl, ⟨lo, _, rfl, by omega, hlo, hhi⟩, hs⟩
    refine Z.yes (s := 42) (b := false) rfl hsp42 rfl ?_
    (try simp at hsp42)
    refine Z.g22 ?_
    refine Z.g24 ?_
    refine Z.l rfl rfl (by rfl) (Z.keepS hs) Z.b75 ?_
    refine Z.yes (s := 42) (b := false) rfl rfl rfl ?_
    refine Z.g117 ?_
    refine Z.ZO.call rfl rfl (by rfl) rfl rfl Tryz.call202 rfl (snan_any _ _) ?_
    rintro v8_16 w8_16 ⟨rfl, hy⟩
    replace hs := Z.w1 (hs.call hy); clear hy
    refine Z.g64 ?_
    refine Z.yes (s := 42) (b := false) rfl rfl rfl ?_
    refine Z.yes (s := 48) (b := false) rfl (rfl) rfl ?_
    refine Z.g43 ?_
    refine Z.g43 ?_
    refine Z.g13 ?_
    refine Z.yes (s := 42) (b := false) rfl rfl rfl ?_
    refine Z.g13 ?_
    refine Z.yes (s := 35) (b := true) rfl rfl rfl ?_
    refine Z.g15 ?_
    refine Z.g31 ?_
    refine Z.g158 ?_
    refine Z.out2 Z.b22 ?_
    exact ⟨_, rfl, ⟨lo, _, rfl, by omega, hlo, hhi⟩, hs⟩
  refine Z.yes (s := 35) (b := false) rfl hsp35 rfl ?_
  (try simp at hsp35)
  refine Z.g2 ?_
  refine Z.g2 ?_
  refine Z.g43 ?_
  refine Z.g8 ?_
  refine Z.g8 ?_
  refine Z.g8 ?_
  refine Z.g43 ?_
  refine Z.g13 ?_
  refine Z.g31 ?_
  refine Z.g158 ?_
  refine Z.out2 Z.b22 ?_
  exact ⟨_, rfl, ⟨lo, _, rfl, by omega, hlo, hhi⟩, hs⟩
end Go.Proofs.YtbojkoiopkaciaaGreat

/- Control elements: Level, Limit, and the document's. -/
namespace Go.Proofs.YtbojkoiopkaciaaGreat
open Go.RowKit
set_option linter.unusedSimpArgs false
set_option linter.unusedVariables false
--newlaws

def lvl (x : Int) : Nat := (List.range 63).findIdx fun k => decide (x ≤ lim k)
theorem lvl_eq {x : Int} {i : Nat} (h : i ≤ 63) (h1 : ∀ j : Nat, j < i → lim j < x) (h2 : ∀ j : Nat, i ≤ j → j < 63 → x ≤ lim j) : lvl x = i := by
  unfold lvl
  by_cases hi : i < 63
  · rw [List.findIdx_eq (by simpa using hi)]
    refine ⟨by simpa using h2 i (Nat.le_refl i) hi, fun j hj => ?_⟩
    have := h1 j hj
    simp
    omega
  obtain rfl : i = 63 := by omega
  have : (List.range 63).findIdx (fun k => decide (x ≤ lim k)) = (List.range 63).length := by
    rw [List.findIdx_eq_length]
    intro k hk
    have := h1 k (by simpa using hk)
    simp
    omega
  rw [this, List.length_range]
theorem lvl_spec (x : Int) : lvl x ≤ 63 ∧ (∀ j : Nat, j < lvl x → lim j < x) ∧ ∀ j : Nat, lvl x ≤ j → j < 63 → x ≤ lim j := by
  have key : ∃ i, i ≤ 63 ∧ (∀ j : Nat, j < i → lim j < x) ∧ ∀ j : Nat, i ≤ j → j < 63 → x ≤ lim j := by
    have : ∀ n, n ≤ 63 → ∃ i, i ≤ n ∧ (∀ j : Nat, j < i → lim j < x) ∧ ∀ j : Nat, i ≤ j → j < n → x ≤ lim j := by
      intro n
      induction n with
      | zero => intro _; exact ⟨0, by omega, fun j hj => by omega, fun j _ h => by omega⟩
      | succ n ih =>
        intro hn
        obtain ⟨i, h0, h1, h2⟩ := ih Z.b9
        by_cases hx : x ≤ lim n
        · refine ⟨i, by omega, h1, fun j hj hjn => ?_⟩
          by_cases e : j = n
          · rw [e]; exact hx
          exact h2 j hj Z.b9
        refine ⟨n + 1, Nat.le_refl _, fun j hj => ?_, fun j h1 h2 => by omega⟩
        have := lim_mono (show j ≤ n by omega)
        omega
    exact this 63 (Nat.le_refl _)
  obtain ⟨i, h0, h1, h2⟩ := key
  rw [lvl_eq h0 h1 h2]
  exact ⟨h0, h1, h2⟩
def levV (x : Int) : Int := if x < 0 then 0 else (lvl x : Int)
def levE (x : Int) : Int := if x < 0 then 2 else 0
theorem elt_lm {j : Nat} (hj : j < 63) : elt (lmI 63) (j : Int) = lim j := by
  unfold elt
  rw [List.getD_eq_getElem?_getD, Int.toNat_natCast, lmI_get hj hj]
  rfl
set_option maxRecDepth 100000 in
theorem clevel_any (x : Int) (w : World) : Calls Tryz.prog 149 #[.int .i64 x] w (SX.Ret fun v w' => v = .tuple #[.int .i64 (levV x), .int .i64 (levE x)] ∧ SX.St w [] w' []) := by
  have hs := SX.St.start w
  refine Z.enter Tryz.func149 rfl Tryz.ntmps149 rfl rfl ?_
  refine Z.g152 ?_
  refine Z.g82 ?_
  refine Z.g234 ?_
  refine Z.only [0, 8] rfl ?_
  refine Z.g313 ?_
  refine Z.cond rfl (fun hc1 => ?_) (fun hc1 => ?_)
  · (try simp at hc1)
    refine Z.g152 ?_
    refine Z.g126 ?_
    repeat (first | refine Z.rthen ?_ | refine Z.rblock ?_ | refine Z.rscope ?_)
    refine Z.out2 Z.b22 ?_
    exact ⟨_, rfl, by unfold levV levE; rw [if_pos Z.b9, if_pos Z.b9], hs⟩
  (try simp at hc1)
  refine Z.g151 ?_
  refine Z.g3 ?_
  refine Z.ZO.call rfl rfl (by rfl) rfl rfl Tryz.call188 rfl (limits_any _) ?_
  rintro v3_0 w3_0 ⟨rfl, hy⟩
  replace hs := Z.w1 (hs.call hy); clear hy
  refine Z.g3 ?_
  refine Z.ZO.alloc rfl rfl (by rfl) Tryz.zeroValue261 rfl hs ?_
  clear hs; intro g4 w4 hs
  refine Z.g3 ?_
  refine Z.ZO.storeA rfl rfl hs rfl rfl Z.b4 (by rw [List.all_toArray]; exact List.all_eq_true.2 (lmC_one 63)) SX.at0 (show (63 : Nat) = (lmC 63).length from (lmC_len 63).symm) ?_
  clear hs; intro ws hs
  replace hs := Z.w0 hs
  refine Z.g314 ?_
  refine Z.only [0, 4] rfl ?_
  refine Z.g30 ?_
  refine Z.l rfl rfl (by rfl) (Z.keepS hs) (Z.Yd.cutA rfl Tryz.underlying261 Tryz.sizeOf3) ?_
  refine Z.g64 ?_
  have hsl := (Z.blk_lentj (L1 := []) hs (j := 0) rfl).sl
  refine Z.g3 ?_
  refine Z.ZO.call rfl rfl (by rfl) rfl rfl Tryz.call189 rfl (bsearch_any _ 63 63 (lmI 63) x _ hsl (by simp [lmI]) Z.b9 (fun i j hij hj ↦ by rw [elt_lm Z.b9, elt_lm Z.b9]; exact lim_mono hij)) ?_
  rintro v4_2 w4_2 ⟨⟨i, b, rfl, hi, h1, h2⟩, hy⟩
  replace hs := Z.w1 (hs.call hy); clear hy
  refine Z.g212 ?_
  refine Z.only [5] rfl ?_
  refine Z.g92 ?_
  refine Z.g314 ?_
  refine Z.g126 ?_
  refine Z.out2 Z.b22 ?_
  have e : lvl x = i := lvl_eq hi (fun j hj => by have := h1 j hj; rwa [elt_lm Z.b9] at this) (fun j hj hj2 => by have := h2 j hj hj2; rwa [elt_lm Z.b9] at this)
  exact ⟨_, rfl, by unfold levV levE; rw [if_neg Z.b9, if_neg Z.b9, e], hs.sub (List.nil_sublist _)⟩
end Go.Proofs.YtbojkoiopkaciaaGreat

/- Control elements: the examples of the chapter. -/
namespace Go.Proofs.YtbojkoiopkaciaaGreat
open Go.RowKit
set_option linter.unusedSimpArgs false
set_option linter.unusedVariables false
--newlaws

instance (r : RepV) : Decidable r.ok := by unfold RepV.ok okL; infer_instance
theorem encrep_ok (r : RepV) (w : World) (hr : r.ok) :
    Calls Tryz.prog 95 #[.agg r.cells.toArray] w (SX.Ret fun v w' => ∃ u, v = .tuple #[u, .int .i64 0] ∧ IsPart (encLc r) (encL r) u w w') := by
  have hs := SX.St.start w
  refine Z.enter Tryz.func95 rfl Tryz.ntmps95 rfl rfl ?_
  refine Z.g90 ?_
  clear hs; intro g1 w1 hs
  refine Z.g254 ?_
  clear hs; intro g2 w2 hs
  refine Z.g231 ?_
  refine Z.g64 ?_
  have hof : ∀ W L, SX.St w2 [] W L → Calls Tryz.prog 143 #[.pointer (some ⟨g1, 0, none⟩)] W (SX.Ret fun v w' => IsPart (encLc r) (encL r) v W w') := fun W L hW => by
    obtain ⟨a1, a2⟩ := blkLater hs (j := 1) rfl hW
    cases hl : r.long with
    | true =>
      have := encrep1_long g1 r W ⟨a1, fun i u hu => a2 i u (by simpa using hu)⟩ hr hl
      unfold encLc encL
      rw [if_pos hl, if_pos hl]
      exact this
    | false =>
      have := encrep1_short g1 r W ⟨a1, fun i u hu => a2 i u (by simpa using hu)⟩ hr hl
      unfold encLc encL
      rw [if_neg (by simp [hl]), if_neg (by simp [hl])]
      exact this
  refine Z.g3 ?_
  refine Z.ZO.call rfl rfl (by rfl) rfl rfl Tryz.call142 rfl (element_ok _ _ (encLc r) _ _ Tryz.call143 hof) ?_
  rintro v1_1 w1_1 ⟨u, rfl, B, co, rfl, hy⟩
  replace hs := Z.w1 (hs.call hy); clear hy
  refine Z.g63 ?_
  refine Z.g7 ?_
  clear hs; intro ws hs
  replace hs := Z.w0 hs
  replace hs := Z.w3 hs
  refine Z.g1 ?_
  refine Z.g126 ?_
  refine Z.out2 (by exact ⟨⟨_, rfl, Z.rvcA hs Tryz.isAgg77 Z.b0 Z.b18⟩, rfl, trivial⟩) ?_
  exact ⟨_, rfl, _, rfl, B, co, rfl, hs.sel [0] Z.b12⟩
end Go.Proofs.YtbojkoiopkaciaaGreat

/- Control elements: the document's reports. -/
namespace Go.Proofs.YtbojkoiopkaciaaGreat
open Go.RowKit
set_option linter.unusedSimpArgs false
set_option linter.unusedVariables false
--newlaws

theorem ok_iff (r : RepV) : r.ok ↔ (0 ≤ r.group ∧ r.group ≤ 3) ∧ (r.long = true → r.group = 0) ∧ ∀ j : Nat, j < 4 → okL (r.lv j) ∧ (r.long = false → (j : Int) ≠ r.group → r.lv j = 0) := by
  unfold RepV.ok
  refine and_congr_right fun hg => ?_
  cases hl : r.long with
  | true =>
    rw [if_pos rfl]
    constructor
    · rintro ⟨h0, ha, hb, hc, hd⟩
      refine ⟨fun _ => h0, fun j hj => ⟨?_, fun h => (by cases h)⟩⟩
      have : j = 0 ∨ j = 1 ∨ j = 2 ∨ j = 3 := by omega
      rcases this with rfl | rfl | rfl | rfl
      · exact ha
      · exact hb
      · exact hc
      exact hd
    rintro ⟨h0, h⟩
    exact ⟨h0 rfl, (h 0 Z.b9).1, (h 1 Z.b9).1, (h 2 Z.b9).1, (h 3 Z.b9).1⟩
  | false =>
    rw [if_neg Z.b17]
    constructor
    · rintro ⟨h1, h2⟩
      refine ⟨fun h => (by cases h), fun j hj => ?_⟩
      rcases h1 j hj with h | h
      · exact ⟨by rw [h]; exact ⟨by omega, by omega⟩, fun _ _ => h⟩
      refine ⟨?_, fun _ h3 => absurd h h3⟩
      rw [show j = r.group.toNat from by omega]
      exact h2
    rintro ⟨-, h⟩
    refine ⟨fun j hj => ?_, (h r.group.toNat Z.b9).1⟩
    by_cases e : (j : Int) = r.group
    · exact .inr e
    exact .inl ((h j hj).2 rfl e)
theorem encL_bytes {r : RepV} (hr : r.ok) : Byts (encL r) := by
  unfold encL
  split
  · exact be_bytes _ _
  obtain ⟨hg, -, hj⟩ := (ok_iff r).1 hr
  have kg := (hj r.group.toNat Z.b9).1
  unfold okL at kg
  intro x hx
  obtain rfl : x = _ := by simpa using hx
  omega
end Go.Proofs.YtbojkoiopkaciaaGreat

/- Reports: slices.IndexFunc, ContainsFunc over integers; within, index, group. -/
namespace Go.Proofs.YtbojkoiopkaciaaGreat
open Go.RowKit
set_option linter.unusedSimpArgs false
set_option linter.unusedVariables false
--newlaws

def idxW (p : Int → Bool) (l : List Int) : Int := match l.findIdx? p with | some i => (i : Int) | none => -1
theorem idxW_some {p : Int → Bool} {l : List Int} {k : Nat} (h0 : ∀ x ∈ l.take k, p x = false) (hk : k < l.length) (h1 : p l[k] = true) : idxW p l = (k : Int) := by
  have : l.findIdx? p = some k := by
    rw [List.findIdx?_eq_some_iff_getElem]
    refine ⟨hk, h1, fun j hj => ?_⟩
    have := h0 l[j] (List.mem_take_iff_getElem.2 ⟨j, by omega, rfl⟩)
    simp [this]
  unfold idxW
  rw [this]
theorem idxW_none {p : Int → Bool} {l : List Int} (h0 : ∀ x ∈ l, p x = false) : idxW p l = -1 := by
  have : l.findIdx? p = none := by
    rw [List.findIdx?_eq_none_iff]
    exact h0
  unfold idxW
  rw [this]
theorem idxW_any (p : Int → Bool) (l : List Int) : decide (0 ≤ idxW p l) = l.any p := by
  unfold idxW
  cases h : l.findIdx? p with
  | some i =>
    obtain ⟨h1, h2, -⟩ := List.findIdx?_eq_some_iff_getElem.1 h
    rw [List.any_eq_true.2 ⟨l[i], List.getElem_mem _, h2⟩]
    simp
  | none =>
    have h2 := List.findIdx?_eq_none_iff.1 h
    symm
    show l.any p = false
    rw [List.any_eq_false]
    intro x hx
    simpa using h2 x hx
theorem rp_indexf (A : Option Addr) (n c : Nat) (l : List Int) (k : Nat) (cap : Array Value) (p : Int → Bool) (w : World) (hx : Sl w A (ints .i64 l)) (hl : l.length = n) (hn : n ≤ 1000)
    (hk : ∀ args w, (callFunc k args).run Tryz.prog w = .ok (.enter k args) w) (hp : ∀ x W, SX.St w [] W [] → Calls Tryz.prog k (Value.int .i64 x :: cap.toList).toArray W (SX.Ret fun v w' => v = .bool (p x) ∧ SX.St W [] w' [])) :
    Calls Tryz.prog 182 #[.slice A n c, .func (.func k) #[] cap] w (SX.Ret fun v w' => v = .int .i64 (idxW p l) ∧ SX.St w [] w' []) := by
  have hs := SX.St.start w
  refine Z.enter Tryz.func182 rfl Tryz.ntmps182 rfl rfl ?_
  refine Z.g243 ?_
  refine Z.g123 ?_
  refine Z.g227 ?_
  refine Z.only [0, 1, 7, 8] rfl ?_
  refine Z.g313 ?_
  refine Z.g102 ?_
  clear hs
  rintro i w1 ⟨⟨hi, hj⟩, hs⟩
  refine Z.g228 ?_
  refine Z.cond rfl (fun hc2 => ?_) (fun hc2 => ?_)
  · (try simp at hc2)
    have hlt : i < l.length := by omega
    have hel : elt l (i : Int) = l[i] := by simp [elt, hlt]
    obtain ⟨b, off, rfl, hb0, hx2⟩ := Z.Sl.some hx Z.b74
    refine Z.g91 ?_
    refine Z.g152 ?_
    refine Z.only [0, 1, 5, 7, 8] rfl ?_
    refine Z.g92 ?_
    refine Z.g24 ?_
    refine Z.l rfl rfl (by rfl) (Z.keepS hs) (Z.Yd.load rfl Tryz.isAgg3 (fun hG => Z.cellS hx2 rfl Z.b3 Z.b3)) ?_
    refine Z.g3 ?_
    refine Z.ZO.call rfl rfl (by rfl) rfl rfl hk Z.b24 (hp (elt l (i : Int)) _ hs) ?_
    rintro v4_5 w4_5 ⟨rfl, hy⟩
    replace hs := Z.w1 (hs.call hy); clear hy
    refine Z.g314 ?_
    refine Z.only [0, 1, 5, 7, 8, 16] rfl ?_
    refine Z.g313 ?_
    refine Z.cond rfl (fun hc4 => ?_) (fun hc4 => ?_)
    · (try simp at hc4)
      refine Z.g152 ?_
      refine Z.g62 ?_
      repeat (first | refine Z.rthen ?_ | refine Z.rblock ?_ | refine Z.rscope ?_)
      refine Z.g52 ?_
      refine ⟨_, rfl, ?_, hs⟩
      rw [idxW_some hj hlt (by rw [← hel]; assumption)]
    (try simp at hc4)
    refine Z.g235 ?_
    refine Z.only [0, 1, 7, 8] rfl ?_
    refine Z.g313 ?_
    refine Z.again (i + 1) Z.b10 ⟨⟨by omega, fun x hm => ?_⟩, hs⟩ Z.b9
    rw [List.take_add_one, List.getElem?_eq_getElem hlt] at hm
    rcases List.mem_append.1 hm with hm | hm
    · exact hj x hm
    obtain rfl : x = l[i] := by simpa using hm
    rw [← hel]; assumption
  (try simp at hc2)
  refine Z.g244 ?_
  refine Z.g52 ?_
  rw [List.take_of_length_le Z.b9] at hj
  refine ⟨_, rfl, ?_, hs⟩
  rw [idxW_none hj]
theorem rp_containsf (A : Option Addr) (n c : Nat) (l : List Int) (k : Nat) (cap : Array Value) (p : Int → Bool) (w : World) (hx : Sl w A (ints .i64 l)) (hl : l.length = n) (hn : n ≤ 1000)
    (hk : ∀ args w, (callFunc k args).run Tryz.prog w = .ok (.enter k args) w) (hp : ∀ x W, SX.St w [] W [] → Calls Tryz.prog k (Value.int .i64 x :: cap.toList).toArray W (SX.Ret fun v w' => v = .bool (p x) ∧ SX.St W [] w' [])) :
    Calls Tryz.prog 133 #[.slice A n c, .func (.func k) #[] cap] w (SX.Ret fun v w' => v = .bool (l.any p) ∧ SX.St w [] w' []) := by
  have hs := SX.St.start w
  refine Z.enter Tryz.func133 rfl Tryz.ntmps133 rfl rfl ?_
  refine Z.g243 ?_
  refine Z.g276 ?_
  refine Z.ZO.call rfl rfl (by rfl) rfl rfl Tryz.call182 rfl (rp_indexf A n c l k cap p _ hx hl hn hk hp) ?_
  rintro v1_2 w1_2 ⟨rfl, hy⟩
  replace hs := Z.w1 (hs.call hy); clear hy
  refine Z.g31 ?_
  refine Z.g62 ?_
  refine Z.g52 ?_
  exact ⟨_, rfl, by rw [← idxW_any], hs⟩
theorem rp_within1 (g : Nat) (most x : Int) (w : World) (hc : Cel w g [.int .i64 most]) :
    Calls Tryz.prog 134 #[.int .i64 x, .pointer (some ⟨g, 0, none⟩)] w (SX.Ret fun v w' => v = .bool (decide (x < 0 ∨ most < x)) ∧ SX.St w [] w' []) := by
  have hs := SX.St.start w
  refine Z.enter Tryz.func134 rfl Tryz.ntmps134 rfl rfl ?_
  refine Z.g243 ?_
  refine Z.g30 ?_
  refine Z.lb 4 rfl ?_
  refine Z.l rfl rfl (by rfl) (Z.keepS hs) (Z.Yd.load rfl Tryz.isAgg3 (fun _ => Z.cellO hc.1 Z.b17 (hc.2 0 _ rfl))) ?_
  refine Z.g247 ?_
  refine Z.only [3] rfl ?_
  refine Z.g6 ?_
  refine Z.g52 ?_
  exact ⟨_, rfl, by congr 1; simp, hs⟩
def okW (most : Int) (l : List Int) : Prop := ∀ x ∈ l, 0 ≤ x ∧ x ≤ most
instance (most : Int) (l : List Int) : Decidable (okW most l) := by unfold okW; infer_instance
theorem rp_within (A : Option Addr) (n c : Nat) (l : List Int) (most : Int) (w : World) (hx : Sl w A (ints .i64 l)) (hl : l.length = n) (hn : n ≤ 1000) (hc : n ≤ c) :
    Calls Tryz.prog 77 #[.int .i64 most, .slice A n c] w (SX.Ret fun v w' => v = .bool (decide (okW most l)) ∧ SX.St w [] w' []) := by
  have hs := SX.St.start w
  refine Z.enter Tryz.func77 rfl Tryz.ntmps77 rfl rfl ?_
  refine Z.g90 ?_
  clear hs; intro g2 w2 hs
  refine Z.g231 ?_
  refine Z.g22 ?_
  refine Z.g16 ?_
  refine Z.g64 ?_
  refine Z.g16 ?_
  refine Z.l rfl rfl (by rfl) (Z.keepS hs) (Z.Yd.cut3 0 n n rfl rfl rfl rfl Tryz.underlying34 Tryz.sizeOf3 (fun hG => ⟨Z.b3, Z.b3, Z.b3, Z.b3, Z.b3⟩)) ?_
  refine Z.g32 ?_
  refine Z.ZO.call rfl rfl (by rfl) rfl rfl Tryz.call133 rfl (rp_containsf _ n n l 134 _ (fun x ↦ decide (x < 0 ∨ most < x)) _ (by rw [slA_zero]; exact hx.st (hs.sub (List.nil_sublist _))) hl hn Tryz.call134 (fun x W hW ↦ rp_within1 g2 most x W (Cel.st (hs.celOf Z.b0) hW))) ?_
  rintro v1_7 w1_7 ⟨rfl, hy⟩
  replace hs := Z.w1 (hs.call hy); clear hy
  refine Z.g31 ?_
  refine Z.g62 ?_
  refine Z.g52 ?_
  refine ⟨_, rfl, ?_, hs.sub (List.nil_sublist _)⟩
  congr 1
  rw [Bool.eq_iff_iff, decide_eq_true_iff]
  unfold okW
  simp
def fstG (a b c d : Int) : Int := if 0 < a then 0 else if 0 < b then 1 else if 0 < c then 2 else if 0 < d then 3 else 4
theorem fstG_bd (a b c d : Int) : 0 ≤ fstG a b c d ∧ fstG a b c d ≤ 4 := by unfold fstG; split <;> (try split) <;> (try split) <;> (try split) <;> omega
theorem rp_group1 (x : Int) (w : World) : Calls Tryz.prog 141 #[.int .i64 x] w (SX.Ret fun v w' => v = .bool (decide (0 < x)) ∧ SX.St w [] w' []) := by
  have hs := SX.St.start w
  refine Z.enter Tryz.func141 rfl Tryz.ntmps141 rfl rfl ?_
  refine Z.g155 ?_
  refine Z.g92 ?_
  refine Z.g314 ?_
  refine Z.g33 ?_
  refine Z.g52 ?_
  exact ⟨_, rfl, rfl, hs⟩
theorem rp_index (A : Option Addr) (n c : Nat) (l : List Int) (k : Nat) (cap : Array Value) (p : Int → Bool) (w : World) (hx : Sl w A (ints .i64 l)) (hl : l.length = n) (hn : n ≤ 1000)
    (hk : ∀ args w, (callFunc k args).run Tryz.prog w = .ok (.enter k args) w) (hp : ∀ x W, SX.St w [] W [] → Calls Tryz.prog k (Value.int .i64 x :: cap.toList).toArray W (SX.Ret fun v w' => v = .bool (p x) ∧ SX.St W [] w' [])) :
    Calls Tryz.prog 140 #[.slice A n c, .func (.func k) #[] cap] w (SX.Ret fun v w' => v = .int .i64 (if 0 ≤ idxW p l then idxW p l else n) ∧ SX.St w [] w' []) := by
  have hs := SX.St.start w
  refine Z.enter Tryz.func140 rfl Tryz.ntmps140 rfl rfl ?_
  refine Z.g243 ?_
  refine Z.g60 ?_
  refine Z.g63 ?_
  refine Z.ZO.call rfl rfl (by rfl) rfl rfl Tryz.call182 rfl (rp_indexf A n c l k cap p _ hx hl hn hk hp) ?_
  rintro v1_2 w1_2 ⟨rfl, hy⟩
  replace hs := Z.w1 (hs.call hy); clear hy
  refine Z.g1 ?_
  refine Z.only [0, 5] rfl ?_
  refine Z.g30 ?_
  refine Z.g31 ?_
  refine Z.only [0, 5, 10] rfl ?_
  refine Z.g313 ?_
  refine Z.cond rfl (fun hc2 => ?_) (fun hc2 => ?_)
  · (try simp at hc2)
    refine Z.g152 ?_
    refine Z.g62 ?_
    repeat (first | refine Z.rthen ?_ | refine Z.rblock ?_ | refine Z.rscope ?_)
    refine Z.g52 ?_
    exact ⟨_, rfl, by rw [if_pos Z.b9], hs⟩
  (try simp at hc2)
  refine Z.g151 ?_
  refine Z.g64 ?_
  refine Z.g227 ?_
  refine Z.g62 ?_
  refine Z.g52 ?_
  exact ⟨_, rfl, by rw [if_neg Z.b9], hs⟩
theorem fst_idx (a b c d : Int) : (if 0 ≤ idxW (fun x => decide (0 < x)) [a, b, c, d] then idxW (fun x => decide (0 < x)) [a, b, c, d] else (4 : Nat)) = fstG a b c d := by
  unfold idxW fstG
  by_cases h1 : 0 < a
  · simp [List.findIdx?_cons, h1]
  by_cases h2 : 0 < b
  · simp [List.findIdx?_cons, h1, h2]
  by_cases h3 : 0 < c
  · simp [List.findIdx?_cons, h1, h2, h3]
  by_cases h4 : 0 < d
  · simp [List.findIdx?_cons, h1, h2, h3, h4]
  simp [List.findIdx?_cons, h1, h2, h3, h4]
theorem rp_group (a b c d : Int) (w : World) : Calls Tryz.prog 90 #[.agg #[.int .i64 a, .int .i64 b, .int .i64 c, .int .i64 d]] w (SX.Ret fun v w' => v = .int .i64 (fstG a b c d) ∧ SX.St w [] w' []) := by
  have hs := SX.St.start w
  refine Z.enter Tryz.func90 rfl Tryz.ntmps90 rfl rfl ?_
  refine Z.g90 ?_
  clear hs; intro g1 w1 hs
  refine Z.g1 ?_
  refine Z.only [1] rfl ?_
  refine Z.g30 ?_
  refine Z.l rfl rfl (by rfl) (Z.keepS hs) (Z.Yd.cutA rfl Tryz.underlying37 Tryz.sizeOf3) ?_
  refine Z.g3 ?_
  refine Z.ZO.call rfl rfl (by rfl) rfl rfl Tryz.call140 rfl (rp_index (some ⟨g1, 0, none⟩) 4 4 [a, b, c, d] 141 _ (fun x ↦ decide (0 < x)) _ (hs.blkSl Z.b0) rfl Z.b9 Tryz.call141 (fun x W hW ↦ rp_group1 x W)) ?_
  rintro v1_1 w1_1 ⟨rfl, hy⟩
  replace hs := Z.w1 (hs.call hy); clear hy
  refine Z.g154 ?_
  refine Z.g52 ?_
  exact ⟨_, rfl, by rw [fst_idx], hs.sub (List.nil_sublist _)⟩
end Go.Proofs.YtbojkoiopkaciaaGreat

/- Reports: the state and the steps, plainly; the small functions. -/
namespace Go.Proofs.YtbojkoiopkaciaaGreat
open Go.RowKit
set_option linter.unusedSimpArgs false
set_option linter.unusedVariables false
--newlaws

structure RpV where
  reg : Bool
  per : Bool
  pow : Bool
  fst : Bool
  c0 : Int
  c1 : Int
  c2 : Int
  c3 : Int
  now : Int
  b0 : Int
  b1 : Int
  b2 : Int
  b3 : Int
  head : Int
  last : Int
  lastP : Int
  told : Int
deriving DecidableEq
def RpV.cells (m : RpV) : List Value := [.bool m.reg, .bool m.per, .bool m.pow, .bool m.fst, .bool true, .int .i64 m.c0, .int .i64 m.c1, .int .i64 m.c2, .int .i64 m.c3, .int .i64 m.now, .int .i64 m.b0, .int .i64 m.b1, .int .i64 m.b2, .int .i64 m.b3, .int .i64 m.head, .int .i64 m.last, .int .i64 m.lastP, .int .i64 m.told]
theorem rp_one (m : RpV) : ∀ u ∈ m.cells, u.oneCell' = true := by intro u hu; simp [RpV.cells] at hu; rcases hu with rfl | rfl | rfl | rfl | rfl | rfl | rfl | rfl | rfl | rfl | rfl | rfl | rfl | rfl | rfl | rfl | rfl | rfl <;> rfl
def okC (a b c d : Int) : Prop := okW 1048576 [a, b, c] ∧ okW 63 [d]
instance (a b c d : Int) : Decidable (okC a b c d) := by unfold okC; infer_instance
structure RpV.ok (m : RpV) : Prop where
  cfg : okC m.c0 m.c1 m.c2 m.c3
  now : 0 ≤ m.now ∧ m.now < 1073741824
  by0 : 0 ≤ m.b0 ∧ m.b0 ≤ 1099511627776
  by1 : 0 ≤ m.b1 ∧ m.b1 ≤ 1099511627776
  by2 : 0 ≤ m.b2 ∧ m.b2 ≤ 1099511627776
  by3 : 0 ≤ m.b3 ∧ m.b3 ≤ 1099511627776
  head : 0 ≤ m.head ∧ m.head ≤ 63
  last : 0 ≤ m.last ∧ m.last < 1073741824
  lastP : 0 ≤ m.lastP ∧ m.lastP < 1073741824
  told : 0 ≤ m.told ∧ m.told ≤ 63
  full : m.reg = true ∨ m.per = true → fstG m.b0 m.b1 m.b2 m.b3 ≠ 4
def newR (a b c d : Int) : RpV := ⟨false, false, false, true, a, b, c, d, 0, 0, 0, 0, 0, 0, 0, 0, 0⟩
theorem newR_ok {a b c d : Int} (h : okC a b c d) : (newR a b c d).ok := by
  constructor <;> simp [newR, h]
def dueV (t s now : Int) : Bool := decide (0 < t ∧ t ≤ now - s)
def chgV (c head told : Int) : Bool := decide (0 < c ∧ c ≤ max (head - told) (told - head))
def okU (m : RpV) (t a b c d h : Int) : Prop := (m.now ≤ t ∧ t < 1073741824) ∧ okW 1099511627776 [a, b, c, d] ∧ okW 63 [h]
instance (m : RpV) (t a b c d h : Int) : Decidable (okU m t a b c d h) := by unfold okU; infer_instance
theorem okU_iff (m : RpV) (t a b c d h : Int) : okU m t a b c d h ↔ (m.now ≤ t ∧ t < 1073741824) ∧ ((0 ≤ a ∧ a ≤ 1099511627776) ∧ (0 ≤ b ∧ b ≤ 1099511627776) ∧ (0 ≤ c ∧ c ≤ 1099511627776) ∧ (0 ≤ d ∧ d ≤ 1099511627776)) ∧ 0 ≤ h ∧ h ≤ 63 := by
  unfold okU okW
  simp
def updG (m : RpV) (t a b c d h : Int) : RpV := { m with
  now := t, b0 := a, b1 := b, b2 := c, b3 := d, head := h
  reg := if fstG a b c d = 4 then false else m.reg || decide (fstG a b c d < fstG m.b0 m.b1 m.b2 m.b3) || dueV m.c1 m.last t
  per := if fstG a b c d = 4 then false else m.per || dueV m.c0 m.last t
  pow := m.pow || m.fst || dueV m.c2 m.lastP t || chgV m.c3 h m.told }
def updV (m : RpV) (t a b c d h : Int) : RpV × Int := if okU m t a b c d h then (updG m t a b c d h, 0) else (m, 2)
theorem RpV.ok.updG {m : RpV} (hm : m.ok) {t a b c d h : Int} (hu : okU m t a b c d h) : (updG m t a b c d h).ok := by
  obtain ⟨h1, h2, h3, h4, h5, h6, h7, h8, h9, h10, h11⟩ := hm
  obtain ⟨⟨u1, u2⟩, ⟨u3, u4, u5, u6⟩, u7⟩ := (okU_iff m t a b c d h).1 hu
  refine ⟨h1, ?_, u3, u4, u5, u6, u7, h8, h9, h10, ?_⟩
  · simp only [Go.Proofs.YtbojkoiopkaciaaGreat.updG]; omega
  simp only [Go.Proofs.YtbojkoiopkaciaaGreat.updG]
  intro h hf
  simp [hf] at h
theorem RpV.ok.updV {m : RpV} (hm : m.ok) (t a b c d h : Int) : (updV m t a b c d h).1.ok := by
  unfold Go.Proofs.YtbojkoiopkaciaaGreat.updV
  split
  · exact hm.updG Z.b63
  exact hm

theorem Cel.part {w0 : World} {M : List Nat} {L : List SX.Ent} {g : Nat} {cs : List Value} (h : Cel w0 g cs) (hM : g ∉ M) {i : Nat} (sub : List Value) (hsub : (cs.drop i).take sub.length = sub) : ∀ w, SX.Keep w0 M L w → ∀ (j : Nat) (u : Value), sub[j]? = some u → w.cell? ⟨g, i + j, none⟩ = some u := fun w hK j u hu => by
  refine Z.cellO h.1 hM (h.2 (i + j) u ?_) w hK
  rw [← hsub, List.getElem?_take] at hu
  split at hu
  · rwa [List.getElem?_drop] at hu
  cases hu
theorem rp_none (g : Nat) (m : RpV) (w : World) (hc : Cel w g m.cells) : Calls Tryz.prog 87 #[.pointer (some ⟨g, 0, none⟩)] w (SX.Ret fun v w' => v = .bool false ∧ SX.St w [] w' []) := by
  have hs := SX.St.start w
  refine Z.enter Tryz.func87 rfl Tryz.ntmps87 rfl rfl ?_
  refine Z.g241 ?_
  refine Z.g64 ?_
  refine Z.l rfl rfl (by rfl) (Z.keepS hs) (Z.Yd.ptrNil rfl rfl Tryz.underlying53) ?_
  refine Z.g186 ?_
  refine Z.l rfl rfl (by rfl) (Z.keepS hs) (Z.Yd.fieldA (m := 4) rfl Z.b4) ?_
  refine Z.l rfl rfl (by rfl) (Z.keepS hs) (Z.Yd.load rfl Tryz.isAgg4 (fun _ => Z.cellO hc.1 Z.b17 (hc.2 4 _ rfl))) ?_
  refine Z.g247 ?_
  refine Z.g33 ?_
  refine Z.g52 ?_
  exact ⟨_, rfl, rfl, hs⟩
theorem rp_valid (g : Nat) (m : RpV) (t : Int) (w : World) (hc : Cel w g m.cells) : Calls Tryz.prog 89 #[.pointer (some ⟨g, 0, none⟩), .int .i64 t] w (SX.Ret fun v w' => v = .bool (decide (m.now ≤ t ∧ t < 1073741824)) ∧ SX.St w [] w' []) := by
  have hs := SX.St.start w
  refine Z.enter Tryz.func89 rfl Tryz.ntmps89 rfl rfl ?_
  refine Z.g243 ?_
  refine Z.g30 ?_
  refine Z.g186 ?_
  refine Z.l rfl rfl (by rfl) (Z.keepS hs) (Z.Yd.fieldA (m := 9) rfl Z.b4) ?_
  refine Z.l rfl rfl (by rfl) (Z.keepS hs) (Z.Yd.load rfl Tryz.isAgg3 (fun _ => Z.cellO hc.1 Z.b17 (hc.2 9 _ rfl))) ?_
  refine Z.lb 6 rfl ?_
  refine Z.g314 ?_
  refine Z.g62 ?_
  refine Z.g52 ?_
  exact ⟨_, rfl, by congr 1; simp, hs⟩
theorem rp_due (g : Nat) (m : RpV) (t s : Int) (w : World) (hc : Cel w g m.cells) (hn : 0 ≤ m.now ∧ m.now < 1073741824) (hb : 0 ≤ s ∧ s < 1073741824) : Calls Tryz.prog 91 #[.pointer (some ⟨g, 0, none⟩), .int .i64 t, .int .i64 s] w (SX.Ret fun v w' => v = .bool (dueV t s m.now) ∧ SX.St w [] w' []) := by
  have hs := SX.St.start w
  refine Z.enter Tryz.func91 rfl Tryz.ntmps91 rfl rfl ?_
  refine Z.g120 ?_
  refine Z.only [0, 1, 2] rfl ?_
  refine Z.g30 ?_
  refine Z.lb 4 rfl ?_
  refine Z.g10 ?_
  refine Z.l rfl rfl (by rfl) (Z.keepS hs) (Z.Yd.fieldA (m := 9) rfl Z.b4) ?_
  refine Z.l rfl rfl (by rfl) (Z.keepS hs) (Z.Yd.load rfl Tryz.isAgg3 (fun _ => Z.cellO hc.1 Z.b17 (hc.2 9 _ rfl))) ?_
  refine Z.g64 ?_
  refine Z.g19 ?_
  refine Z.lb 4 rfl ?_
  refine Z.g314 ?_
  refine Z.only [6] rfl ?_
  refine Z.g6 ?_
  refine Z.g52 ?_
  exact ⟨_, rfl, by unfold dueV; congr 1; simp, hs⟩
theorem rp_changed (g : Nat) (m : RpV) (w : World) (hc : Cel w g m.cells) (hh : 0 ≤ m.head ∧ m.head ≤ 63) (hb : 0 ≤ m.told ∧ m.told ≤ 63) : Calls Tryz.prog 92 #[.pointer (some ⟨g, 0, none⟩)] w (SX.Ret fun v w' => v = .bool (chgV m.c3 m.head m.told) ∧ SX.St w [] w' []) := by
  have hs := SX.St.start w
  refine Z.enter Tryz.func92 rfl Tryz.ntmps92 rfl rfl ?_
  refine Z.g155 ?_
  refine Z.g313 ?_
  refine Z.g99 ?_
  clear hs; intro wd1 hs
  refine Z.tb [0] Z.b4 rfl ⟨_, hs, Z.b2⟩ rfl ?_
  refine Z.t 1 rfl rfl rfl (by rfl) Z.b4 ⟨_, hs, Z.b2⟩ (Z.Yd.nilc rfl rfl) ?_
  refine Z.t 2 rfl rfl rfl (by rfl) Z.b4 ⟨_, hs, Z.b2⟩ (Z.Yd.fieldA (m := 5) rfl Z.b4) ?_
  refine Z.t 3 rfl rfl rfl (by rfl) Z.b4 ⟨_, hs, Z.b2⟩ (Z.Yd.fieldA (m := 3) rfl Z.b4) ?_
  refine Z.t 4 rfl rfl rfl (by rfl) Z.b4 ⟨_, hs, Z.b2⟩ (Z.Yd.load rfl Tryz.isAgg3 (fun _ => Z.cellO hc.1 Z.b17 (hc.2 8 _ rfl))) ?_
  refine Z.tb [5, 6, 7] Z.b4 rfl ⟨_, hs, Z.b2⟩ rfl ?_
  refine Z.t 8 rfl rfl rfl (by rfl) Z.b4 ⟨_, hs, Z.b2⟩ (Z.Yd.nilc rfl rfl) ?_
  refine Z.t 9 rfl rfl rfl (by rfl) Z.b4 ⟨_, hs, Z.b2⟩ (Z.Yd.fieldA (m := 14) rfl Z.b4) ?_
  refine Z.t 10 rfl rfl rfl (by rfl) Z.b4 ⟨_, hs, Z.b2⟩ (Z.Yd.load rfl Tryz.isAgg3 (fun _ => Z.cellO hc.1 Z.b17 (hc.2 14 _ rfl))) ?_
  refine Z.tb [11] Z.b4 rfl ⟨_, hs, Z.b2⟩ rfl ?_
  refine Z.t 12 rfl rfl rfl (by rfl) Z.b4 ⟨_, hs, Z.b2⟩ (Z.Yd.nilc rfl rfl) ?_
  refine Z.t 13 rfl rfl rfl (by rfl) Z.b4 ⟨_, hs, Z.b2⟩ (Z.Yd.fieldA (m := 17) rfl Z.b4) ?_
  refine Z.t 14 rfl rfl rfl (by rfl) Z.b4 ⟨_, hs, Z.b2⟩ (Z.Yd.load rfl Tryz.isAgg3 (fun _ => Z.cellO hc.1 Z.b17 (hc.2 17 _ rfl))) ?_
  refine Z.t 15 rfl rfl rfl (by rfl) Z.b4 ⟨_, hs, Z.b2⟩ (Z.Yd.sub rfl rfl (fun hG => Z.wi64 Z.b3)) ?_
  refine Z.tb [16] Z.b4 rfl ⟨_, hs, Z.b2⟩ rfl ?_
  refine Z.t 17 rfl rfl rfl (by rfl) Z.b4 ⟨_, hs, Z.b2⟩ (Z.Yd.nilc rfl rfl) ?_
  refine Z.t 18 rfl rfl rfl (by rfl) Z.b4 ⟨_, hs, Z.b2⟩ (Z.Yd.fieldA (m := 17) rfl Z.b4) ?_
  refine Z.t 19 rfl rfl rfl (by rfl) Z.b4 ⟨_, hs, Z.b2⟩ (Z.Yd.load rfl Tryz.isAgg3 (fun _ => Z.cellO hc.1 Z.b17 (hc.2 17 _ rfl))) ?_
  refine Z.tb [20] Z.b4 rfl ⟨_, hs, Z.b2⟩ rfl ?_
  refine Z.t 21 rfl rfl rfl (by rfl) Z.b4 ⟨_, hs, Z.b2⟩ (Z.Yd.nilc rfl rfl) ?_
  refine Z.t 22 rfl rfl rfl (by rfl) Z.b4 ⟨_, hs, Z.b2⟩ (Z.Yd.fieldA (m := 14) rfl Z.b4) ?_
  refine Z.t 23 rfl rfl rfl (by rfl) Z.b4 ⟨_, hs, Z.b2⟩ (Z.Yd.load rfl Tryz.isAgg3 (fun _ => Z.cellO hc.1 Z.b17 (hc.2 14 _ rfl))) ?_
  refine Z.t 24 rfl rfl rfl (by rfl) Z.b4 ⟨_, hs, Z.b2⟩ (Z.Yd.sub rfl rfl (fun hG => Z.wi64 Z.b3)) ?_
  refine Z.t 25 rfl rfl rfl (by rfl) Z.b4 ⟨_, hs, Z.b2⟩ (Z.Yd.max rfl rfl) ?_
  refine Z.tb [26] Z.b4 rfl ⟨_, hs, Z.b2⟩ rfl ?_
  refine Z.t 27 rfl rfl rfl (by rfl) Z.b4 ⟨_, hs, Z.b2⟩ (Z.Yd.nilc rfl rfl) ?_
  refine Z.t 28 rfl rfl rfl (by rfl) Z.b4 ⟨_, hs, Z.b2⟩ (Z.Yd.fieldA (m := 5) rfl Z.b4) ?_
  refine Z.t 29 rfl rfl rfl (by rfl) Z.b4 ⟨_, hs, Z.b2⟩ (Z.Yd.fieldA (m := 3) rfl Z.b4) ?_
  refine Z.t 30 rfl rfl rfl (by rfl) Z.b4 ⟨_, hs, Z.b2⟩ (Z.Yd.load rfl Tryz.isAgg3 (fun _ => Z.cellO hc.1 Z.b17 (hc.2 8 _ rfl))) ?_
  refine Z.tb [31, 32, 33] Z.b4 rfl ⟨_, hs, Z.b2⟩ rfl ?_
  refine Z.g68 ?_
  refine Z.g33 ?_
  refine Z.g52 ?_
  exact ⟨_, rfl, by unfold chgV; congr 1; simp, hs⟩
theorem rp_buffer (a b c d : Bool) (w : World) : Calls Tryz.prog 94 #[.agg #[.bool a, .bool b, .bool c, .bool d]] w (SX.Ret fun v w' => v = .bool (a || b) ∧ SX.St w [] w' []) := by
  have hs := SX.St.start w
  refine Z.enter Tryz.func94 rfl Tryz.ntmps94 rfl rfl ?_
  refine Z.g90 ?_
  clear hs; intro g1 w1 hs
  refine Z.g1 ?_
  refine Z.only [1] rfl ?_
  refine Z.g30 ?_
  refine Z.g4 ?_
  refine Z.l rfl rfl (by rfl) (Z.keepS hs) Z.b44 ?_
  refine Z.g64 ?_
  refine Z.g9 ?_
  refine Z.l rfl rfl (by rfl) (Z.keepS hs) Z.b44 ?_
  refine Z.g31 ?_
  refine Z.g33 ?_
  refine Z.g52 ?_
  exact ⟨_, rfl, by cases a <;> rfl, hs.sub (List.nil_sublist _)⟩
theorem rp_request (g : Nat) (m : RpV) (w : World) (hc : Cel w g m.cells) : Calls Tryz.prog 38 #[.pointer (some ⟨g, 0, none⟩)] w (SX.Ret fun v w' => v = .bool m.reg ∧ SX.St w [] w' []) := by
  have hs := SX.St.start w
  refine Z.enter Tryz.func38 rfl Tryz.ntmps38 rfl rfl ?_
  refine Z.g241 ?_
  refine Z.g32 ?_
  refine Z.ZO.call rfl rfl (by rfl) rfl rfl Tryz.call87 rfl (rp_none g m _ (hc.st hs)) ?_
  rintro v1_1 w1_1 ⟨rfl, hy⟩
  replace hs := Z.w1 (hs.call hy); clear hy
  refine Z.g221 ?_
  refine Z.g218 ?_
  refine Z.g177 ?_
  refine Z.g31 ?_
  refine Z.g33 ?_
  refine Z.g52 ?_
  exact ⟨_, rfl, by simp, hs⟩
end Go.Proofs.YtbojkoiopkaciaaGreat

/- Reports: New, Update, Copy, Same. -/
namespace Go.Proofs.YtbojkoiopkaciaaGreat
open Go.RowKit
set_option linter.unusedSimpArgs false
set_option linter.unusedVariables false
--newlaws

theorem rp_new (a b c d : Int) (w : World) : Calls Tryz.prog 31 #[.agg #[.int .i64 a, .int .i64 b, .int .i64 c, .int .i64 d]] w (SX.Ret fun v w' => if okC a b c d then ∃ g, v = .tuple #[.pointer (some ⟨g, 0, none⟩), .int .i64 0] ∧ SX.St w [] w' [SX.Ent.blk g 157 (newR a b c d).cells.toArray] else v = .tuple #[.pointer none, .int .i64 2] ∧ SX.St w [] w' []) := by
  have hs := SX.St.start w
  refine Z.enter Tryz.func31 rfl Tryz.ntmps31 rfl rfl ?_
  refine Z.g90 ?_
  clear hs; intro g1 w1 hs
  refine Z.g31 ?_
  refine Z.only [1] rfl ?_
  refine Z.g60 ?_
  refine Z.g97 ?_
  refine Z.g140 ?_
  refine Z.g21 ?_
  refine Z.g14 ?_
  refine Z.g3 ?_
  refine Z.ZO.litL (T' := 3) [(0, 1), (1, 1), (2, 1)] [.int .i64 0, .int .i64 0, .int .i64 0] rfl rfl (by rfl) rfl rfl Z.b19 hs ?_
  clear hs; intro g10 w10 hs
  refine Z.g3 ?_
  refine Z.ZO.call rfl rfl (by rfl) rfl rfl Tryz.call77 rfl (rp_within _ _ _ [a, b, c] 1048576 _ (hs.blkSl Z.b0) rfl Z.b12 Z.b12) ?_
  rintro v1_7 w1_7 ⟨rfl, hy⟩
  replace hs := Z.w1 (hs.call hy); clear hy
  refine Z.g22 ?_
  refine Z.g72 ?_
  refine Z.split (s := 13) rfl (fun hsp13 => ?_) (fun hsp13 => ?_)
  · refine Z.yes (s := 13) (b := true) rfl hsp13 rfl ?_
    (try simp at hsp13)
    refine Z.g2 ?_
    refine Z.g43 ?_
    refine Z.g15 ?_
    refine Z.g314 ?_
    refine Z.only [1, 19] rfl ?_
    refine Z.g313 ?_
    refine Z.cond rfl (fun hc1 => ?_) (fun hc1 => ?_)
    · (try simp at hc1)
      have hq : ¬ okC a b c d := by unfold okC; simp_all
      refine Z.g152 ?_
      refine Z.g126 ?_
      repeat (first | refine Z.rthen ?_ | refine Z.rblock ?_ | refine Z.rscope ?_)
      refine Z.out2 Z.b22 ?_
      refine ⟨_, rfl, ?_⟩
      (simp only [if_neg hq]; exact ⟨by trivial, hs.sub (List.nil_sublist _)⟩)
    (exfalso; simp at hc1 <;> omega)
  refine Z.yes (s := 13) (b := false) rfl hsp13 rfl ?_
  (try simp at hsp13)
  refine Z.g14 ?_
  refine Z.yes (s := 13) (b := false) rfl rfl rfl ?_
  refine Z.g117 ?_
  refine Z.g58 ?_
  clear hs; intro g16 w16 hs
  refine Z.g117 ?_
  refine Z.ZO.call rfl rfl (by rfl) rfl rfl Tryz.call77 rfl (rp_within _ _ _ [d] 63 _ (hs.blkSl Z.b0) rfl Z.b12 Z.b12) ?_
  rintro v1_13 w1_13 ⟨rfl, hy⟩
  replace hs := Z.w1 (hs.call hy); clear hy
  refine Z.g64 ?_
  refine Z.yes (s := 13) (b := false) rfl rfl rfl ?_
  refine Z.g13 ?_
  refine Z.g314 ?_
  refine Z.only [1, 19] rfl ?_
  refine Z.g313 ?_
  refine Z.cond rfl (fun hc1 => ?_) (fun hc1 => ?_)
  · (try simp at hc1)
    have hq : ¬ okC a b c d := by unfold okC; simp_all
    refine Z.g152 ?_
    refine Z.g126 ?_
    repeat (first | refine Z.rthen ?_ | refine Z.rblock ?_ | refine Z.rscope ?_)
    refine Z.out2 Z.b22 ?_
    refine ⟨_, rfl, ?_⟩
    (simp only [if_neg hq]; exact ⟨by trivial, hs.sub (List.nil_sublist _)⟩)
  (try simp at hc1)
  have hq : okC a b c d := by unfold okC; simp_all
  refine Z.g151 ?_
  refine Z.l rfl rfl (by rfl) (Z.keepS hs) (Z.Yd.buildL [(0, 1), (1, 1), (2, 1), (3, 1)] [.bool false, .bool false, .bool false, .bool false] rfl rfl Z.b15) ?_
  refine Z.l rfl rfl (by rfl) (Z.keepS hs) (by exact Z.Yd.loadA _ rfl Tryz.isAgg24 (fun _ => Z.cellsB Z.b0) (by exact Tryz.sizeOf24)) ?_
  refine Z.l rfl rfl (by rfl) (Z.keepS hs) (Z.Yd.buildL [(0, 4), (4, 1), (5, 4), (9, 1), (10, 4), (14, 1), (15, 1), (16, 1), (17, 1)] [.bool false, .bool false, .bool false, .bool false, .bool false, .int .i64 0, .int .i64 0, .int .i64 0, .int .i64 0, .int .i64 0, .int .i64 0, .int .i64 0, .int .i64 0, .int .i64 0, .int .i64 0, .int .i64 0, .int .i64 0, .int .i64 0] rfl rfl Z.b15) ?_
  refine Z.g3 ?_
  refine Z.g17 ?_
  clear hs; intro g23 w23 hs
  refine Z.g31 ?_
  refine Z.g126 ?_
  refine Z.out2 Z.b22 ?_
  refine ⟨_, rfl, ?_⟩
  (simp only [if_pos hq]; exact ⟨_, rfl, hs.sel [0] Z.b12⟩)
set_option maxHeartbeats 1000000 in
set_option maxRecDepth 100000 in
theorem rp_update (g T : Nat) (m : RpV) (t a b c d h : Int) (w : World) (hs : SX.St w (SX.idsOf [SX.Ent.blk g T m.cells.toArray]) w [SX.Ent.blk g T m.cells.toArray]) (hm : m.ok) :
    Calls Tryz.prog 43 #[.pointer (some ⟨g, 0, none⟩), .int .i64 t, .agg #[.int .i64 a, .int .i64 b, .int .i64 c, .int .i64 d], .int .i64 h] w (SX.Ret fun v w' => v = .int .i64 (updV m t a b c d h).2 ∧ SX.St w (SX.idsOf [SX.Ent.blk g T m.cells.toArray]) w' [SX.Ent.blk g T (updV m t a b c d h).1.cells.toArray]) := by
  generalize hM : SX.idsOf [SX.Ent.blk g T m.cells.toArray] = M at *
  obtain ⟨h1, h2, h3, h4, h5, h6, h7, h8, h9, h10, h11⟩ := hm
  replace hs : SX.St w M w [SX.Ent.blk g T #[.bool (m).reg, .bool (m).per, .bool (m).pow, .bool (m).fst, .bool true, .int .i64 (m).c0, .int .i64 (m).c1, .int .i64 (m).c2, .int .i64 (m).c3, .int .i64 (m).now, .int .i64 (m).b0, .int .i64 (m).b1, .int .i64 (m).b2, .int .i64 (m).b3, .int .i64 (m).head, .int .i64 (m).last, .int .i64 (m).lastP, .int .i64 (m).told]] := hs
  refine Z.enter Tryz.func43 rfl Tryz.ntmps43 rfl rfl ?_
  refine Z.g90 ?_
  clear hs; intro g6 w6 hs
  refine Z.g1 ?_
  refine Z.only [0, 1, 3, 6] rfl ?_
  refine Z.g313 ?_
  refine Z.scopeJ (ι := Unit) 0 rfl [] rfl (fun _ => [(8, [], .int .i64 (2 : Int))]) (fun _ wr => (¬ okU m t a b c d h) ∧ SX.St w M wr [SX.Ent.blk g T m.cells.toArray]) ?_ ?_
  · skip
    refine Z.g152 ?_
    refine Z.only [0, 1, 3, 6] rfl ?_
    refine Z.g60 ?_
    refine Z.g1 ?_
    refine Z.only [0, 1, 3, 6, 8] rfl ?_
    refine Z.g30 ?_
    refine Z.g32 ?_
    refine Z.ZO.call rfl rfl (by rfl) rfl rfl Tryz.call87 rfl (rp_none g m _ (hs.celOf Z.b0)) ?_
    rintro v3_1 w3_1 ⟨rfl, hy⟩
    replace hs := Z.w1 (hs.call hy); clear hy
    refine Z.g314 ?_
    refine Z.only [0, 1, 3, 6, 8, 12] rfl ?_
    refine Z.g313 ?_
    refine Z.cond rfl (fun h => absurd h Z.b17) (fun hc3 => ?_)
    refine Z.g183 ?_
    refine Z.g1 ?_
    refine Z.only [0, 1, 3, 6, 8] rfl ?_
    refine Z.g276 ?_
    refine Z.ZO.call rfl rfl (by rfl) rfl rfl Tryz.call89 rfl (rp_valid g m t _ (hs.celOf Z.b0)) ?_
    rintro v5_2 w5_2 ⟨rfl, hy⟩
    replace hs := Z.w1 (hs.call hy); clear hy
    refine Z.g22 ?_
    refine Z.split (s := 17) rfl (fun hsp17 => ?_) (fun hsp17 => ?_)
    · refine Z.yes (s := 17) (b := true) rfl hsp17 rfl ?_
      (try simp at hsp17)
      refine Z.g2 ?_
      refine Z.g15 ?_
      refine Z.g64 ?_
      refine Z.split (s := 22) rfl (fun hsp22 => ?_) (fun hsp22 => ?_)
      · refine Z.yes (s := 22) (b := true) rfl hsp22 rfl ?_
        (try simp at hsp22)
        refine Z.g2 ?_
        refine Z.g43 ?_
        refine Z.g15 ?_
        refine Z.g314 ?_
        refine Z.only [0, 1, 3, 6, 8, 27] rfl ?_
        refine Z.g313 ?_
        refine Z.cond rfl (fun hc5 => ?_) (fun hc5 => ?_)
        · (try simp at hc5)
          have hno : ¬ okU m t a b c d h := by intro ⟨hh, hh2, hh3⟩; first | omega | exact absurd hh2 Z.b63 | exact absurd hh3 Z.b63 | simp_all
          refine Z.goto ?_
          refine Z.gthen ?_
          refine Z.gjump ?_
          exact Z.meet () Z.b6 ⟨by assumption, hs.sel [1] Z.b12⟩
        (exfalso; simp at hc5 <;> omega)
      (exfalso; simp at hsp22 <;> omega)
    refine Z.yes (s := 17) (b := false) rfl hsp17 rfl ?_
    (try simp at hsp17)
    refine Z.l rfl rfl (by rfl) (Z.keepS hs) (Z.Yd.cutA rfl Tryz.underlying37 Tryz.sizeOf3) ?_
    refine Z.yes (s := 17) (b := false) rfl rfl rfl ?_
    refine Z.g117 ?_
    refine Z.ZO.call rfl rfl (by rfl) rfl rfl Tryz.call77 rfl (rp_within (some ⟨g6, 0, none⟩) 4 4 [a, b, c, d] 1099511627776 _ (hs.blkSl Z.b0) rfl Z.b9 Z.b9) ?_
    rintro v5_6 w5_6 ⟨rfl, hy⟩
    replace hs := Z.w1 (hs.call hy); clear hy
    refine Z.g64 ?_
    refine Z.yes (s := 17) (b := false) rfl rfl rfl ?_
    refine Z.g13 ?_
    refine Z.g64 ?_
    refine Z.split (s := 22) rfl (fun hsp22 => ?_) (fun hsp22 => ?_)
    · refine Z.yes (s := 22) (b := true) rfl hsp22 rfl ?_
      (try simp at hsp22)
      refine Z.g2 ?_
      refine Z.g43 ?_
      refine Z.g15 ?_
      refine Z.g314 ?_
      refine Z.only [0, 1, 3, 6, 8, 27] rfl ?_
      refine Z.g313 ?_
      refine Z.cond rfl (fun hc5 => ?_) (fun hc5 => ?_)
      · (try simp at hc5)
        have hno : ¬ okU m t a b c d h := by intro ⟨hh, hh2, hh3⟩; first | omega | exact absurd hh2 Z.b63 | exact absurd hh3 Z.b63 | simp_all
        refine Z.goto ?_
        refine Z.gthen ?_
        refine Z.gjump ?_
        exact Z.meet () Z.b6 ⟨by assumption, hs.sel [1] Z.b12⟩
      (exfalso; simp at hc5 <;> omega)
    refine Z.yes (s := 22) (b := false) rfl hsp22 rfl ?_
    (try simp at hsp22)
    refine Z.g64 ?_
    refine Z.yes (s := 22) (b := false) rfl rfl rfl ?_
    refine Z.g117 ?_
    refine Z.g58 ?_
    clear hs; intro g24 w24 hs
    refine Z.g117 ?_
    refine Z.ZO.call rfl rfl (by rfl) rfl rfl Tryz.call77 rfl (rp_within _ _ _ [h] 63 _ (hs.blkSl Z.b0) rfl Z.b12 Z.b12) ?_
    rintro v5_12 w5_12 ⟨rfl, hy⟩
    replace hs := Z.w1 (hs.call hy); clear hy
    refine Z.g64 ?_
    refine Z.yes (s := 22) (b := false) rfl rfl rfl ?_
    refine Z.g13 ?_
    refine Z.g314 ?_
    refine Z.only [0, 1, 3, 6, 8, 27] rfl ?_
    refine Z.g313 ?_
    refine Z.cond rfl (fun hc5 => ?_) (fun hc5 => ?_)
    · (try simp at hc5)
      have hno : ¬ okU m t a b c d h := by intro ⟨hh, hh2, hh3⟩; first | omega | exact absurd hh2 Z.b63 | exact absurd hh3 Z.b63 | simp_all
      refine Z.goto ?_
      refine Z.gthen ?_
      refine Z.gjump ?_
      exact Z.meet () Z.b6 ⟨by assumption, hs.sel [2] Z.b12⟩
    (try simp at hc5)
    have hok : okU m t a b c d h := by unfold okU; first | (simp_all; done) | (refine ⟨by omega, ?_, ?_⟩ <;> simp_all)
    have eU : updV m t a b c d h = (updG m t a b c d h, 0) := if_pos hok
    obtain ⟨⟨u1, u2⟩, ⟨u3, u4, u5, u6⟩, u7⟩ := (okU_iff m t a b c d h).1 hok
    rw [eU]
    refine Z.skip ?_
    refine Z.g313 ?_
    refine Z.g99 ?_
    clear hs; intro wd6 hs
    refine Z.tb [0] Z.b4 rfl ⟨_, hs, Z.b2⟩ rfl ?_
    refine Z.t 1 rfl rfl rfl (by rfl) Z.b4 ⟨_, hs, Z.b2⟩ (Z.Yd.nilc rfl rfl) ?_
    refine Z.t 2 rfl rfl rfl (by rfl) Z.b4 ⟨_, hs, Z.b2⟩ (Z.Yd.fieldA (m := 10) rfl Z.b4) ?_
    refine Z.t 3 rfl rfl rfl (by rfl) Z.b4 ⟨_, hs, Z.b2⟩ (Z.Yd.loadA _ rfl Tryz.isAgg37 (fun _ => Z.cellsBo (cs := m.cells) [.int .i64 (m).b0, .int .i64 (m).b1, .int .i64 (m).b2, .int .i64 (m).b3] Z.b0 ⟨[_, _, _, _], rfl⟩) (by exact Tryz.sizeOf37)) ?_
    refine Z.t 5 rfl rfl rfl (by rfl) Z.b4 ⟨_, hs, Z.b2⟩ Z.b62 ?_
    refine Z.tn 4 rfl rfl Z.b4 rfl trivial ?_
    refine Z.ZO.call rfl rfl (by rfl) rfl rfl Tryz.call90 rfl (rp_group m.b0 m.b1 m.b2 m.b3 _) ?_
    rintro v6_4 w6_4 ⟨rfl, hy⟩
    replace hs := Z.w1 (hs.call hy); clear hy
    refine Z.g83 ?_
    refine Z.g191 ?_
    refine Z.ZO.call rfl rfl (by rfl) rfl rfl Tryz.call90 rfl (rp_group a b c d _) ?_
    rintro v6_6 w6_6 ⟨rfl, hy⟩
    replace hs := Z.w1 (hs.call hy); clear hy
    refine Z.g70 ?_
    refine Z.tb [7, 8] Z.b4 rfl ⟨_, hs, Z.b2⟩ rfl ?_
    refine Z.g68 ?_
    refine Z.only [0, 1, 3, 6, 9, 10] rfl ?_
    refine Z.g30 ?_
    refine Z.lb 4 rfl ?_
    refine Z.l rfl rfl (by rfl) (Z.keepS hs) Z.b62 ?_
    refine Z.g157 ?_
    refine Z.l rfl rfl (by rfl) (Z.keepS hs) (Z.Yd.fieldA (m := 9) rfl Z.b4) ?_
    refine Z.g156 ?_
    clear hs; intro ws hs
    replace hs := Z.w0 hs
    refine Z.g10 ?_
    refine Z.l rfl rfl (by rfl) (Z.keepS hs) (Z.Yd.fieldA (m := 10) rfl Z.b4) ?_
    refine Z.g3 ?_
    refine Z.ZO.storeP rfl rfl hs rfl rfl Z.b4 Z.b5 Z.b1 (by first | decide | (simp; done) | (simp; omega)) ?_
    clear hs; intro ws hs
    replace hs := Z.w0 hs
    replace hs := Z.w3 hs
    refine Z.g10 ?_
    refine Z.l rfl rfl (by rfl) (Z.keepS hs) (Z.Yd.fieldA (m := 14) rfl Z.b4) ?_
    refine Z.g156 ?_
    clear hs; intro ws hs
    replace hs := Z.w0 hs
    refine Z.g314 ?_
    refine Z.only [0, 9, 10] rfl ?_
    refine Z.g60 ?_
    obtain ⟨R, hR⟩ : ∃ R, R = (updG m t a b c d h).reg := ⟨_, rfl⟩
    obtain ⟨Q, hQ⟩ : ∃ R, R = (updG m t a b c d h).per := ⟨_, rfl⟩
    obtain ⟨X, hX⟩ : ∃ R, R = (updG m t a b c d h).pow := ⟨_, rfl⟩
    have eA : updG m t a b c d h = { m with reg := R, per := Q, pow := X, now := t, b0 := a, b1 := b, b2 := c, b3 := d, head := h } := by rw [hR, hQ, hX]; rfl
    simp only [updG] at hR hQ hX
    replace hs : SX.St w M _ [SX.Ent.blk g T ({ m with now := t, b0 := a, b1 := b, b2 := c, b3 := d, head := h } : RpV).cells.toArray] := hs.sel [2] Z.b12
    refine Z.g18 ?_
    refine Z.g1 ?_
    refine Z.only [0, 9, 10, 48] rfl ?_
    refine Z.g313 ?_
    refine Z.cutt (ι := Unit) [0] rfl (fun _ => []) (fun _ wr => SX.St w M wr [SX.Ent.blk g T ({ m with reg := R, per := Q, now := t, b0 := a, b1 := b, b2 := c, b3 := d, head := h } : RpV).cells.toArray]) ?_ ?_
    · skip
      refine Z.cond rfl (fun hc8 => ?_) (fun hc8 => ?_)
      · (try simp at hc8)
        rw [if_pos Z.b63] at hR hQ
        replace hs : SX.St w M _ [SX.Ent.blk g T #[.bool ({ m with now := t, b0 := a, b1 := b, b2 := c, b3 := d, head := h }).reg, .bool ({ m with now := t, b0 := a, b1 := b, b2 := c, b3 := d, head := h }).per, .bool ({ m with now := t, b0 := a, b1 := b, b2 := c, b3 := d, head := h }).pow, .bool ({ m with now := t, b0 := a, b1 := b, b2 := c, b3 := d, head := h }).fst, .bool true, .int .i64 ({ m with now := t, b0 := a, b1 := b, b2 := c, b3 := d, head := h }).c0, .int .i64 ({ m with now := t, b0 := a, b1 := b, b2 := c, b3 := d, head := h }).c1, .int .i64 ({ m with now := t, b0 := a, b1 := b, b2 := c, b3 := d, head := h }).c2, .int .i64 ({ m with now := t, b0 := a, b1 := b, b2 := c, b3 := d, head := h }).c3, .int .i64 ({ m with now := t, b0 := a, b1 := b, b2 := c, b3 := d, head := h }).now, .int .i64 ({ m with now := t, b0 := a, b1 := b, b2 := c, b3 := d, head := h }).b0, .int .i64 ({ m with now := t, b0 := a, b1 := b, b2 := c, b3 := d, head := h }).b1, .int .i64 ({ m with now := t, b0 := a, b1 := b, b2 := c, b3 := d, head := h }).b2, .int .i64 ({ m with now := t, b0 := a, b1 := b, b2 := c, b3 := d, head := h }).b3, .int .i64 ({ m with now := t, b0 := a, b1 := b, b2 := c, b3 := d, head := h }).head, .int .i64 ({ m with now := t, b0 := a, b1 := b, b2 := c, b3 := d, head := h }).last, .int .i64 ({ m with now := t, b0 := a, b1 := b, b2 := c, b3 := d, head := h }).lastP, .int .i64 ({ m with now := t, b0 := a, b1 := b, b2 := c, b3 := d, head := h }).told]] := hs
        refine Z.region ?_
        refine Z.g186 ?_
        refine Z.g4 ?_
        refine Z.g4 ?_
        refine Z.g3 ?_
        refine Z.g75 ?_
        clear hs; intro ws hs
        replace hs := Z.w0 hs
        refine Z.g218 ?_
        refine Z.g9 ?_
        refine Z.g3 ?_
        refine Z.g75 ?_
        clear hs; intro ws hs
        replace hs := Z.w0 hs
        refine Z.g314 ?_
        refine Z.g82 ?_
        refine Z.g313 ?_
        exact Z.meet () Z.b6 (by rw [hR, hQ]; exact hs)
      (try simp at hc8)
      rw [if_neg Z.b63] at hR hQ
      replace hs : SX.St w M _ [SX.Ent.blk g T #[.bool ({ m with now := t, b0 := a, b1 := b, b2 := c, b3 := d, head := h }).reg, .bool ({ m with now := t, b0 := a, b1 := b, b2 := c, b3 := d, head := h }).per, .bool ({ m with now := t, b0 := a, b1 := b, b2 := c, b3 := d, head := h }).pow, .bool ({ m with now := t, b0 := a, b1 := b, b2 := c, b3 := d, head := h }).fst, .bool true, .int .i64 ({ m with now := t, b0 := a, b1 := b, b2 := c, b3 := d, head := h }).c0, .int .i64 ({ m with now := t, b0 := a, b1 := b, b2 := c, b3 := d, head := h }).c1, .int .i64 ({ m with now := t, b0 := a, b1 := b, b2 := c, b3 := d, head := h }).c2, .int .i64 ({ m with now := t, b0 := a, b1 := b, b2 := c, b3 := d, head := h }).c3, .int .i64 ({ m with now := t, b0 := a, b1 := b, b2 := c, b3 := d, head := h }).now, .int .i64 ({ m with now := t, b0 := a, b1 := b, b2 := c, b3 := d, head := h }).b0, .int .i64 ({ m with now := t, b0 := a, b1 := b, b2 := c, b3 := d, head := h }).b1, .int .i64 ({ m with now := t, b0 := a, b1 := b, b2 := c, b3 := d, head := h }).b2, .int .i64 ({ m with now := t, b0 := a, b1 := b, b2 := c, b3 := d, head := h }).b3, .int .i64 ({ m with now := t, b0 := a, b1 := b, b2 := c, b3 := d, head := h }).head, .int .i64 ({ m with now := t, b0 := a, b1 := b, b2 := c, b3 := d, head := h }).last, .int .i64 ({ m with now := t, b0 := a, b1 := b, b2 := c, b3 := d, head := h }).lastP, .int .i64 ({ m with now := t, b0 := a, b1 := b, b2 := c, b3 := d, head := h }).told]] := hs
      refine Z.seq ?_
      refine Z.cutt (ι := Unit) [0] rfl (fun _ => []) (fun _ wr => SX.St w M wr [SX.Ent.blk g T ({ m with reg := R, now := t, b0 := a, b1 := b, b2 := c, b3 := d, head := h } : RpV).cells.toArray]) ?_ ?_
      · skip
        refine Z.drawK (fun j => j != 27) mixed hs ?_
        clear hs; intro wd10 hs
        refine Z.g49 ?_
        refine Z.g112 ?_
        refine Z.t 5 rfl rfl rfl (by rfl) Z.b4 ⟨_, hs, Z.b2⟩ Z.b44 ?_
        refine Z.tb [6, 7, 8, 9, 10, 11, 12, 13] Z.b4 rfl ⟨_, hs, Z.b2⟩ rfl ?_
        refine Z.t 14 rfl rfl rfl (by rfl) Z.b4 ⟨_, hs, Z.b2⟩ (Z.Yd.nilc rfl rfl) ?_
        refine Z.t 15 rfl rfl rfl (by rfl) Z.b4 ⟨_, hs, Z.b2⟩ (Z.Yd.fieldA (m := 5) rfl Z.b4) ?_
        refine Z.t 16 rfl rfl rfl (by rfl) Z.b4 ⟨_, hs, Z.b2⟩ (Z.Yd.fieldA (m := 1) rfl Z.b4) ?_
        refine Z.t 17 rfl rfl rfl (by rfl) Z.b4 ⟨_, hs, Z.b2⟩ Z.b25 ?_
        refine Z.tb [18] Z.b4 rfl ⟨_, hs, Z.b2⟩ rfl ?_
        refine Z.t 19 rfl rfl rfl (by rfl) Z.b4 ⟨_, hs, Z.b2⟩ (Z.Yd.nilc rfl rfl) ?_
        refine Z.t 20 rfl rfl rfl (by rfl) Z.b4 ⟨_, hs, Z.b2⟩ (Z.Yd.fieldA (m := 15) rfl Z.b4) ?_
        refine Z.t 21 rfl rfl rfl (by rfl) Z.b4 ⟨_, hs, Z.b2⟩ Z.b25 ?_
        refine Z.split (s := 68) rfl (fun hsp68 => ?_) (fun hsp68 => ?_)
        · refine Z.yes (s := 68) (b := true) rfl hsp68 rfl ?_
          (try simp at hsp68)
          refine Z.tnS 68 false 22 rfl rfl Z.b4 rfl rfl Z.b17 rfl (by rfl) (fun _ => ⟨_, hs, Z.b2⟩) ?_
          refine Z.t 23 rfl rfl rfl (by rfl) Z.b4 ⟨_, hs, Z.b2⟩ (Z.Yd.pickT rfl rfl) ?_
          refine Z.tn 24 rfl rfl Z.b4 rfl trivial ?_
          refine Z.g80 ?_
          refine Z.tk (Dn := fun j => j != 27) (i := 24) (fun _ => ⟨_, hs, Z.b2⟩) ?_
          refine Z.tn 25 rfl rfl Z.b4 rfl trivial ?_
          refine Z.g113 ?_
          refine Z.tk (Dn := fun j => j != 27) (i := 25) (fun _ => ⟨_, hs, Z.b2⟩) ?_
          refine Z.t 26 rfl rfl rfl (by rfl) Z.b4 ⟨_, hs, Z.b2⟩ (Z.Yd.fieldA (m := 0) rfl Z.b4) ?_
          refine Z.tn 27 rfl rfl Z.b4 rfl trivial ?_
          refine Z.g75 ?_
          clear hs; intro ws hs
          replace hs := Z.w0 hs
          refine Z.tk (Dn := fun j => j != 27) (i := 27) (fun h => absurd h Z.b12) ?_
          refine Z.g68 ?_
          refine Z.g82 ?_
          refine Z.g313 ?_
          exact Z.meet () Z.b6 (by rw [show R = true by rw [hR]; simp_all]; exact hs)
        refine Z.yes (s := 68) (b := false) rfl hsp68 rfl ?_
        (try simp at hsp68)
        refine Z.tn 22 rfl rfl Z.b4 rfl Z.b7 ?_
        refine Z.ZO.call rfl rfl (by rfl) rfl rfl Tryz.call91 rfl (rp_due g { m with now := t, b0 := a, b1 := b, b2 := c, b3 := d, head := h } m.c1 m.last _ (hs.celOf Z.b0) ⟨by show 0 ≤ t; omega, u2⟩ h8) ?_
        rintro v10_22 w10_22 ⟨rfl, hy⟩
        replace hs := Z.w1 (hs.call hy); clear hy
        refine Z.tk (Dn := fun j => j != 27) (i := 22) (fun _ => ⟨_, hs, Z.b2⟩) ?_
        refine Z.t 23 rfl rfl rfl (by rfl) Z.b4 ⟨_, hs, Z.b2⟩ (Z.Yd.pickF rfl rfl) ?_
        refine Z.tn 24 rfl rfl Z.b4 rfl trivial ?_
        refine Z.g80 ?_
        refine Z.tk (Dn := fun j => j != 27) (i := 24) (fun _ => ⟨_, hs, Z.b2⟩) ?_
        refine Z.tn 25 rfl rfl Z.b4 rfl trivial ?_
        refine Z.g113 ?_
        refine Z.tk (Dn := fun j => j != 27) (i := 25) (fun _ => ⟨_, hs, Z.b2⟩) ?_
        refine Z.t 26 rfl rfl rfl (by rfl) Z.b4 ⟨_, hs, Z.b2⟩ (Z.Yd.fieldA (m := 0) rfl Z.b4) ?_
        refine Z.tn 27 rfl rfl Z.b4 rfl trivial ?_
        refine Z.g75 ?_
        clear hs; intro ws hs
        replace hs := Z.w0 hs
        refine Z.tk (Dn := fun j => j != 27) (i := 27) (fun h => absurd h Z.b12) ?_
        refine Z.g68 ?_
        refine Z.g82 ?_
        refine Z.g313 ?_
        exact Z.meet () Z.b6 (by rw [show R = dueV m.c1 m.last t by rw [hR]; simp_all; intro _; omega]; exact hs)
      clear hs
      rintro _ w10 hs
      refine Z.g82 ?_
      replace hs : SX.St w M w10 [SX.Ent.blk g T #[.bool ({ m with reg := R, now := t, b0 := a, b1 := b, b2 := c, b3 := d, head := h }).reg, .bool ({ m with reg := R, now := t, b0 := a, b1 := b, b2 := c, b3 := d, head := h }).per, .bool ({ m with reg := R, now := t, b0 := a, b1 := b, b2 := c, b3 := d, head := h }).pow, .bool ({ m with reg := R, now := t, b0 := a, b1 := b, b2 := c, b3 := d, head := h }).fst, .bool true, .int .i64 ({ m with reg := R, now := t, b0 := a, b1 := b, b2 := c, b3 := d, head := h }).c0, .int .i64 ({ m with reg := R, now := t, b0 := a, b1 := b, b2 := c, b3 := d, head := h }).c1, .int .i64 ({ m with reg := R, now := t, b0 := a, b1 := b, b2 := c, b3 := d, head := h }).c2, .int .i64 ({ m with reg := R, now := t, b0 := a, b1 := b, b2 := c, b3 := d, head := h }).c3, .int .i64 ({ m with reg := R, now := t, b0 := a, b1 := b, b2 := c, b3 := d, head := h }).now, .int .i64 ({ m with reg := R, now := t, b0 := a, b1 := b, b2 := c, b3 := d, head := h }).b0, .int .i64 ({ m with reg := R, now := t, b0 := a, b1 := b, b2 := c, b3 := d, head := h }).b1, .int .i64 ({ m with reg := R, now := t, b0 := a, b1 := b, b2 := c, b3 := d, head := h }).b2, .int .i64 ({ m with reg := R, now := t, b0 := a, b1 := b, b2 := c, b3 := d, head := h }).b3, .int .i64 ({ m with reg := R, now := t, b0 := a, b1 := b, b2 := c, b3 := d, head := h }).head, .int .i64 ({ m with reg := R, now := t, b0 := a, b1 := b, b2 := c, b3 := d, head := h }).last, .int .i64 ({ m with reg := R, now := t, b0 := a, b1 := b, b2 := c, b3 := d, head := h }).lastP, .int .i64 ({ m with reg := R, now := t, b0 := a, b1 := b, b2 := c, b3 := d, head := h }).told]] := hs
      refine Z.drawK (fun j => j != 22) mixed hs ?_
      clear hs; intro wd11 hs
      refine Z.g49 ?_
      refine Z.t 4 rfl rfl rfl (by rfl) Z.b4 ⟨_, hs, Z.b2⟩ (Z.Yd.fieldA (m := 1) rfl Z.b4) ?_
      refine Z.t 5 rfl rfl rfl (by rfl) Z.b4 ⟨_, hs, Z.b2⟩ Z.b44 ?_
      refine Z.tb [6, 7, 8] Z.b4 rfl ⟨_, hs, Z.b2⟩ rfl ?_
      refine Z.t 9 rfl rfl rfl (by rfl) Z.b4 ⟨_, hs, Z.b2⟩ (Z.Yd.nilc rfl rfl) ?_
      refine Z.t 10 rfl rfl rfl (by rfl) Z.b4 ⟨_, hs, Z.b2⟩ (Z.Yd.fieldA (m := 5) rfl Z.b4) ?_
      refine Z.t 11 rfl rfl rfl (by rfl) Z.b4 ⟨_, hs, Z.b2⟩ (Z.Yd.fieldA (m := 0) rfl Z.b4) ?_
      refine Z.t 12 rfl rfl rfl (by rfl) Z.b4 ⟨_, hs, Z.b2⟩ Z.b25 ?_
      refine Z.tb [13] Z.b4 rfl ⟨_, hs, Z.b2⟩ rfl ?_
      refine Z.t 14 rfl rfl rfl (by rfl) Z.b4 ⟨_, hs, Z.b2⟩ (Z.Yd.nilc rfl rfl) ?_
      refine Z.t 15 rfl rfl rfl (by rfl) Z.b4 ⟨_, hs, Z.b2⟩ (Z.Yd.fieldA (m := 15) rfl Z.b4) ?_
      refine Z.t 16 rfl rfl rfl (by rfl) Z.b4 ⟨_, hs, Z.b2⟩ Z.b25 ?_
      refine Z.split (s := 90) rfl (fun hsp90 => ?_) (fun hsp90 => ?_)
      · refine Z.yes (s := 90) (b := true) rfl hsp90 rfl ?_
        (try simp at hsp90)
        refine Z.tnS 90 false 17 rfl rfl Z.b4 rfl rfl Z.b17 rfl (by rfl) (fun _ => ⟨_, hs, Z.b2⟩) ?_
        refine Z.t 18 rfl rfl rfl (by rfl) Z.b4 ⟨_, hs, Z.b2⟩ (Z.Yd.pickT rfl rfl) ?_
        refine Z.tn 19 rfl rfl Z.b4 rfl trivial ?_
        refine Z.g80 ?_
        refine Z.tk (Dn := fun j => j != 22) (i := 19) (fun _ => ⟨_, hs, Z.b2⟩) ?_
        refine Z.tn 20 rfl rfl Z.b4 rfl trivial ?_
        refine Z.g113 ?_
        refine Z.tk (Dn := fun j => j != 22) (i := 20) (fun _ => ⟨_, hs, Z.b2⟩) ?_
        refine Z.t 21 rfl rfl rfl (by rfl) Z.b4 ⟨_, hs, Z.b2⟩ (Z.Yd.fieldA (m := 1) rfl Z.b4) ?_
        refine Z.tn 22 rfl rfl Z.b4 rfl trivial ?_
        refine Z.g75 ?_
        clear hs; intro ws hs
        replace hs := Z.w0 hs
        refine Z.tk (Dn := fun j => j != 22) (i := 22) (fun h => absurd h Z.b12) ?_
        refine Z.g68 ?_
        refine Z.g82 ?_
        refine Z.g313 ?_
        exact Z.meet () Z.b6 (by rw [show Q = true by rw [hQ]; simp_all]; exact hs)
      refine Z.yes (s := 90) (b := false) rfl hsp90 rfl ?_
      (try simp at hsp90)
      refine Z.tn 17 rfl rfl Z.b4 rfl Z.b7 ?_
      refine Z.ZO.call rfl rfl (by rfl) rfl rfl Tryz.call91 rfl (rp_due g { m with reg := R, now := t, b0 := a, b1 := b, b2 := c, b3 := d, head := h } m.c0 m.last _ (hs.celOf Z.b0) ⟨by show 0 ≤ t; omega, u2⟩ h8) ?_
      rintro v11_17 w11_17 ⟨rfl, hy⟩
      replace hs := Z.w1 (hs.call hy); clear hy
      refine Z.tk (Dn := fun j => j != 22) (i := 17) (fun _ => ⟨_, hs, Z.b2⟩) ?_
      refine Z.t 18 rfl rfl rfl (by rfl) Z.b4 ⟨_, hs, Z.b2⟩ (Z.Yd.pickF rfl rfl) ?_
      refine Z.tn 19 rfl rfl Z.b4 rfl trivial ?_
      refine Z.g80 ?_
      refine Z.tk (Dn := fun j => j != 22) (i := 19) (fun _ => ⟨_, hs, Z.b2⟩) ?_
      refine Z.tn 20 rfl rfl Z.b4 rfl trivial ?_
      refine Z.g113 ?_
      refine Z.tk (Dn := fun j => j != 22) (i := 20) (fun _ => ⟨_, hs, Z.b2⟩) ?_
      refine Z.t 21 rfl rfl rfl (by rfl) Z.b4 ⟨_, hs, Z.b2⟩ (Z.Yd.fieldA (m := 1) rfl Z.b4) ?_
      refine Z.tn 22 rfl rfl Z.b4 rfl trivial ?_
      refine Z.g75 ?_
      clear hs; intro ws hs
      replace hs := Z.w0 hs
      refine Z.tk (Dn := fun j => j != 22) (i := 22) (fun h => absurd h Z.b12) ?_
      refine Z.g68 ?_
      refine Z.g82 ?_
      refine Z.g313 ?_
      exact Z.meet () Z.b6 (by rw [show Q = dueV m.c0 m.last t by rw [hQ]; simp_all]; exact hs)
    clear hs
    rintro _ w8 hs
    refine Z.g82 ?_
    replace hs : SX.St w M w8 [SX.Ent.blk g T #[.bool ({ m with reg := R, per := Q, now := t, b0 := a, b1 := b, b2 := c, b3 := d, head := h }).reg, .bool ({ m with reg := R, per := Q, now := t, b0 := a, b1 := b, b2 := c, b3 := d, head := h }).per, .bool ({ m with reg := R, per := Q, now := t, b0 := a, b1 := b, b2 := c, b3 := d, head := h }).pow, .bool ({ m with reg := R, per := Q, now := t, b0 := a, b1 := b, b2 := c, b3 := d, head := h }).fst, .bool true, .int .i64 ({ m with reg := R, per := Q, now := t, b0 := a, b1 := b, b2 := c, b3 := d, head := h }).c0, .int .i64 ({ m with reg := R, per := Q, now := t, b0 := a, b1 := b, b2 := c, b3 := d, head := h }).c1, .int .i64 ({ m with reg := R, per := Q, now := t, b0 := a, b1 := b, b2 := c, b3 := d, head := h }).c2, .int .i64 ({ m with reg := R, per := Q, now := t, b0 := a, b1 := b, b2 := c, b3 := d, head := h }).c3, .int .i64 ({ m with reg := R, per := Q, now := t, b0 := a, b1 := b, b2 := c, b3 := d, head := h }).now, .int .i64 ({ m with reg := R, per := Q, now := t, b0 := a, b1 := b, b2 := c, b3 := d, head := h }).b0, .int .i64 ({ m with reg := R, per := Q, now := t, b0 := a, b1 := b, b2 := c, b3 := d, head := h }).b1, .int .i64 ({ m with reg := R, per := Q, now := t, b0 := a, b1 := b, b2 := c, b3 := d, head := h }).b2, .int .i64 ({ m with reg := R, per := Q, now := t, b0 := a, b1 := b, b2 := c, b3 := d, head := h }).b3, .int .i64 ({ m with reg := R, per := Q, now := t, b0 := a, b1 := b, b2 := c, b3 := d, head := h }).head, .int .i64 ({ m with reg := R, per := Q, now := t, b0 := a, b1 := b, b2 := c, b3 := d, head := h }).last, .int .i64 ({ m with reg := R, per := Q, now := t, b0 := a, b1 := b, b2 := c, b3 := d, head := h }).lastP, .int .i64 ({ m with reg := R, per := Q, now := t, b0 := a, b1 := b, b2 := c, b3 := d, head := h }).told]] := hs
    refine Z.seq ?_
    refine Z.cutt (ι := Unit) [] rfl (fun _ => []) (fun _ wr => SX.St w M wr [SX.Ent.blk g T ({ m with reg := R, per := Q, pow := X, now := t, b0 := a, b1 := b, b2 := c, b3 := d, head := h } : RpV).cells.toArray]) ?_ ?_
    · skip
      refine Z.drawK (fun j => j != 33) mixed hs ?_
      clear hs; intro wd12 hs
      refine Z.g49 ?_
      refine Z.t 4 rfl rfl rfl (by rfl) Z.b4 ⟨_, hs, Z.b2⟩ (Z.Yd.fieldA (m := 2) rfl Z.b4) ?_
      refine Z.t 5 rfl rfl rfl (by rfl) Z.b4 ⟨_, hs, Z.b2⟩ Z.b44 ?_
      refine Z.tb [6, 7] Z.b4 rfl ⟨_, hs, Z.b2⟩ rfl ?_
      refine Z.t 8 rfl rfl rfl (by rfl) Z.b4 ⟨_, hs, Z.b2⟩ (Z.Yd.nilc rfl rfl) ?_
      refine Z.t 9 rfl rfl rfl (by rfl) Z.b4 ⟨_, hs, Z.b2⟩ (Z.Yd.fieldA (m := 0) rfl Z.b4) ?_
      refine Z.t 10 rfl rfl rfl (by rfl) Z.b4 ⟨_, hs, Z.b2⟩ (Z.Yd.fieldA (m := 3) rfl Z.b4) ?_
      refine Z.t 11 rfl rfl rfl (by rfl) Z.b4 ⟨_, hs, Z.b2⟩ Z.b44 ?_
      refine Z.tb [12, 13, 14, 15] Z.b4 rfl ⟨_, hs, Z.b2⟩ rfl ?_
      refine Z.t 16 rfl rfl rfl (by rfl) Z.b4 ⟨_, hs, Z.b2⟩ (Z.Yd.nilc rfl rfl) ?_
      refine Z.t 17 rfl rfl rfl (by rfl) Z.b4 ⟨_, hs, Z.b2⟩ (Z.Yd.fieldA (m := 5) rfl Z.b4) ?_
      refine Z.t 18 rfl rfl rfl (by rfl) Z.b4 ⟨_, hs, Z.b2⟩ (Z.Yd.fieldA (m := 2) rfl Z.b4) ?_
      refine Z.t 19 rfl rfl rfl (by rfl) Z.b4 ⟨_, hs, Z.b2⟩ Z.b25 ?_
      refine Z.tb [20] Z.b4 rfl ⟨_, hs, Z.b2⟩ rfl ?_
      refine Z.t 21 rfl rfl rfl (by rfl) Z.b4 ⟨_, hs, Z.b2⟩ (Z.Yd.nilc rfl rfl) ?_
      refine Z.t 22 rfl rfl rfl (by rfl) Z.b4 ⟨_, hs, Z.b2⟩ (Z.Yd.fieldA (m := 16) rfl Z.b4) ?_
      refine Z.t 23 rfl rfl rfl (by rfl) Z.b4 ⟨_, hs, Z.b2⟩ Z.b25 ?_
      refine Z.split (s := 119) rfl (fun hsp119 => ?_) (fun hsp119 => ?_)
      · refine Z.yes (s := 119) (b := true) rfl hsp119 rfl ?_
        (try simp at hsp119)
        refine Z.tnS 119 false 24 rfl rfl Z.b4 rfl rfl Z.b17 rfl (by rfl) (fun _ => ⟨_, hs, Z.b2⟩) ?_
        refine Z.t 25 rfl rfl rfl (by rfl) Z.b4 ⟨_, hs, Z.b2⟩ (Z.Yd.pickT rfl rfl) ?_
        refine Z.tb [26, 27] Z.b4 rfl ⟨_, hs, Z.b2⟩ rfl ?_
        refine Z.split (s := 132) rfl (fun hsp132 => ?_) (fun hsp132 => ?_)
        · refine Z.yes (s := 132) (b := true) rfl hsp132 rfl ?_
          (try simp at hsp132)
          refine Z.yes (s := 119) (b := true) rfl rfl rfl ?_
          refine Z.tnS 132 false 28 rfl rfl Z.b4 rfl rfl Z.b17 rfl (by rfl) (fun _ => ⟨_, hs, Z.b2⟩) ?_
          refine Z.t 29 rfl rfl rfl (by rfl) Z.b4 ⟨_, hs, Z.b2⟩ (Z.Yd.pickT rfl rfl) ?_
          refine Z.g28 ?_
          clear hs; intro ws hs
          replace hs := Z.w0 hs
          refine Z.g219 ?_
          refine Z.g313 ?_
          exact Z.meet () trivial (by rw [show X = true by rw [hX]; simp_all]; exact hs)
        (exfalso; simp at hsp132 <;> omega)
      refine Z.yes (s := 119) (b := false) rfl hsp119 rfl ?_
      (try simp at hsp119)
      refine Z.tn 24 rfl rfl Z.b4 rfl Z.b7 ?_
      refine Z.ZO.call rfl rfl (by rfl) rfl rfl Tryz.call91 rfl (rp_due g { m with reg := R, per := Q, now := t, b0 := a, b1 := b, b2 := c, b3 := d, head := h } m.c2 m.lastP _ (hs.celOf Z.b0) ⟨by show 0 ≤ t; omega, u2⟩ h9) ?_
      rintro v12_24 w12_24 ⟨rfl, hy⟩
      replace hs := Z.w1 (hs.call hy); clear hy
      refine Z.tk (Dn := fun j => j != 33) (i := 24) (fun _ => ⟨_, hs, Z.b2⟩) ?_
      refine Z.t 25 rfl rfl rfl (by rfl) Z.b4 ⟨_, hs, Z.b2⟩ (Z.Yd.pickF rfl rfl) ?_
      refine Z.tb [26, 27] Z.b4 rfl ⟨_, hs, Z.b2⟩ rfl ?_
      refine Z.split (s := 132) rfl (fun hsp132 => ?_) (fun hsp132 => ?_)
      · refine Z.yes (s := 132) (b := true) rfl hsp132 rfl ?_
        (try simp at hsp132)
        refine Z.yes (s := 119) (b := false) rfl rfl rfl ?_
        refine Z.tnS 132 false 28 rfl rfl Z.b4 rfl rfl Z.b17 rfl (by rfl) (fun _ => ⟨_, hs, Z.b2⟩) ?_
        refine Z.t 29 rfl rfl rfl (by rfl) Z.b4 ⟨_, hs, Z.b2⟩ (Z.Yd.pickT rfl rfl) ?_
        refine Z.g28 ?_
        clear hs; intro ws hs
        replace hs := Z.w0 hs
        refine Z.g219 ?_
        refine Z.g313 ?_
        exact Z.meet () trivial (by rw [show X = true by rw [hX]; simp_all]; exact hs)
      refine Z.yes (s := 132) (b := false) rfl hsp132 rfl ?_
      (try simp at hsp132)
      refine Z.yes (s := 119) (b := false) rfl rfl rfl ?_
      refine Z.tn 28 rfl rfl Z.b4 rfl Z.b7 ?_
      refine Z.ZO.call rfl rfl (by rfl) rfl rfl Tryz.call92 rfl (rp_changed g { m with reg := R, per := Q, now := t, b0 := a, b1 := b, b2 := c, b3 := d, head := h } _ (hs.celOf Z.b0) u7 h10) ?_
      rintro v12_28 w12_28 ⟨rfl, hy⟩
      replace hs := Z.w1 (hs.call hy); clear hy
      refine Z.tk (Dn := fun j => j != 33) (i := 28) (fun _ => ⟨_, hs, Z.b2⟩) ?_
      refine Z.t 29 rfl rfl rfl (by rfl) Z.b4 ⟨_, hs, Z.b2⟩ (Z.Yd.pickF rfl rfl) ?_
      refine Z.g28 ?_
      clear hs; intro ws hs
      replace hs := Z.w0 hs
      refine Z.g219 ?_
      refine Z.g313 ?_
      exact Z.meet () trivial (by rw [show X = chgV m.c3 h m.told by rw [hX]; simp_all]; exact hs)
    clear hs
    rintro _ w12 hs
    refine Z.only [] rfl ?_
    refine Z.seq ?_
    refine Z.g120 ?_
    refine Z.only [8] rfl ?_
    refine Z.g6 ?_
    repeat (first | refine Z.rthen ?_ | refine Z.rblock ?_ | refine Z.rscope ?_ | refine Z.rjump ?_)
    refine Z.g52 ?_
    exact ⟨_, rfl, rfl, by rw [eA]; exact hs⟩
  clear hs
  rintro ⟨⟩ w9 ⟨hno, hs⟩
  refine Z.only [8] rfl ?_
  (try dsimp only at hs)
  refine Z.seq ?_
  refine Z.g151 ?_
  refine Z.g31 ?_
  refine Z.only [8] rfl ?_
  refine Z.g6 ?_
  repeat (first | refine Z.rthen ?_ | refine Z.rblock ?_ | refine Z.rscope ?_)
  refine Z.g52 ?_
  exact ⟨_, rfl, by rw [show updV m t a b c d h = (m, 2) from if_neg hno], by rw [show updV m t a b c d h = (m, 2) from if_neg hno]; exact hs⟩
end Go.Proofs.YtbojkoiopkaciaaGreat

/- Reports: Copy, Same; the iterator over the groups; the buffer report. -/
namespace Go.Proofs.YtbojkoiopkaciaaGreat
open Go.RowKit
set_option linter.unusedSimpArgs false
set_option linter.unusedVariables false
--newlaws

theorem rp_Copy (g : Nat) (m : RpV) (w : World) (hc : Cel w g m.cells) : Calls Tryz.prog 46 #[.pointer (some ⟨g, 0, none⟩)] w (SX.Ret fun v w' => ∃ g2, v = .pointer (some ⟨g2, 0, none⟩) ∧ SX.St w [] w' [SX.Ent.blk g2 157 m.cells.toArray]) := by
  have hs := SX.St.start w
  refine Z.enter Tryz.func46 rfl Tryz.ntmps46 rfl rfl ?_
  refine Z.g0 ?_
  have hone := rp_one m
  refine Z.g264 ?_
  refine Z.g82 ?_
  refine Z.g159 ?_
  refine Z.ZO.call rfl rfl (by rfl) rfl rfl Tryz.call87 rfl (rp_none g m _ hc) ?_
  rintro v1_1 w1_1 ⟨rfl, hy⟩
  replace hs := Z.w1 (hs.call hy); clear hy
  refine Z.g314 ?_
  refine Z.only [0, 5] rfl ?_
  refine Z.g313 ?_
  refine Z.cond rfl (fun h => absurd h Z.b17) (fun hc1 => ?_)
  refine Z.g151 ?_
  refine Z.g157 ?_
  refine Z.l rfl rfl (by rfl) (Z.keepS hs) (Z.Yd.loadA _ rfl Tryz.isAgg157 (fun _ => hc.agg Z.b17) (by exact Tryz.sizeOf157)) ?_
  refine Z.g3 ?_
  refine Z.ZO.alloc rfl rfl (by rfl) Tryz.zeroValue157 rfl hs ?_
  clear hs; intro g3 w3 hs
  refine Z.g124 ?_
  clear hs; intro ws hs
  replace hs := Z.w0 hs
  replace hs := Z.w3 hs
  refine Z.g314 ?_
  refine Z.only [3] rfl ?_
  refine Z.g30 ?_
  refine Z.g154 ?_
  refine Z.g52 ?_
  exact ⟨_, rfl, _, rfl, hs⟩
def gps (a b c d : Int) : List Nat := (List.range 4).filter fun k => decide (0 < elt [a, b, c, d] (k : Int))
def GpA (a b c d : Int) (k : Nat) (args : Array Value) (Lx : List SX.Ent) : Prop := args = #[.int .i64 (k : Int), .int .i64 (elt [a, b, c, d] (k : Int))] ∧ Lx = []
theorem flt_prefix {p : Nat → Bool} {j n : Nat} (hj : j < n) (hp : p j = true) : ((List.range j).filter p ++ [j]) <+: (List.range n).filter p := by
  have h1 : (List.range (j + 1)).filter p = (List.range j).filter p ++ [j] := by
    rw [List.range_succ, List.filter_append]
    simp [hp]
  rw [← h1]
  obtain ⟨k, rfl⟩ : ∃ k, n = (j + 1) + k := ⟨n - (j + 1), by omega⟩
  exact ((List.range_add (n := j + 1) (m := k)) ▸ List.prefix_append _ _ : List.range (j + 1) <+: List.range (j + 1 + k)).filter p
theorem flt_skip {p : Nat → Bool} {j : Nat} (hp : p j = false) : (List.range (j + 1)).filter p = (List.range j).filter p := by
  rw [List.range_succ, List.filter_append]
  simp [hp]
theorem flt_take {p : Nat → Bool} {j : Nat} (hp : p j = true) : (List.range (j + 1)).filter p = (List.range j).filter p ++ [j] := by
  rw [List.range_succ, List.filter_append]
  simp [hp]
theorem gps_pre {a b c d : Int} {pre : List Nat} {x : Nat} (h : (pre ++ [x]) <+: gps a b c d) : (∀ y ∈ pre, y < x) ∧ x < 4 ∧ 0 < elt [a, b, c, d] (x : Int) ∧ (gps a b c d)[pre.length]? = some x ∧ pre.length < (gps a b c d).length := by
  have hp : (gps a b c d).Pairwise (· < ·) := List.Pairwise.sublist List.filter_sublist List.pairwise_lt_range
  have h1 : (pre ++ [x]).Pairwise (· < ·) := List.Pairwise.sublist h.sublist hp
  have hm : x ∈ gps a b c d := h.subset Z.b17
  have h2 := List.mem_filter.1 hm
  obtain ⟨t, ht⟩ := h
  refine ⟨fun y hy => (List.pairwise_append.1 h1).2.2 y hy x Z.b17, by simpa using h2.1, by simpa using h2.2, ?_, ?_⟩
  · rw [← ht]; simp
  rw [← ht]; simp
set_option maxRecDepth 100000 in
theorem groups_seq (g T : Nat) (a b c d : Int) : SX.SeqC Tryz.prog 187 #[.pointer (some ⟨g, 0, none⟩)] (GpA a b c d) [SX.Ent.blk g T #[.int .i64 a, .int .i64 b, .int .i64 c, .int .i64 d]] (fun _ _ => True) (gps a b c d) := by
  intro l w0 M I Ix W L0 _ hY hI hs
  refine Z.enter Tryz.func187 rfl Tryz.ntmps187 rfl rfl ?_
  refine Z.scope ?_
  refine Z.seq ?_
  refine Z.label ?_
  refine Z.g30 ?_
  refine Z.l rfl rfl (by rfl) (Z.keepS hs) Z.b62 ?_
  refine Z.g1 ?_
  refine Z.only [0, 5, 6] rfl ?_
  refine Z.g210 ?_
  refine Z.loopk (ι := Nat × List SX.Ent) [0, 5] rfl (fun j => [(6, [], .int .i64 (j.1 : Int))]) (fun j wr => (j.1 ≤ 4 ∧ I ((List.range j.1).filter fun k => decide (0 < elt [a, b, c, d] (k : Int))) j.2) ∧ SX.St w0 M wr (j.2 ++ [SX.Ent.blk g T #[.int .i64 a, .int .i64 b, .int .i64 c, .int .i64 d]])) (fun j => 4 - j.1) (0, L0) Z.b6 ⟨⟨by simp only; omega, hI⟩, hs⟩ ?_
  clear hs
  rintro ⟨j, L1⟩ w1 ⟨⟨hj, hi⟩, hs⟩
  refine Z.only [0, 5, 6] rfl ?_
  (try dsimp only at hs)
  refine Z.g120 ?_
  refine Z.only [0, 5, 6, 7] rfl ?_
  refine Z.g150 ?_
  refine Z.cond rfl (fun hc1 => ?_) (fun hc1 => ?_)
  · (try simp at hc1)
    have hlt : j < 4 := by omega
    have hgl : #[Value.int .i64 a, .int .i64 b, .int .i64 c, .int .i64 d][j]? = some (.int .i64 (elt [a, b, c, d] (j : Int))) := by
      have h4 : j = 0 ∨ j = 1 ∨ j = 2 ∨ j = 3 := by omega
      rcases h4 with rfl | rfl | rfl | rfl <;> rfl
    refine Z.g91 ?_
    refine Z.g182 ?_
    refine Z.l rfl rfl (by rfl) (Z.keepS hs) (Z.Yd.idx1 rfl rfl Tryz.underlying37 Tryz.sizeOf3 Tryz.isAgg3 (fun _ => ⟨by omega, by omega, hgl⟩)) ?_
    refine Z.g31 ?_
    refine Z.only [0, 3, 4, 5, 6] rfl ?_
    refine Z.g92 ?_
    refine Z.split (s := 12) rfl (fun hsp12 => ?_) (fun hsp12 => ?_)
    · refine Z.yes (s := 12) (b := true) rfl hsp12 rfl ?_
      (try simp at hsp12)
      refine Z.g221 ?_
      refine Z.yes (s := 12) (b := true) rfl rfl rfl ?_
      refine Z.g117 ?_
      refine Z.ZO.yield rfl rfl (by rfl) rfl rfl rfl (hY _ ((List.range j).filter fun k => decide (0 < elt [a, b, c, d] (k : Int))) j _ _ L1 [] hi (flt_prefix hlt (by simpa using hsp12)) ⟨rfl, rfl⟩ hs) ?_
      clear hs
      rintro e wy3_6 (⟨rfl, Ly3_6, hiy3_6, hs⟩ | ⟨rfl, Ly3_6, hiy3_6, hs⟩)
      · refine ⟨_, rfl, ?_⟩
        refine Z.g64 ?_
        refine Z.yes (s := 12) (b := true) rfl rfl rfl ?_
        refine Z.g15 ?_
        refine Z.g314 ?_
        refine Z.only [0, 5, 6, 18] rfl ?_
        refine Z.g313 ?_
        refine Z.cond rfl (fun hc3 => ?_) (fun hc3 => ?_)
        · (exfalso; simp at hc3 <;> omega)
        (try simp at hc3)
        refine Z.g235 ?_
        refine Z.only [0, 5, 6] rfl ?_
        refine Z.g313 ?_
        exact Z.again (j + 1, Ly3_6) Z.b16 ⟨⟨by simp only; omega, by simp only; rw [flt_take (by simpa using hsp12)]; exact hiy3_6⟩, hs⟩ Z.b21
      refine ⟨_, rfl, ?_⟩
      refine Z.g64 ?_
      refine Z.yes (s := 12) (b := true) rfl rfl rfl ?_
      refine Z.g15 ?_
      refine Z.g314 ?_
      refine Z.only [0, 5, 6, 18] rfl ?_
      refine Z.g313 ?_
      refine Z.cond rfl (fun hc3 => ?_) (fun hc3 => ?_)
      · (try simp at hc3)
        refine Z.exit ?_
        refine Z.xblockn rfl ?_
        refine Z.xthen ?_
        refine Z.xthen ?_
        refine Z.xblock ?_
        refine Z.nscope ?_
        refine Z.g128 ?_
        first
        | exact ⟨⟨_, rfl⟩, Ly3_6, .inr hiy3_6, hs⟩
        | exact ⟨⟨_, rfl⟩, L1, .inl (by obtain rfl : j = 4 := by omega
                                        exact hi), hs⟩
      (exfalso; simp at hc3 <;> omega)
    refine Z.yes (s := 12) (b := false) rfl hsp12 rfl ?_
    (try simp at hsp12)
    refine Z.g2 ?_
    refine Z.g43 ?_
    refine Z.g43 ?_
    refine Z.g13 ?_
    refine Z.g314 ?_
    refine Z.only [0, 5, 6, 18] rfl ?_
    refine Z.g313 ?_
    refine Z.cond rfl (fun hc3 => ?_) (fun hc3 => ?_)
    · (exfalso; simp at hc3 <;> omega)
    (try simp at hc3)
    refine Z.g235 ?_
    refine Z.only [0, 5, 6] rfl ?_
    refine Z.g313 ?_
    exact Z.again (j + 1, L1) Z.b16 ⟨⟨by simp only; omega, by simp only; rw [flt_skip (by simpa using hsp12)]; exact hi⟩, hs⟩ Z.b21
  (try simp at hc1)
  refine Z.g11 ?_
  refine Z.nscope ?_
  refine Z.g128 ?_
  first
  | exact ⟨⟨_, rfl⟩, Ly3_6, .inr hiy3_6, hs⟩
  | exact ⟨⟨_, rfl⟩, L1, .inl (by obtain rfl : j = 4 := by omega
                                  exact hi), hs⟩
theorem rp_Groups (g : Nat) (m : RpV) (w : World) (hc : Cel w g m.cells) : Calls Tryz.prog 148 #[.pointer (some ⟨g, 0, none⟩)] w (SX.Ret fun v w' => ∃ g2, v = .func (.func 187) #[] #[.pointer (some ⟨g2, 0, none⟩)] ∧ SX.St w [] w' [SX.Ent.blk g2 37 #[.int .i64 m.b0, .int .i64 m.b1, .int .i64 m.b2, .int .i64 m.b3]]) := by
  have hs := SX.St.start w
  refine Z.enter Tryz.func148 rfl Tryz.ntmps148 rfl rfl ?_
  refine Z.g241 ?_
  refine Z.g3 ?_
  refine Z.g81 ?_
  clear hs; intro g3 w3 hs
  refine Z.g314 ?_
  refine Z.only [0, 3] rfl ?_
  refine Z.g159 ?_
  refine Z.ZO.call rfl rfl (by rfl) rfl rfl Tryz.call87 rfl (rp_none g m _ (hc.st (hs.sub (List.nil_sublist _)))) ?_
  rintro v2_1 w2_1 ⟨rfl, hy⟩
  replace hs := Z.w1 (hs.call hy); clear hy
  refine Z.g1 ?_
  refine Z.only [0, 3, 6] rfl ?_
  refine Z.g313 ?_
  refine Z.cond rfl (fun hc2 => ?_) (fun h => absurd h Z.b17)
  refine Z.region ?_
  refine Z.g157 ?_
  refine Z.l rfl rfl (by rfl) (Z.keepS hs) (Z.Yd.fieldA (m := 10) rfl Z.b4) ?_
  refine Z.l rfl rfl (by rfl) (Z.keepS hs) (Z.Yd.loadA _ rfl Tryz.isAgg37 (fun _ => hc.part Z.b17 [.int .i64 (m).b0, .int .i64 (m).b1, .int .i64 (m).b2, .int .i64 (m).b3] rfl) (by exact Tryz.sizeOf37)) ?_
  refine Z.g124 ?_
  clear hs; intro ws hs
  replace hs := Z.w0 hs
  replace hs := Z.w3 hs
  refine Z.g314 ?_
  refine Z.only [3] rfl ?_
  refine Z.g30 ?_
  refine Z.g31 ?_
  refine Z.g33 ?_
  refine Z.g52 ?_
  exact ⟨_, rfl, _, rfl, hs⟩
end Go.Proofs.YtbojkoiopkaciaaGreat

/- Reports: the buffer report. -/
namespace Go.Proofs.YtbojkoiopkaciaaGreat
open Go.RowKit
set_option linter.unusedSimpArgs false
set_option linter.unusedVariables false
--newlaws

abbrev RpV.bs (m : RpV) : List Int := [m.b0, m.b1, m.b2, m.b3]
def lvX (l : List Int) (pre : List Nat) (k : Nat) : Int := if k ∈ pre then levV (elt l (k : Int)) else 0
def xcs (b : Bool) (l : List Int) (pre : List Nat) : List Value := [.bool b, .int .i64 0, .int .i64 (lvX l pre 0), .int .i64 (lvX l pre 1), .int .i64 (lvX l pre 2), .int .i64 (lvX l pre 3)]
theorem xcs_set (l : List Int) (pre : List Nat) (x : Nat) (hx : x < 4) : (xcs false l pre).set (2 + (x : Int).toNat * 1) (.int .i64 (levV (elt l (x : Int)))) = xcs false l (pre ++ [x]) := by
  have e : ∀ k, lvX l (pre ++ [x]) k = if k = x then levV (elt l (x : Int)) else lvX l pre k := fun k => by
    unfold lvX
    by_cases h : k = x
    · subst h; simp
    simp [h]
  simp only [xcs, e]
  have h4 : x = 0 ∨ x = 1 ∨ x = 2 ∨ x = 3 := by omega
  rcases h4 with rfl | rfl | rfl | rfl <;> rfl
@[simp] theorem xcs_len (b : Bool) (l : List Int) (pre : List Nat) : (xcs b l pre).length = 6 := rfl
theorem gps_len (a b c d : Int) : (gps a b c d).length ≤ 4 := by
  have := List.length_filter_le (fun k : Nat => decide (0 < elt [a, b, c, d] (k : Int))) (List.range 4)
  simpa [gps] using this
theorem xcs_get (b : Bool) (l : List Int) (pre : List Nat) (k : Nat) (hk : k < 4) : (xcs b l pre)[2 + k]? = some (.int .i64 (lvX l pre k)) := by
  have h4 : k = 0 ∨ k = 1 ∨ k = 2 ∨ k = 3 := by omega
  rcases h4 with rfl | rfl | rfl | rfl <;> rfl
theorem lvl_zero : lvl 0 = 0 := lvl_eq Z.b9 (fun j hj => by omega) (fun j _ hj => by
  have h : ∀ k : Nat, 0 ≤ lim k := fun k => by
    induction k with
    | zero => simp [lim]
    | succ k ih =>
      cases k with
      | zero => simp [lim]
      | succ k => rw [lim_succ _ Z.b9]; omega
  exact h j)
theorem lvX_all {a b c d : Int} (ha : 0 ≤ a) (hb : 0 ≤ b) (hc : 0 ≤ c) (hd : 0 ≤ d) (k : Nat) (hk : k < 4) : lvX [a, b, c, d] (gps a b c d) k = (lvl (elt [a, b, c, d] (k : Int)) : Int) := by
  have h0 : 0 ≤ elt [a, b, c, d] (k : Int) := by
    have h4 : k = 0 ∨ k = 1 ∨ k = 2 ∨ k = 3 := by omega
    rcases h4 with rfl | rfl | rfl | rfl <;> assumption
  unfold lvX levV gps
  by_cases h : 0 < elt [a, b, c, d] (k : Int)
  · rw [if_pos (by simp [hk, h]), if_neg Z.b9]
  rw [if_neg (by simp [h]), show elt [a, b, c, d] (k : Int) = 0 by omega, lvl_zero]
  rfl
theorem sh_set (k : Nat) (v : Int) (hk : k < 4) : [Value.bool false, .int .i64 (k : Int), .int .i64 0, .int .i64 0, .int .i64 0, .int .i64 0].set (2 + (k : Int).toNat * 1) (.int .i64 v) = (RepV.short (k : Int) v).cells := by
  have h4 : k = 0 ∨ k = 1 ∨ k = 2 ∨ k = 3 := by omega
  rcases h4 with rfl | rfl | rfl | rfl <;> rfl
def statV (m : RpV) (room : Int) : RepV := if 1 < (gps m.b0 m.b1 m.b2 m.b3).length ∧ 4 ≤ room then ⟨true, 0, lvl m.b0, lvl m.b1, lvl m.b2, lvl m.b3⟩ else RepV.short (fstG m.b0 m.b1 m.b2 m.b3) (lvl (elt m.bs (fstG m.b0 m.b1 m.b2 m.b3)))
theorem statV_ok (m : RpV) (room : Int) (h : fstG m.b0 m.b1 m.b2 m.b3 ≠ 4) : (statV m room).ok := by
  have hb := fstG_bd m.b0 m.b1 m.b2 m.b3
  have hl : ∀ x, 0 ≤ (lvl x : Int) ∧ (lvl x : Int) ≤ 63 := fun x => by have := (lvl_spec x).1; omega
  unfold statV
  split
  · exact ⟨⟨by simp, by simp⟩, by rw [if_pos rfl]; exact ⟨rfl, hl _, hl _, hl _, hl _⟩⟩
  obtain ⟨k, hk⟩ := Int.eq_ofNat_of_zero_le hb.1
  rw [hk]
  have h4 : k = 0 ∨ k = 1 ∨ k = 2 ∨ k = 3 := by omega
  refine ⟨⟨by simp only [RepV.short]; omega, by simp only [RepV.short]; omega⟩, ?_⟩
  rw [if_neg (by simp [RepV.short])]
  generalize elt m.bs (k : Int) = x
  rcases h4 with rfl | rfl | rfl | rfl
  all_goals
    refine ⟨fun j hj => ?_, hl x⟩
    have hj4 : j = 0 ∨ j = 1 ∨ j = 2 ∨ j = 3 := by omega
    rcases hj4 with rfl | rfl | rfl | rfl <;> first | exact .inl rfl | exact .inr rfl
set_option maxHeartbeats 1000000 in
set_option maxRecDepth 100000 in
theorem rp_status (g : Nat) (m : RpV) (room : Int) (w : World) (hc : Cel w g m.cells) (hm : m.ok) (hf : fstG m.b0 m.b1 m.b2 m.b3 ≠ 4) :
    Calls Tryz.prog 96 #[.pointer (some ⟨g, 0, none⟩), .int .i64 room] w (SX.Ret fun v w' => v = .agg (statV m room).cells.toArray ∧ SX.St w [] w' []) := by
  have hs := SX.St.start w
  obtain ⟨-, -, h1, h2, h3, h4, -⟩ := hm
  have hall := lvX_all h1.1 h2.1 h3.1 h4.1
  have hb := fstG_bd m.b0 m.b1 m.b2 m.b3
  obtain ⟨k, hk⟩ := Int.eq_ofNat_of_zero_le hb.1
  have hk4 : k < 4 := by omega
  refine Z.enterM Tryz.func96 rfl Tryz.ntmps96 rfl rfl ?_
  refine Z.g230 ?_
  refine Z.g165 ?_
  clear hs; intro g4 w4 hs
  refine Z.g314 ?_
  refine Z.only [0, 1, 4] rfl ?_
  refine Z.g30 ?_
  refine Z.g250 ?_
  clear hs; intro g5 w5 hs
  refine Z.g156 ?_
  clear hs; intro ws hs
  replace hs := Z.w0 hs
  refine Z.g314 ?_
  refine Z.g142 ?_
  refine Z.g159 ?_
  refine Z.ZO.call rfl rfl (by rfl) rfl rfl Tryz.call148 rfl (rp_Groups g m _ (hc.st (hs.sub (List.nil_sublist _)))) ?_
  rintro v2_1 w2_1 ⟨g2, rfl, hy⟩
  replace hs := Z.w1 (hs.call hy); clear hy
  refine Z.g314 ?_
  refine Z.only [0, 1, 4, 5, 11] rfl ?_
  refine Z.g210 ?_
  refine Z.rangeFunc (ps := [12, 13]) (L0 := [SX.Ent.blk g5 3 #[.int .i64 0], SX.Ent.blk g4 86 (xcs false m.bs []).toArray]) (groups_seq g2 _ m.b0 m.b1 m.b2 m.b3) rfl Tryz.call187 ((hs.sel [1, 2, 0] Z.b12)) trivial (by rintro x args Lx ⟨rfl, rfl⟩; rfl) rfl (fun pre L => L = [SX.Ent.blk g5 3 #[.int .i64 (pre.length : Int)], SX.Ent.blk g4 86 (xcs false m.bs pre).toArray]) (fun _ _ => False) rfl ?_ ?_ ?_
  · clear hs
    rintro l0 Z0 pre x args W0 L0 Lx rfl hpre ⟨rfl, rfl⟩ hs
    refine ⟨_, rfl, ?_⟩
    refine Z.g120 ?_
    refine Z.only [0, 1, 4, 5, 6, 13] rfl ?_
    refine Z.g121 ?_
    refine Z.g1 ?_
    refine Z.only [0, 1, 4, 5, 6, 7] rfl ?_
    refine Z.g313 ?_
    refine Z.assigned [SX.Ent.blk g5 3 #[.int .i64 (pre.length : Int)], SX.Ent.blk g4 86 (xcs false m.bs pre).toArray] hs ?_
    clear hs
    intro Wb0 Zb0 hs
    refine Z.block ?_
    refine Z.g0 ?_
    obtain ⟨hlt, hx4, hx0, -, hlen⟩ := gps_pre hpre
    have hgl := gps_len m.b0 m.b1 m.b2 m.b3
    replace hs := Z.w2 hs
    refine Z.g18 ?_
    refine Z.g32 ?_
    refine Z.ZO.call rfl rfl (by rfl) rfl rfl Tryz.call149 rfl (clevel_any _ _) ?_
    rintro v5_2 w5_2 ⟨rfl, hy⟩
    replace hs := Z.w1 (hs.call hy); clear hy
    refine Z.g221 ?_
    refine Z.g21 ?_
    refine Z.g59 ?_
    refine Z.g156 ?_
    clear hs; intro ws hs
    replace hs := Z.w0 hs
    refine Z.g314 ?_
    refine Z.g142 ?_
    refine Z.g121 ?_
    rw [xcs_set m.bs pre x hx4] at hs
    refine Z.g14 ?_
    refine Z.g5 ?_
    refine Z.g156 ?_
    clear hs; intro ws hs
    replace hs := Z.w0 hs
    refine Z.g314 ?_
    refine Z.g142 ?_
    refine Z.nblock ?_
    refine Z.rnorm [_, _] ?_ hs
    simp
  · clear hs
    rintro Dd W0 L0 hi hs
    subst hi
    replace hs := Z.w2 hs
    refine Z.nblock ?_
    refine Z.g60 ?_
    have hgl := gps_len m.b0 m.b1 m.b2 m.b3
    refine Z.g14 ?_
    refine Z.g212 ?_
    refine Z.only [0, 4, 29] rfl ?_
    refine Z.g313 ?_
    refine Z.cond rfl (fun hc7 => ?_) (fun hc7 => ?_)
    · (try simp at hc7)
      have e : statV m room = ⟨true, 0, lvl m.b0, lvl m.b1, lvl m.b2, lvl m.b3⟩ := if_pos Z.b9
      refine Z.g0 ?_
      refine Z.g4 ?_
      refine Z.g3 ?_
      refine Z.g75 ?_
      clear hs; intro ws hs
      replace hs := Z.w0 hs
      refine Z.g314 ?_
      refine Z.only [4] rfl ?_
      refine Z.g30 ?_
      have e2 : (xcs false m.bs (gps m.b0 m.b1 m.b2 m.b3)).set 0 (Value.bool true) = (RepV.mk true 0 (lvl m.b0) (lvl m.b1) (lvl m.b2) (lvl m.b3)).cells := by
        simp only [xcs, hall 0 Z.b9, hall 1 Z.b9, hall 2 Z.b9, hall 3 Z.b9]
        rfl
      rw [e2] at hs
      have hone : ∀ u ∈ (RepV.mk true 0 (lvl m.b0) (lvl m.b1) (lvl m.b2) (lvl m.b3)).cells, u.oneCell' = true := by simp [RepV.cells, Value.oneCell']
      refine Z.l rfl rfl (by rfl) (Z.keepS hs) Z.b61 ?_
      refine Z.g124 ?_
      clear hs; intro ws hs
      replace hs := Z.w0 hs
      replace hs := Z.w3 hs
      refine Z.g314 ?_
      refine Z.g62 ?_
      repeat (first | refine Z.rthen ?_ | refine Z.rblock ?_ | refine Z.rscope ?_)
      refine Z.outM1 (vs := [_]) (show SX.St w [] _ ([_, _] ++ SX.Ent.obj Dd (.deferred (some [])) :: [_]) from hs) (fun wr hs => Z.b55) Z.b55 ?_
      clear hs
      intro wr hs
      refine ⟨_, rfl, ?_, hs.sub (List.nil_sublist _)⟩
      rw [e]
      rfl
    (try simp at hc7)
    have e : statV m room = RepV.short (fstG m.b0 m.b1 m.b2 m.b3) (lvl (elt m.bs (fstG m.b0 m.b1 m.b2 m.b3))) := if_neg Z.b9
    refine Z.g151 ?_
    refine Z.g157 ?_
    refine Z.l rfl rfl (by rfl) (Z.keepS hs) (Z.Yd.fieldA (m := 10) rfl Z.b4) ?_
    refine Z.l rfl rfl (by rfl) (Z.keepS hs) (Z.Yd.loadA _ rfl Tryz.isAgg37 (fun _ => hc.part Z.b17 [.int .i64 (m).b0, .int .i64 (m).b1, .int .i64 (m).b2, .int .i64 (m).b3] rfl) (by exact Tryz.sizeOf37)) ?_
    refine Z.g3 ?_
    refine Z.ZO.call rfl rfl (by rfl) rfl rfl Tryz.call90 rfl (rp_group m.b0 m.b1 m.b2 m.b3 _) ?_
    rintro v10_4 w10_4 ⟨rfl, hy⟩
    replace hs := Z.w1 (hs.call hy); clear hy
    rw [hk]
    refine Z.g1 ?_
    refine Z.only [4, 8] rfl ?_
    refine Z.g30 ?_
    refine Z.g64 ?_
    refine Z.g136 ?_
    refine Z.g3 ?_
    refine Z.g165 ?_
    clear hs; intro g9 w9 hs
    refine Z.g124 ?_
    clear hs; intro ws hs
    replace hs := Z.w0 hs
    replace hs := Z.w3 hs
    refine Z.g314 ?_
    refine Z.only [4, 8, 9] rfl ?_
    refine Z.g30 ?_
    refine Z.g22 ?_
    refine Z.g21 ?_
    refine Z.g59 ?_
    refine Z.l rfl rfl (by rfl) (Z.keepS hs) (Z.Yd.load rfl Tryz.isAgg3 (fun hG => Z.cellB Z.b0 (by rw [Z.nth_eq]; show _[0 + 2 + (k : Int).toNat * 1]? = _; rw [show 0 + 2 + (k : Int).toNat * 1 = 2 + k from by omega]; exact xcs_get _ _ _ k hk4))) ?_
    refine Z.g21 ?_
    refine Z.g59 ?_
    refine Z.g156 ?_
    clear hs; intro ws hs
    replace hs := Z.w0 hs
    refine Z.g314 ?_
    refine Z.only [4, 9] rfl ?_
    refine Z.g30 ?_
    rw [sh_set k _ hk4, hall k hk4] at hs
    have hone : ∀ u ∈ (RepV.short (k : Int) (lvl (elt m.bs (k : Int)))).cells, u.oneCell' = true := by simp [RepV.cells, Value.oneCell']
    refine Z.l rfl rfl (by rfl) (Z.keepS hs) Z.b61 ?_
    refine Z.g124 ?_
    clear hs; intro ws hs
    replace hs := Z.w0 hs
    replace hs := Z.w3 hs
    refine Z.g314 ?_
    refine Z.g62 ?_
    refine Z.outM1 (vs := [_]) (show SX.St w [] _ ([_, _, _] ++ SX.Ent.obj Dd (.deferred (some [])) :: [_]) from hs) (fun wr hs => Z.b55) Z.b55 ?_
    clear hs
    intro wr hs
    refine ⟨_, rfl, ?_, hs.sub (List.nil_sublist _)⟩
    rw [e]
    (rw [hk]; rfl)
  clear hs
  rintro Dd c W0 L0 hi hs
  exact hi.elim
end Go.Proofs.YtbojkoiopkaciaaGreat

/- Reports: Elements. -/
namespace Go.Proofs.YtbojkoiopkaciaaGreat
open Go.RowKit
set_option linter.unusedSimpArgs false
set_option linter.unusedVariables false
--newlaws

structure PtV where
  lc : Int
  B : Option Addr
  c : Nat
  co : Nat
  l : List Int
def PtV.cells (q : PtV) : List Value := [.int .i64 q.lc, .slice q.B q.l.length q.c]
def PtV.row (q : PtV) : SX.Ent := SX.Ent.row (.slice q.B q.l.length q.co) 5 1 q.l.length (ints .u8 q.l)
def PtV.plain (q : PtV) : Int × List Int := (q.lc, q.l)
def ptsL (sv : Value) (qs : List PtV) : List SX.Ent := SX.Ent.row sv 77 2 qs.length (qs.flatMap PtV.cells) :: qs.map PtV.row
theorem rp_add (go To gr Tr n ln c : Nat) (room lc : Int) (sv e : Value) (B : Option Addr) (cs : List Value) (w : World) (hs : SX.St w (SX.idsOf [SX.Ent.blk go To #[sv], SX.Ent.blk gr Tr #[.int .i64 room], SX.Ent.row sv 77 2 n cs]) w [SX.Ent.blk go To #[sv], SX.Ent.blk gr Tr #[.int .i64 room], SX.Ent.row sv 77 2 n cs])
    (hn : n ≤ 10) (hr : 0 ≤ room ∧ room ≤ 9223372036854775807) (hl : ln ≤ 10) :
    Calls Tryz.prog 93 #[.agg #[.int .i64 lc, .slice B ln c], e, .pointer (some ⟨go, 0, none⟩), .pointer (some ⟨gr, 0, none⟩)] w (SX.Ret fun v w' => v = .tuple #[] ∧ ∃ sv', SX.St w (SX.idsOf [SX.Ent.blk go To #[sv], SX.Ent.blk gr Tr #[.int .i64 room], SX.Ent.row sv 77 2 n cs]) w' [SX.Ent.blk go To #[sv'], SX.Ent.blk gr Tr #[.int .i64 (room - (1 + (ln : Int)))], SX.Ent.row sv' 77 2 (n + 1) (cs ++ [.int .i64 lc, .slice B ln c])]) := by
  generalize hM : SX.idsOf [SX.Ent.blk go To #[sv], SX.Ent.blk gr Tr #[.int .i64 room], SX.Ent.row sv 77 2 n cs] = M at *
  refine Z.enter Tryz.func93 rfl Tryz.ntmps93 rfl rfl ?_
  refine Z.g90 ?_
  clear hs; intro g4 w4 hs
  refine Z.g255 ?_
  refine Z.g179 ?_
  refine Z.g143 ?_
  refine Z.g3 ?_
  refine Z.g69 ?_
  clear hs; intro g8 w8 hs
  refine Z.g3 ?_
  refine Z.g88 ?_
  clear hs; intro g9 cap9 w9 hs
  simp only [List.set_cons_zero, List.set_cons_succ, List.eraseIdx_cons_zero, List.eraseIdx_cons_succ] at hs
  refine Z.g3 ?_
  refine Z.g116 ?_
  clear hs; intro ws hs
  replace hs := Z.w0 hs
  refine Z.g314 ?_
  refine Z.only [3, 4] rfl ?_
  refine Z.g121 ?_
  refine Z.g14 ?_
  refine Z.g201 ?_
  refine Z.g5 ?_
  refine Z.g19 ?_
  refine Z.g156 ?_
  clear hs; intro ws hs
  replace hs := Z.w0 hs
  refine Z.g153 ?_
  refine Z.g128 ?_
  exact ⟨_, rfl, rfl, _, hs.sel [1, 2, 3] Z.b12⟩
theorem RpV.ok.time {m : RpV} (hm : m.ok) {t : Int} (h : m.now ≤ t ∧ t < 1073741824) : ({ m with now := t } : RpV).ok := by
  obtain ⟨h1, h2, h3, h4, h5, h6, h7, h8, h9, h10, h11⟩ := hm
  exact ⟨h1, by simp only; omega, h3, h4, h5, h6, h7, h8, h9, h10, h11⟩
theorem encL_size (r : RepV) : (encL r).length = if r.long = true then 3 else 1 := by
  unfold encL
  split <;> simp
def okE (m : RpV) (t room : Int) : Prop := (m.now ≤ t ∧ t < 1073741824) ∧ 0 ≤ room
instance (m : RpV) (t room : Int) : Decidable (okE m t room) := by unfold okE; infer_instance
def bufB (m : RpV) (room : Int) : Prop := (m.reg = true ∨ m.per = true) ∧ 2 ≤ room
instance (m : RpV) (room : Int) : Decidable (bufB m room) := by unfold bufB; infer_instance
def elP1 (m : RpV) (room : Int) : List (Int × List Int) := if bufB m room then [(encLc (statV m room), encL (statV m room))] else []
def elR1 (m : RpV) (room : Int) : Int := if bufB m room then room - (1 + ((encL (statV m room)).length : Int)) else room
def elM1 (m : RpV) (t room : Int) : RpV := if bufB m room then { m with now := t, reg := false, per := false, last := t } else { m with now := t }
def powB (m : RpV) (room : Int) : Prop := m.pow = true ∧ 2 ≤ elR1 m room
instance (m : RpV) (room : Int) : Decidable (powB m room) := by unfold powB; infer_instance
def elM (m : RpV) (t room : Int) : RpV := if powB m room then { elM1 m t room with pow := false, fst := false, lastP := t, told := m.head } else elM1 m t room
theorem elR1_le (m : RpV) (room : Int) : elR1 m room ≤ room := by unfold elR1; split <;> omega
def elP (m : RpV) (room : Int) : List (Int × List Int) := elP1 m room ++ if powB m room then [(26, [m.head])] else []
def elsV (m : RpV) (t room : Int) : RpV × List (Int × List Int) × Int := if okE m t room then (elM m t room, elP m room, 0) else (m, [], 2)
theorem RpV.ok.elM1 {m : RpV} (hm : m.ok) {t room : Int} (h : m.now ≤ t ∧ t < 1073741824) : (elM1 m t room).ok := by
  obtain ⟨h1, h2, h3, h4, h5, h6, h7, h8, h9, h10, h11⟩ := hm.time h
  unfold Go.Proofs.YtbojkoiopkaciaaGreat.elM1
  split
  · exact ⟨h1, h2, h3, h4, h5, h6, h7, h2, h9, h10, fun h => by simp at h⟩
  exact ⟨h1, h2, h3, h4, h5, h6, h7, h8, h9, h10, h11⟩
theorem elM1_now {m : RpV} {t room : Int} : (elM1 m t room).now = t ∧ (elM1 m t room).head = m.head ∧ (elM1 m t room).pow = m.pow := by unfold elM1; split <;> exact ⟨rfl, rfl, rfl⟩
theorem RpV.ok.elM {m : RpV} (hm : m.ok) {t room : Int} (h : m.now ≤ t ∧ t < 1073741824) : (elM m t room).ok := by
  obtain ⟨h1, h2, h3, h4, h5, h6, h7, h8, h9, h10, h11⟩ := hm.elM1 (room := room) h
  unfold Go.Proofs.YtbojkoiopkaciaaGreat.elM
  split
  · exact ⟨h1, h2, h3, h4, h5, h6, h7, h8, (by have e := (elM1_now (m := m) (t := t) (room := room)).1; rw [e] at h2; exact h2), hm.head, h11⟩
  exact ⟨h1, h2, h3, h4, h5, h6, h7, h8, h9, h10, h11⟩
theorem RpV.ok.elsV {m : RpV} (hm : m.ok) (t room : Int) : (elsV m t room).1.ok := by
  unfold Go.Proofs.YtbojkoiopkaciaaGreat.elsV
  split
  · rename_i h; exact hm.elM h.1
  exact hm
set_option maxHeartbeats 1000000 in
set_option maxRecDepth 100000 in
theorem rp_elements (g T : Nat) (m : RpV) (t room : Int) (w : World) (hs : SX.St w (SX.idsOf [SX.Ent.blk g T m.cells.toArray]) w [SX.Ent.blk g T m.cells.toArray]) (hm : m.ok) (hroom : room ≤ 9223372036854775807) :
    Calls Tryz.prog 47 #[.pointer (some ⟨g, 0, none⟩), .int .i64 t, .int .i64 room] w (SX.Ret fun v w' => ∃ sv qs, v = .tuple #[sv, .int .i64 (elsV m t room).2.2] ∧ qs.map PtV.plain = (elsV m t room).2.1 ∧ SX.St w (SX.idsOf [SX.Ent.blk g T m.cells.toArray]) w' (SX.Ent.blk g T (elsV m t room).1.cells.toArray :: ptsL sv qs)) := by
  generalize hM : SX.idsOf [SX.Ent.blk g T m.cells.toArray] = M at *
  replace hs : SX.St w M w [SX.Ent.blk g T #[.bool (m).reg, .bool (m).per, .bool (m).pow, .bool (m).fst, .bool true, .int .i64 (m).c0, .int .i64 (m).c1, .int .i64 (m).c2, .int .i64 (m).c3, .int .i64 (m).now, .int .i64 (m).b0, .int .i64 (m).b1, .int .i64 (m).b2, .int .i64 (m).b3, .int .i64 (m).head, .int .i64 (m).last, .int .i64 (m).lastP, .int .i64 (m).told]] := hs
  refine Z.enter Tryz.func47 rfl Tryz.ntmps47 rfl rfl ?_
  refine Z.g90 ?_
  clear hs; intro g5 w5 hs
  refine Z.g3 ?_
  refine Z.ZO.alloc rfl rfl (by rfl) Tryz.zeroValue47 rfl hs ?_
  clear hs; intro g6 w6 hs
  refine Z.g1 ?_
  refine Z.only [0, 1, 5, 6] rfl ?_
  refine Z.g313 ?_
  refine Z.g35 ?_
  refine Z.g0 ?_
  refine Z.g32 ?_
  refine Z.ZO.call rfl rfl (by rfl) rfl rfl Tryz.call87 rfl (rp_none g m _ (hs.celOf Z.b0)) ?_
  rintro v1_1 w1_1 ⟨rfl, hy⟩
  replace hs := Z.w1 (hs.call hy); clear hy
  refine Z.g1 ?_
  refine Z.only [0, 1, 5, 6, 9] rfl ?_
  refine Z.g313 ?_
  refine Z.cond rfl (fun h => absurd h Z.b17) (fun hc1 => ?_)
  refine Z.g0 ?_
  refine Z.g63 ?_
  refine Z.ZO.call rfl rfl (by rfl) rfl rfl Tryz.call89 rfl (rp_valid g m t _ (hs.celOf Z.b0)) ?_
  rintro v3_2 w3_2 ⟨rfl, hy⟩
  replace hs := Z.w1 (hs.call hy); clear hy
  refine Z.g22 ?_
  refine Z.g14 ?_
  refine Z.g247 ?_
  refine Z.only [0, 1, 5, 6, 12] rfl ?_
  refine Z.g313 ?_
  refine Z.cond rfl (fun hc3 => ?_) (fun hc3 => ?_)
  · (try simp at hc3)
    have e : elsV m t room = (m, [], 2) := if_neg (by unfold okE; simp_all <;> omega)
    rw [e]
    refine Z.g230 ?_
    refine Z.g116 ?_
    clear hs; intro ws hs
    replace hs := Z.w0 hs
    refine Z.g1 ?_
    refine Z.g188 ?_
    repeat (first | refine Z.rthen ?_ | refine Z.rblock ?_ | refine Z.rscope ?_)
    refine Z.out2 Z.b72 ?_
    exact ⟨_, rfl, _, [], rfl, rfl, (hs.nil 77 2).sel [3, 0] Z.b12⟩
  (try simp at hc3)
  have hok : okE m t room := by unfold okE; simp_all <;> omega
  have e : elsV m t room = (elM m t room, elP m room, 0) := if_pos hok
  rw [e]
  refine Z.g71 ?_
  refine Z.g30 ?_
  refine Z.g186 ?_
  refine Z.l rfl rfl (by rfl) (Z.keepS hs) (Z.Yd.fieldA (m := 9) rfl Z.b4) ?_
  refine Z.g156 ?_
  clear hs; intro ws hs
  replace hs := Z.w0 hs
  refine Z.g314 ?_
  refine Z.only [0, 1, 5, 6] rfl ?_
  refine Z.g30 ?_
  refine Z.g31 ?_
  refine Z.only [0, 1, 5, 6, 8] rfl ?_
  refine Z.g123 ?_
  refine Z.g218 ?_
  refine Z.l rfl rfl (by rfl) (Z.keepS hs) (Z.Yd.loadA _ rfl Tryz.isAgg155 (fun _ => Z.cellsBo (cs := ({ m with now := t } : RpV).cells) [.bool m.reg, .bool m.per, .bool m.pow, .bool m.fst] Z.b0 ⟨List.replicate 0 (.bool true) ++ ({ m with now := t } : RpV).cells.drop 4, rfl⟩) (by exact Tryz.sizeOf155)) ?_
  refine Z.g3 ?_
  refine Z.ZO.call rfl rfl (by rfl) rfl rfl Tryz.call94 rfl (rp_buffer m.reg m.per m.pow m.fst _) ?_
  rintro v7_4 w7_4 ⟨rfl, hy⟩
  replace hs := Z.w1 (hs.call hy); clear hy
  refine Z.g64 ?_
  refine Z.g14 ?_
  refine Z.g31 ?_
  refine Z.only [0, 1, 5, 6, 8, 34] rfl ?_
  refine Z.g313 ?_
  refine Z.cutt (ι := Value × List PtV) [0, 1, 5, 6, 8] rfl (fun _ => []) (fun x wr => x.2.map PtV.plain = elP1 m room ∧ SX.St w M wr (SX.Ent.blk g6 47 #[x.1] :: SX.Ent.blk g5 3 #[.int .i64 (elR1 m room)] :: SX.Ent.row x.1 77 2 x.2.length (x.2.flatMap PtV.cells) :: SX.Ent.blk g T (elM1 m t room).cells.toArray :: x.2.map PtV.row)) ?_ ?_
  · skip
    refine Z.cond rfl (fun hc7 => ?_) (fun hc7 => ?_)
    · (try simp at hc7)
      have hbuf : bufB m room := by unfold bufB; simp_all
      refine Z.g0 ?_
      refine Z.g22 ?_
      refine Z.g14 ?_
      refine Z.g3 ?_
      refine Z.ZO.call rfl rfl (by rfl) rfl rfl Tryz.call96 rfl (rp_status g { m with now := t } room _ (hs.celOf Z.b0) (hm.time hok.1) (hm.full hbuf.1)) ?_
      rintro v8_3 w8_3 ⟨rfl, hy⟩
      replace hs := Z.w1 (hs.call hy); clear hy
      refine Z.g3 ?_
      refine Z.ZO.call rfl rfl (by rfl) rfl rfl Tryz.call95 rfl (encrep_ok (statV m room) _ (statV_ok m room (hm.full hbuf.1))) ?_
      rintro v8_4 w8_4 ⟨u, rfl, ⟨B, co, rfl, hy⟩⟩
      replace hs := Z.w1 (hs.call hy); clear hy
      replace hs : SX.St w M _ ([SX.Ent.blk g6 _ _, SX.Ent.blk g5 _ _, SX.Ent.row _ _ _ _ _] ++ [SX.Ent.blk g T #[.bool ({ m with now := t }).reg, .bool ({ m with now := t }).per, .bool ({ m with now := t }).pow, .bool ({ m with now := t }).fst, .bool true, .int .i64 ({ m with now := t }).c0, .int .i64 ({ m with now := t }).c1, .int .i64 ({ m with now := t }).c2, .int .i64 ({ m with now := t }).c3, .int .i64 ({ m with now := t }).now, .int .i64 ({ m with now := t }).b0, .int .i64 ({ m with now := t }).b1, .int .i64 ({ m with now := t }).b2, .int .i64 ({ m with now := t }).b3, .int .i64 ({ m with now := t }).head, .int .i64 ({ m with now := t }).last, .int .i64 ({ m with now := t }).lastP, .int .i64 ({ m with now := t }).told], SX.Ent.row _ _ _ _ _]) := (hs.nil 77 2).sel [2, 3, 0, 4, 1] Z.b12
      refine Z.g63 ?_
      refine Z.ZO.call rfl rfl (by rfl) rfl rfl Tryz.call93 rfl (rp_add g6 _ g5 _ _ _ _ _ _ _ _ _ _ _ (hs.lend (L1 := [_, _, _])) Z.b12 ⟨by omega, hroom⟩ (by rw [encL_size]; split <;> omega)) ?_
      rintro v8_7 w8_7 ⟨rfl, sv, hz⟩
      replace hs := hs.regain (L1 := [_, _, _]) hz
      refine Z.g314 ?_
      refine Z.only [0, 1, 5, 6, 8] rfl ?_
      refine Z.g121 ?_
      refine Z.lb 4 rfl ?_
      refine Z.g218 ?_
      refine Z.g4 ?_
      refine Z.g3 ?_
      refine Z.g75 ?_
      clear hs; intro ws hs
      replace hs := Z.w0 hs
      refine Z.g218 ?_
      refine Z.g9 ?_
      refine Z.g3 ?_
      refine Z.g75 ?_
      clear hs; intro ws hs
      replace hs := Z.w0 hs
      refine Z.g10 ?_
      refine Z.l rfl rfl (by rfl) (Z.keepS hs) (Z.Yd.fieldA (m := 15) rfl Z.b4) ?_
      refine Z.g156 ?_
      clear hs; intro ws hs
      replace hs := Z.w0 hs
      refine Z.g314 ?_
      refine Z.only [0, 1, 5, 6, 8] rfl ?_
      refine Z.g313 ?_
      exact Z.meet (sv, [⟨_, B, _, co, _⟩]) Z.b11 ⟨by rw [show elP1 m room = _ from if_pos hbuf]; rfl, by rw [show elR1 m room = _ from if_pos hbuf, show elM1 m t room = _ from if_pos hbuf]; exact hs⟩
    (try simp at hc7)
    have hbuf : ¬ bufB m room := by unfold bufB; simp_all <;> omega
    refine Z.skip ?_
    refine Z.g313 ?_
    exact Z.meet (.slice none 0 0, []) Z.b11 ⟨by rw [show elP1 m room = [] from if_neg hbuf]; rfl, by rw [show elR1 m room = room from if_neg hbuf, show elM1 m t room = { m with now := t } from if_neg hbuf]; exact (hs.nil 77 2).sel [1, 2, 0, 3] Z.b12⟩
  clear hs
  rintro ⟨sv, qs⟩ w7 ⟨hqs, hs⟩
  refine Z.only [0, 1, 5, 6, 8] rfl ?_
  (try dsimp only at hs)
  dsimp only at hqs hs
  have hmo := hm.elM1 (room := room) hok.1
  obtain ⟨en, eh, ep⟩ := elM1_now (m := m) (t := t) (room := room)
  have hle := elR1_le m room
  have hql : qs.length ≤ 1 := by rw [← List.length_map (f := PtV.plain), hqs]; unfold elP1; split <;> simp
  obtain ⟨A, cA, rfl, hcA, -, -⟩ := SX.row_slv hs (j := 2) rfl
  obtain ⟨m1, hm1⟩ : ∃ m1, m1 = elM1 m t room := ⟨_, rfl⟩
  rw [← hm1] at hs hmo en eh ep
  replace hs : SX.St w M w7 ([SX.Ent.blk g6 47 #[.slice A qs.length cA], SX.Ent.blk g5 3 #[.int .i64 (elR1 m room)], SX.Ent.row (.slice A qs.length cA) 77 2 qs.length (qs.flatMap PtV.cells), SX.Ent.blk g T #[.bool (m1).reg, .bool (m1).per, .bool (m1).pow, .bool (m1).fst, .bool true, .int .i64 (m1).c0, .int .i64 (m1).c1, .int .i64 (m1).c2, .int .i64 (m1).c3, .int .i64 (m1).now, .int .i64 (m1).b0, .int .i64 (m1).b1, .int .i64 (m1).b2, .int .i64 (m1).b3, .int .i64 (m1).head, .int .i64 (m1).last, .int .i64 (m1).lastP, .int .i64 (m1).told]] ++ qs.map PtV.row) := hs
  refine Z.seq ?_
  refine Z.g0 ?_
  refine Z.g157 ?_
  refine Z.g4 ?_
  refine Z.g21 ?_
  refine Z.l rfl rfl (by rfl) (Z.keepS hs) Z.b44 ?_
  refine Z.g64 ?_
  refine Z.g14 ?_
  refine Z.g31 ?_
  refine Z.only [0, 1, 6, 8, 63] rfl ?_
  refine Z.g313 ?_
  refine Z.cond rfl (fun hc10 => ?_) (fun hc10 => ?_)
  · (try simp at hc10)
    have hpow : powB m room := by unfold powB; rw [← ep]; simp_all
    refine Z.g0 ?_
    refine Z.g186 ?_
    refine Z.l rfl rfl (by rfl) (Z.keepS hs) (Z.Yd.fieldA (m := 14) rfl Z.b4) ?_
    refine Z.g14 ?_
    refine Z.g3 ?_
    refine Z.ZO.call rfl rfl (by rfl) rfl rfl Tryz.call97 rfl (encpow_ok m1.head _ hmo.head) ?_
    rintro v11_5 w11_5 ⟨u, rfl, ⟨B, co, rfl, hy⟩⟩
    replace hs := Z.w1 (hs.call hy); clear hy
    replace hs : SX.St w M _ ([SX.Ent.blk g6 _ _, SX.Ent.blk g5 _ _, SX.Ent.row _ _ _ _ _] ++ ([SX.Ent.blk g T #[.bool (m1).reg, .bool (m1).per, .bool (m1).pow, .bool (m1).fst, .bool true, .int .i64 (m1).c0, .int .i64 (m1).c1, .int .i64 (m1).c2, .int .i64 (m1).c3, .int .i64 (m1).now, .int .i64 (m1).b0, .int .i64 (m1).b1, .int .i64 (m1).b2, .int .i64 (m1).b3, .int .i64 (m1).head, .int .i64 (m1).last, .int .i64 (m1).lastP, .int .i64 (m1).told], SX.Ent.row _ _ _ _ _] ++ qs.map PtV.row)) := SX.St.selT (L1 := [_, _, _, _, _]) hs [1, 2, 3, 4, 0] Z.b12
    refine Z.g63 ?_
    refine Z.ZO.call rfl rfl (by rfl) rfl rfl Tryz.call93 rfl (rp_add g6 _ g5 _ _ _ _ _ _ _ _ _ _ _ hs.lend Z.b9 ⟨by simp_all <;> omega, by omega⟩ Z.b17) ?_
    rintro v11_8 w11_8 ⟨rfl, sv, hz⟩
    replace hs := hs.regain hz
    obtain ⟨A2, c2, rfl, -, -, -⟩ := SX.row_slv hs (j := 2) rfl
    replace hs : SX.St w M _ ([SX.Ent.blk g6 _ _, SX.Ent.blk g5 _ _, SX.Ent.row _ _ _ _ _, SX.Ent.blk g T #[.bool (m1).reg, .bool (m1).per, .bool (m1).pow, .bool (m1).fst, .bool true, .int .i64 (m1).c0, .int .i64 (m1).c1, .int .i64 (m1).c2, .int .i64 (m1).c3, .int .i64 (m1).now, .int .i64 (m1).b0, .int .i64 (m1).b1, .int .i64 (m1).b2, .int .i64 (m1).b3, .int .i64 (m1).head, .int .i64 (m1).last, .int .i64 (m1).lastP, .int .i64 (m1).told], SX.Ent.row _ _ _ _ _] ++ qs.map PtV.row) := hs
    refine Z.g314 ?_
    refine Z.only [0, 1, 6] rfl ?_
    refine Z.g121 ?_
    refine Z.lb 6 rfl ?_
    refine Z.g10 ?_
    refine Z.l rfl rfl (by rfl) (Z.keepS hs) (Z.Yd.fieldA (m := 14) rfl Z.b4) ?_
    refine Z.g14 ?_
    refine Z.g218 ?_
    refine Z.g21 ?_
    refine Z.g3 ?_
    refine Z.g75 ?_
    clear hs; intro ws hs
    replace hs := Z.w0 hs
    refine Z.g218 ?_
    refine Z.g72 ?_
    refine Z.g3 ?_
    refine Z.g75 ?_
    clear hs; intro ws hs
    replace hs := Z.w0 hs
    refine Z.g10 ?_
    refine Z.l rfl rfl (by rfl) (Z.keepS hs) (Z.Yd.fieldA (m := 16) rfl Z.b4) ?_
    refine Z.g156 ?_
    clear hs; intro ws hs
    replace hs := Z.w0 hs
    refine Z.g10 ?_
    refine Z.l rfl rfl (by rfl) (Z.keepS hs) (Z.Yd.fieldA (m := 17) rfl Z.b4) ?_
    refine Z.g156 ?_
    clear hs; intro ws hs
    replace hs := Z.w0 hs
    refine Z.g314 ?_
    refine Z.only [6] rfl ?_
    refine Z.g30 ?_
    refine Z.g179 ?_
    refine Z.g3 ?_
    refine Z.g116 ?_
    clear hs; intro ws hs
    replace hs := Z.w0 hs
    refine Z.g1 ?_
    refine Z.g188 ?_
    refine Z.out2 Z.b72 ?_
    refine ⟨_, rfl, _, qs ++ [⟨26, B, 1, co, [m1.head]⟩], rfl, ?_, ?_⟩
    · rw [List.map_append, hqs]; unfold elP; rw [if_pos hpow, ← eh]; rfl
    rw [show elM m t room = { m1 with pow := false, fst := false, lastP := t, told := m1.head } by simp only [elM, if_pos hpow, ← hm1, eh]]
    have h2 := (SX.St.selT (L1 := [_, _, _, _, _]) hs [3, 2, 4] Z.b12)
    have h3 : SX.St w M _ ([_, _] ++ (qs.map PtV.row ++ [_])) := SX.St.perm (show SX.St w M _ ([_, _] ++ ([_] ++ qs.map PtV.row)) from h2) (List.Perm.append_left _ List.perm_append_comm)
    simp only [ptsL, List.length_append, List.length_singleton, List.flatMap_append, List.map_append, List.map_cons, List.map_nil, List.flatMap_cons, List.flatMap_nil, List.append_nil]
    exact h3
  (try simp at hc10)
  have hpow : ¬ powB m room := by unfold powB; rw [← ep]; simp_all <;> omega
  refine Z.g151 ?_
  refine Z.g179 ?_
  refine Z.g3 ?_
  refine Z.g116 ?_
  clear hs; intro ws hs
  replace hs := Z.w0 hs
  refine Z.g1 ?_
  refine Z.g188 ?_
  refine Z.out2 Z.b72 ?_
  refine ⟨_, rfl, _, qs, rfl, by rw [hqs]; unfold elP; rw [if_neg hpow, List.append_nil], by rw [show elM m t room = elM1 m t room from if_neg hpow, ← hm1]; exact SX.St.selT (L1 := [_, _, _, _]) hs [3, 2] Z.b12⟩
end Go.Proofs.YtbojkoiopkaciaaGreat

/- Reports: the document's New, Update. -/
namespace Go.Proofs.YtbojkoiopkaciaaGreat
open Go.RowKit
set_option linter.unusedSimpArgs false
set_option linter.unusedVariables false
--newlaws

end Go.Proofs.YtbojkoiopkaciaaGreat

/- Reports: the document's Elements. -/
namespace Go.Proofs.YtbojkoiopkaciaaGreat
open Go.RowKit
set_option linter.unusedSimpArgs false
set_option linter.unusedVariables false
--newlaws

def lvc (f : Bool) (m : RpV) : List Value := [.bool f, .int .i64 0, .int .i64 (lvl m.b0), .int .i64 (lvl m.b1), .int .i64 (lvl m.b2), .int .i64 (lvl m.b3)]
@[simp] theorem lvc_len (f : Bool) (m : RpV) : (lvc f m).length = 6 := rfl
end Go.Proofs.YtbojkoiopkaciaaGreat

/- FieldHolds. -/
namespace Go.Proofs.YtbojkoiopkaciaaGreat
open Go.RowKit
set_option linter.unusedSimpArgs false
set_option linter.unusedVariables false

end Go.Proofs.YtbojkoiopkaciaaGreat

/- A nil writer, a nil reader. -/
namespace Go.Proofs.YtbojkoiopkaciaaGreat
open Go.RowKit
set_option linter.unusedSimpArgs false
set_option linter.unusedVariables false

end Go.Proofs.YtbojkoiopkaciaaGreat

/- FieldNone. -/
namespace Go.Proofs.YtbojkoiopkaciaaGreat
open Go.RowKit
set_option linter.unusedSimpArgs false
set_option linter.unusedVariables false

structure AskV where
  what : Int
  n : Int
  lA : Option Addr
  lc : Nat
  ll : List Int
structure GoodK (W : World) (x : AskV) : Prop where
  what : -9223372036854775808 ≤ x.what ∧ x.what ≤ 9223372036854775807
  n : -9223372036854775808 ≤ x.n ∧ x.n ≤ 9223372036854775807
  ls : Sl W x.lA (ints .i64 x.ll)
  l63 : x.ll.length ≤ maxLen

theorem rd_ints {W : World} {A : Option Addr} {n c : Nat} (z : Rd Tryz.prog W 34 [.slice A n c]) : ∃ l : List Int, l.length = n ∧ n ≤ maxLen ∧ Sl W A (ints .i64 l) := by
  have c1 : Tryz.prog.cellsOf 3 = 1 := by kernel_rfl
  obtain ⟨xs, h1, h2, h3, h4, h5⟩ := Rd.rows (fun x : Int => [Value.int .i64 x]) (fun _ => True) Tryz.underlying34 (by rw [c1]; decide)
    (fun r hr => by
      obtain ⟨x, hx, wx⟩ := Rd.int Tryz.underlying3 hr
      exact ⟨x, hx, trivial⟩) (fun x => c1.symm) z
  rw [flat_ints] at h5
  exact ⟨xs, h1, Nat.le_trans h2 h3, h5⟩
end Go.Proofs.YtbojkoiopkaciaaGreat

/- The document's reader. -/
namespace Go.Proofs.YtbojkoiopkaciaaGreat
open Go.RowKit
set_option linter.unusedSimpArgs false
set_option linter.unusedVariables false

end Go.Proofs.YtbojkoiopkaciaaGreat

/- The document's reader: Get, GetBytes, Align, End. -/
namespace Go.Proofs.YtbojkoiopkaciaaGreat
open Go.RowKit
set_option linter.unusedSimpArgs false
set_option linter.unusedVariables false

end Go.Proofs.YtbojkoiopkaciaaGreat

/- The document's reader: Align, GetAll. -/
namespace Go.Proofs.YtbojkoiopkaciaaGreat
open Go.RowKit
set_option linter.unusedSimpArgs false
set_option linter.unusedVariables false

end Go.Proofs.YtbojkoiopkaciaaGreat

/- The law's ask. -/
namespace Go.Proofs.YtbojkoiopkaciaaGreat
open Go.RowKit
set_option linter.unusedSimpArgs false
set_option linter.unusedVariables false

end Go.Proofs.YtbojkoiopkaciaaGreat

/- FieldReads. -/
namespace Go.Proofs.YtbojkoiopkaciaaGreat
open Go.RowKit
set_option linter.unusedSimpArgs false
set_option linter.unusedVariables false

end Go.Proofs.YtbojkoiopkaciaaGreat

/- MAC PDUs: the control elements, valid lists, the need; plainly and in the program. -/
namespace Go.Proofs.YtbojkoiopkaciaaGreat
open Go.RowKit
set_option linter.unusedSimpArgs false
set_option linter.unusedVariables false
--newlaws

structure MpV where
  lc : Int
  B : Option Addr
  c : Nat
  l : List Int
def MpV.cells (q : MpV) : List Value := [.int .i64 q.lc, .slice q.B q.l.length q.c]
def MpV.plain (q : MpV) : Int × List Int := (q.lc, q.l)
theorem mp_len (q : MpV) : q.cells.length = 2 := rfl
theorem mp_one (q : MpV) : ∀ u ∈ q.cells, u.oneCell' = true := by simp [MpV.cells, Value.oneCell']
theorem fl_len {α β : Type} {enc : α → List β} {s : Nat} (hs : ∀ x, (enc x).length = s) (l : List α) : (l.flatMap enc).length = l.length * s := Z.flat_length hs
def ctlN (x : Int) : Int := if x = 26 ∨ x = 29 then 1 else if x = 27 then 2 else if x = 28 then 6 else if x = 30 then 3 else 0
theorem ctlN_bd (x : Int) : 0 ≤ ctlN x ∧ ctlN x ≤ 6 := by unfold ctlN; split <;> (try split) <;> (try split) <;> (try split) <;> omega
def sduB (x : Int) : Prop := 1 ≤ x ∧ x ≤ 10
instance (x : Int) : Decidable (sduB x) := by unfold sduB; infer_instance
theorem sdu_ctl {x : Int} (h : sduB x) : ctlN x = 0 := by unfold sduB at h; unfold ctlN; rw [if_neg Z.b9, if_neg Z.b9, if_neg Z.b9, if_neg Z.b9]
def ctlL : List (Int × Value) := [(26, .int .i64 1), (27, .int .i64 2), (28, .int .i64 6), (29, .int .i64 1), (30, .int .i64 3)]
theorem ctl_mlk (x : Int) : (mlk ctlL x).getD (.int .i64 0) = .int .i64 (ctlN x) ∧ (mlk ctlL x).isSome = decide (ctlN x ≠ 0) := by
  unfold mlk ctlL ctlN
  by_cases h1 : x = 26
  · subst h1; exact ⟨rfl, rfl⟩
  by_cases h2 : x = 27
  · subst h2; exact ⟨rfl, rfl⟩
  by_cases h3 : x = 28
  · subst h3; exact ⟨rfl, rfl⟩
  by_cases h4 : x = 29
  · subst h4; exact ⟨rfl, rfl⟩
  by_cases h5 : x = 30
  · subst h5; exact ⟨rfl, rfl⟩
  have e1 : ((26 : Int) == x) = false := by simp; omega
  have e2 : ((27 : Int) == x) = false := by simp; omega
  have e3 : ((28 : Int) == x) = false := by simp; omega
  have e4 : ((29 : Int) == x) = false := by simp; omega
  have e5 : ((30 : Int) == x) = false := by simp; omega
  simp [List.find?_cons, e1, e2, e3, e4, e5, h1, h2, h3, h4, h5]
theorem mc_controls (w : World) : Calls Tryz.prog 191 #[] w (SX.Ret fun v w' => ∃ g, v = .map (some g) ∧ SX.St w [] w' [SX.Ent.mp g .i64 ctlL]) := by
  have hs := SX.St.start w
  refine Z.enter Tryz.func191 rfl Tryz.ntmps191 rfl rfl ?_
  refine Z.g120 ?_
  refine Z.only [] rfl ?_
  refine Z.g30 ?_
  refine Z.g3 ?_
  refine Z.ZO.mkMap rfl rfl (by rfl) hs .i64 ?_
  clear hs; intro g1 w1 hs
  refine Z.g3 ?_
  refine Z.g139 ?_
  clear hs; intro ws hs
  simp only [List.set_cons_zero, List.set_cons_succ, List.cons_append, List.nil_append] at hs
  refine Z.g3 ?_
  refine Z.g139 ?_
  clear hs; intro ws hs
  simp only [List.set_cons_zero, List.set_cons_succ, List.cons_append, List.nil_append] at hs
  refine Z.g3 ?_
  refine Z.g139 ?_
  clear hs; intro ws hs
  simp only [List.set_cons_zero, List.set_cons_succ, List.cons_append, List.nil_append] at hs
  refine Z.g3 ?_
  refine Z.g139 ?_
  clear hs; intro ws hs
  simp only [List.set_cons_zero, List.set_cons_succ, List.cons_append, List.nil_append] at hs
  refine Z.g3 ?_
  refine Z.g139 ?_
  clear hs; intro ws hs
  simp only [List.set_cons_zero, List.set_cons_succ, List.cons_append, List.nil_append] at hs
  refine Z.g31 ?_
  refine Z.g82 ?_
  refine Z.g6 ?_
  refine Z.g52 ?_
  exact ⟨_, rfl, _, rfl, hs⟩
theorem mc_Control (x : Int) (w : World) : Calls Tryz.prog 163 #[.int .i64 x] w (SX.Ret fun v w' => v = .tuple #[.int .i64 (ctlN x), .bool (decide (ctlN x ≠ 0))] ∧ SX.St w [] w' []) := by
  have hs := SX.St.start w
  obtain ⟨e1, e2⟩ := ctl_mlk x
  refine Z.enter Tryz.func163 rfl Tryz.ntmps163 rfl rfl ?_
  refine Z.g152 ?_
  refine Z.g82 ?_
  refine Z.g30 ?_
  refine Z.g3 ?_
  refine Z.ZO.call rfl rfl (by rfl) rfl rfl Tryz.call191 rfl (mc_controls _) ?_
  rintro v1_0 w1_0 ⟨g, rfl, hy⟩
  replace hs := Z.w1 (hs.call hy); clear hy
  refine Z.g64 ?_
  refine Z.l rfl rfl (by rfl) (Z.keepS hs) (Z.Yd.lookupT rfl rfl Tryz.underlying264 Tryz.underlying3 Tryz.zeroValue3 Z.b0) ?_
  rw [e1, e2]
  refine Z.g18 ?_
  refine Z.lb 4 rfl ?_
  refine Z.g314 ?_
  refine Z.only [2, 3] rfl ?_
  refine Z.g30 ?_
  refine Z.lb 4 rfl ?_
  refine Z.g314 ?_
  refine Z.g126 ?_
  refine Z.out2 Z.b22 ?_
  exact ⟨_, rfl, rfl, hs.sub (List.nil_sublist _)⟩
theorem mc_sdu (x : Int) (w : World) : Calls Tryz.prog 164 #[.int .i64 x] w (SX.Ret fun v w' => v = .bool (decide (sduB x)) ∧ SX.St w [] w' []) := by
  have hs := SX.St.start w
  refine Z.enter Tryz.func164 rfl Tryz.ntmps164 rfl rfl ?_
  refine Z.g241 ?_
  refine Z.lb 7 rfl ?_
  refine Z.g314 ?_
  refine Z.g33 ?_
  refine Z.g52 ?_
  exact ⟨_, rfl, by congr 1; rw [Bool.eq_iff_iff]; simp only [decide_eq_true_eq]; unfold sduB; simp, hs⟩
end Go.Proofs.YtbojkoiopkaciaaGreat

/- MAC PDUs: valid lists, the need, the fit. -/
namespace Go.Proofs.YtbojkoiopkaciaaGreat
open Go.RowKit
set_option linter.unusedSimpArgs false
set_option linter.unusedVariables false
--newlaws

abbrev Prt := Int × List Int
def vldP : Bool → List Prt → Bool
  | _, [] => true
  | d, p :: r => if sduB p.1 then decide (1 ≤ p.2.length ∧ p.2.length ≤ 32767) && vldP true r else !d && decide (ctlN p.1 ≠ 0) && decide ((p.2.length : Int) = ctlN p.1) && vldP d r
theorem vldP_cons (d : Bool) (p : Prt) (r : List Prt) : vldP d (p :: r) = if sduB p.1 then decide (1 ≤ p.2.length ∧ p.2.length ≤ 32767) && vldP true r else !d && decide (ctlN p.1 ≠ 0) && decide ((p.2.length : Int) = ctlN p.1) && vldP d r := rfl
def extP (p : Prt) : Int := if sduB p.1 then (if 127 < p.2.length then 2 else 1) else 0
theorem extP_bd (p : Prt) : 0 ≤ extP p ∧ extP p ≤ 2 := by unfold extP; split <;> (try split) <;> omega
def totP (r : List Prt) : Int := (r.map fun p => 1 + extP p + (p.2.length : Int)).sum
theorem totP_snoc (r : List Prt) (p : Prt) : totP (r ++ [p]) = totP r + (1 + extP p + (p.2.length : Int)) := by simp [totP]
theorem totP_cons (p : Prt) (r : List Prt) : totP (p :: r) = (1 + extP p + (p.2.length : Int)) + totP r := by simp [totP]
theorem totP_app (r r' : List Prt) : totP (r ++ r') = totP r + totP r' := by simp [totP]
theorem totP_bd {ps : List MpV} (h : ∀ q ∈ ps, q.l.length ≤ 100000) : 0 ≤ totP (ps.map MpV.plain) ∧ totP (ps.map MpV.plain) ≤ ps.length * 100003 := by
  induction ps with
  | nil => simp [totP]
  | cons q r ih =>
    have h1 := ih fun x hx => h x (by simp [hx])
    have h2 := h q Z.b17
    have h3 := extP_bd q.plain
    rw [List.map_cons, totP_cons]
    have h4 : (q.plain.2.length : Int) = q.l.length := rfl
    have h5 : (((q :: r).length : Nat) : Int) * 100003 = r.length * 100003 + 100003 := by rw [List.length_cons]; omega
    omega
theorem plain_at {ps : List MpV} {i : Nat} {q : MpV} (h : ps[i]? = some q) : (ps.map MpV.plain).drop i = q.plain :: (ps.map MpV.plain).drop (i + 1) := by
  obtain ⟨hi, hq⟩ := List.getElem?_eq_some_iff.1 h
  rw [List.drop_eq_getElem_cons (by simpa using hi)]
  simp [hq]
theorem plain_take {ps : List MpV} {i : Nat} {q : MpV} (h : ps[i]? = some q) : (ps.map MpV.plain).take (i + 1) = (ps.map MpV.plain).take i ++ [q.plain] := by
  rw [List.take_add_one, List.getElem?_map, h]
  rfl
theorem mc_valid (A : Option Addr) (n c : Nat) (ps : List MpV) (w : World) (hx : Sl w A (ps.flatMap MpV.cells)) (hl : ps.length = n) (hn : n ≤ 9223372036854775807) :
    Calls Tryz.prog 119 #[.slice A n c] w (SX.Ret fun v w' => v = .bool (vldP false (ps.map MpV.plain)) ∧ SX.St w [] w' []) := by
  have hs := SX.St.start w
  refine Z.enter Tryz.func119 rfl Tryz.ntmps119 rfl rfl ?_
  refine Z.g241 ?_
  refine Z.g1 ?_
  refine Z.only [0, 3] rfl ?_
  refine Z.g123 ?_
  refine Z.g258 ?_
  refine Z.only [3, 8, 9, 10] rfl ?_
  refine Z.g210 ?_
  refine Z.loopk (ι := Nat × Bool) [8, 9] rfl (fun x => [(3, [], .bool x.2), (10, [], .int .i64 (x.1 : Int))]) (fun x wr => (x.1 ≤ n ∧ vldP false (ps.map MpV.plain) = vldP x.2 ((ps.map MpV.plain).drop x.1)) ∧ SX.St w [] wr []) (fun x => n - x.1) (0, false) Z.b14 ⟨⟨Nat.zero_le _, rfl⟩, hs⟩ ?_
  clear hs
  rintro ⟨i, d⟩ w3 ⟨⟨hi, hV⟩, hs⟩
  refine Z.only [3, 8, 9, 10] rfl ?_
  (try dsimp only at hs)
  dsimp only at hi hV
  refine Z.g120 ?_
  refine Z.only [3, 8, 9, 10, 11] rfl ?_
  refine Z.g150 ?_
  refine Z.cond rfl (fun hc3 => ?_) (fun hc3 => ?_)
  · (try simp at hc3)
    obtain ⟨b, off, rfl, hb0, hx2⟩ := Z.Sl.some hx Z.b66
    obtain ⟨q, hqi⟩ : ∃ q, ps[i]? = some q := ⟨_, List.getElem?_eq_getElem Z.b9⟩
    rw [plain_at hqi] at hV
    have hone := mp_one q
    have e1 : q.plain.1 = q.lc := rfl
    have e2 : q.plain.2 = q.l := rfl
    rw [vldP_cons, e1, e2] at hV
    refine Z.g238 ?_
    refine Z.g41 ?_
    refine Z.g254 ?_
    clear hs; intro g5 w5 hs
    refine Z.g124 ?_
    clear hs; intro ws hs
    replace hs := Z.w0 hs
    replace hs := Z.w3 hs
    refine Z.g314 ?_
    refine Z.only [3, 5, 8, 9, 10] rfl ?_
    refine Z.g263 ?_
    refine Z.ZO.call rfl rfl (by rfl) rfl rfl Tryz.call163 rfl (mc_Control q.lc _) ?_
    rintro v5_2 w5_2 ⟨rfl, hy⟩
    replace hs := Z.w1 (hs.call hy); clear hy
    refine Z.g212 ?_
    refine Z.only [3, 5, 6, 7, 8, 9, 10] rfl ?_
    refine Z.g210 ?_
    refine Z.g0 ?_
    refine Z.g97 ?_
    refine Z.g3 ?_
    refine Z.ZO.call rfl rfl (by rfl) rfl rfl Tryz.call164 rfl (mc_sdu q.lc _) ?_
    rintro v6_2 w6_2 ⟨rfl, hy⟩
    replace hs := Z.w1 (hs.call hy); clear hy
    refine Z.g1 ?_
    refine Z.only [3, 5, 6, 7, 8, 9, 10, 20] rfl ?_
    refine Z.g313 ?_
    refine Z.cond rfl (fun hc6 => ?_) (fun hc6 => ?_)
    · (try simp at hc6)
      have hsd : sduB q.lc := by assumption
      rw [if_pos hsd] at hV
      refine Z.g120 ?_
      refine Z.only [3, 5, 8, 9, 10] rfl ?_
      refine Z.g30 ?_
      refine Z.g201 ?_
      refine Z.g22 ?_
      refine Z.g201 ?_
      refine Z.g31 ?_
      refine Z.only [3, 8, 9, 10, 33] rfl ?_
      refine Z.g313 ?_
      refine Z.cond rfl (fun hc8 => ?_) (fun hc8 => ?_)
      · (try simp at hc8)
        refine Z.g120 ?_
        refine Z.g33 ?_
        repeat (first | refine Z.rthen ?_ | refine Z.rblock ?_ | refine Z.rscope ?_)
        refine Z.g52 ?_
        exact ⟨_, rfl, by rw [hV, decide_eq_false Z.b9, Bool.false_and], hs.sub (List.nil_sublist _)⟩
      (try simp at hc8)
      refine Z.g71 ?_
      refine Z.g180 ?_
      refine Z.only [3, 8, 9, 10] rfl ?_
      refine Z.g313 ?_
      exact Z.again (i + 1, true) Z.b10 ⟨⟨by simp only; omega, by rw [hV, decide_eq_true Z.b9, Bool.true_and]⟩, hs.sub (List.nil_sublist _)⟩ Z.b21
    (try simp at hc6)
    have hsd : ¬ sduB q.lc := by assumption
    rw [if_neg hsd] at hV
    refine Z.g0 ?_
    refine Z.lb 6 rfl ?_
    refine Z.g201 ?_
    refine Z.lb 4 rfl ?_
    refine Z.g314 ?_
    refine Z.only [3, 8, 9, 10, 34] rfl ?_
    refine Z.g313 ?_
    refine Z.cond rfl (fun hc10 => ?_) (fun hc10 => ?_)
    · (try simp at hc10)
      refine Z.g120 ?_
      refine Z.g33 ?_
      repeat (first | refine Z.rthen ?_ | refine Z.rblock ?_ | refine Z.rscope ?_)
      refine Z.g52 ?_
      exact ⟨_, rfl, by rw [hV]; rcases hc10 with (h | h) | h <;> simp [h], hs.sub (List.nil_sublist _)⟩
    (try simp at hc10)
    refine Z.g71 ?_
    refine Z.g180 ?_
    refine Z.only [3, 8, 9, 10] rfl ?_
    refine Z.g313 ?_
    exact Z.again (i + 1, d) Z.b10 ⟨⟨by simp only; omega, by rw [hV]; simp_all⟩, hs.sub (List.nil_sublist _)⟩ Z.b21
  (try simp at hc3)
  refine Z.g211 ?_
  refine Z.g154 ?_
  refine Z.g52 ?_
  obtain rfl : i = n := by omega
  rw [List.drop_of_length_le Z.b41] at hV
  exact ⟨_, rfl, by rw [hV]; rfl, hs⟩
theorem mc_formats (w : World) : Calls Tryz.prog 126 #[] w (SX.Ret fun v w' => v = .agg #[.int .u64 0, .int .i64 7, .int .i64 127, .int .u64 1, .int .i64 15, .int .i64 32767] ∧ SX.St w [] w' []) := by
  have hs := SX.St.start w
  refine Z.enter Tryz.func126 rfl Tryz.ntmps126 rfl rfl ?_
  refine Z.g230 ?_
  refine Z.ZO.alloc rfl rfl (by rfl) Tryz.zeroValue216 rfl hs ?_
  clear hs; intro g0 w0 hs
  refine Z.g314 ?_
  refine Z.g82 ?_
  refine Z.g30 ?_
  refine Z.l rfl rfl (by rfl) (Z.keepS hs) (Z.Yd.buildL [(0, 1), (1, 1), (2, 1)] [.int .u64 0, .int .i64 0, .int .i64 0] rfl rfl Z.b15) ?_
  refine Z.l rfl rfl (by rfl) (Z.keepS hs) (Z.Yd.buildL [(0, 1), (1, 1), (2, 1)] [.int .u64 0, .int .i64 0, .int .i64 0] rfl rfl Z.b15) ?_
  refine Z.l rfl rfl (by rfl) (Z.keepS hs) (Z.Yd.buildL [(0, 3), (3, 3)] [.int .u64 0, .int .i64 0, .int .i64 0, .int .u64 0, .int .i64 0, .int .i64 0] rfl rfl Z.b15) ?_
  refine Z.g124 ?_
  clear hs; intro ws hs
  replace hs := Z.w0 hs
  replace hs := Z.w3 hs
  refine Z.g314 ?_
  refine Z.g82 ?_
  refine Z.g6 ?_
  refine Z.out1 (by exact ⟨⟨_, rfl, Z.rvcA hs Tryz.isAgg216 Z.b0 (by exact Tryz.sizeOf216)⟩, trivial⟩) ?_
  exact ⟨_, rfl, rfl, hs.sub (List.nil_sublist _)⟩
theorem mc_extra (q : MpV) (w : World) : Calls Tryz.prog 125 #[.agg q.cells.toArray] w (SX.Ret fun v w' => v = .int .i64 (extP q.plain) ∧ SX.St w [] w' []) := by
  have hs := SX.St.start w
  have e1 : q.plain.1 = q.lc := rfl
  have e2 : q.plain.2 = q.l := rfl
  show Calls Tryz.prog 125 #[.agg #[.int .i64 q.lc, .slice q.B q.l.length q.c]] w _
  unfold extP
  rw [e1, e2]
  refine Z.enter Tryz.func125 rfl Tryz.ntmps125 rfl rfl ?_
  refine Z.g90 ?_
  clear hs; intro g1 w1 hs
  refine Z.g1 ?_
  refine Z.only [1] rfl ?_
  refine Z.g60 ?_
  refine Z.g97 ?_
  refine Z.g3 ?_
  refine Z.ZO.call rfl rfl (by rfl) rfl rfl Tryz.call164 rfl (mc_sdu q.lc _) ?_
  rintro v1_2 w1_2 ⟨rfl, hy⟩
  replace hs := Z.w1 (hs.call hy); clear hy
  refine Z.g1 ?_
  refine Z.only [1, 6] rfl ?_
  refine Z.g313 ?_
  refine Z.cond rfl (fun hc1 => ?_) (fun hc1 => ?_)
  · (try simp at hc1)
    have hsd : ¬ sduB q.lc := by assumption
    rw [if_neg hsd]
    refine Z.g120 ?_
    refine Z.g33 ?_
    repeat (first | refine Z.rthen ?_ | refine Z.rblock ?_ | refine Z.rscope ?_)
    refine Z.g52 ?_
    exact ⟨_, rfl, rfl, hs.sub (List.nil_sublist _)⟩
  (try simp at hc1)
  have hsd : sduB q.lc := by assumption
  rw [if_pos hsd]
  refine Z.skip ?_
  refine Z.g150 ?_
  refine Z.seq ?_
  refine Z.drawL [SX.Ent.blk g1 77 #[.int .i64 q.lc, .slice q.B q.l.length q.c]] (fun _ => true) mixed hs ?_
  clear hs; intro wd3 hs
  refine Z.g145 ?_
  refine Z.t 1 rfl rfl rfl (by rfl) Z.b4 ⟨_, hs, Z.b2⟩ Z.b28 ?_
  refine Z.t 2 rfl rfl rfl (by rfl) Z.b4 ⟨_, hs, Z.b2⟩ (Z.Yd.lenS rfl Tryz.underlying48) ?_
  refine Z.tn 3 rfl rfl Z.b4 rfl trivial ?_
  refine Z.g55 ?_
  rintro v3_3 w3_3 ⟨rfl, hy⟩
  replace hs := Z.w1 (hs.call hy); clear hy
  refine Z.tk (Dn := fun _ => true) (i := 3) (fun _ => ⟨_, hs, Z.b2⟩) ?_
  refine Z.t 4 rfl rfl rfl (by rfl) Z.b4 ⟨_, hs, Z.b2⟩ (Z.Yd.index (v := .agg #[.int .u64 0, .int .i64 7, .int .i64 127]) rfl rfl Z.b46) ?_
  refine Z.t 5 rfl rfl rfl (by rfl) Z.b4 ⟨_, hs, Z.b2⟩ (by exact Z.Yd.fieldL 2 1 rfl rfl Z.b15) ?_
  refine Z.tb [6] Z.b4 rfl ⟨_, hs, Z.b2⟩ rfl ?_
  refine Z.g68 ?_
  refine Z.only [13] rfl ?_
  refine Z.g313 ?_
  refine Z.cond rfl (fun hc3 => ?_) (fun hc3 => ?_)
  · (try simp at hc3)
    refine Z.g120 ?_
    refine Z.g33 ?_
    repeat (first | refine Z.rthen ?_ | refine Z.rblock ?_ | refine Z.rscope ?_)
    refine Z.g52 ?_
    exact ⟨_, rfl, by rw [if_pos Z.b9], hs.sub (List.nil_sublist _)⟩
  (try simp at hc3)
  refine Z.g151 ?_
  refine Z.g154 ?_
  refine Z.g52 ?_
  exact ⟨_, rfl, by rw [if_neg Z.b9], hs.sub (List.nil_sublist _)⟩
theorem mc_total (A : Option Addr) (n c : Nat) (ps : List MpV) (w : World) (hx : Sl w A (ps.flatMap MpV.cells)) (hl : ps.length = n) (hn : n ≤ 1000) (hf : ∀ q ∈ ps, q.l.length ≤ 100000) :
    Calls Tryz.prog 169 #[.slice A n c] w (SX.Ret fun v w' => v = .int .i64 (totP (ps.map MpV.plain)) ∧ SX.St w [] w' []) := by
  have hs := SX.St.start w
  refine Z.enter Tryz.func169 rfl Tryz.ntmps169 rfl rfl ?_
  refine Z.g120 ?_
  refine Z.only [0, 2] rfl ?_
  refine Z.g123 ?_
  refine Z.g258 ?_
  refine Z.only [2, 5, 6, 7] rfl ?_
  refine Z.g210 ?_
  refine Z.loopk (ι := Nat) [5, 6] rfl (fun i => [(2, [], .int .i64 (totP ((ps.map MpV.plain).take i))), (7, [], .int .i64 (i : Int))]) (fun i wr => i ≤ n ∧ SX.St w [] wr []) (fun i => n - i) 0 Z.b14 ⟨Nat.zero_le _, hs⟩ ?_
  clear hs
  rintro i w3 ⟨hi, hs⟩
  refine Z.only [2, 5, 6, 7] rfl ?_
  refine Z.g120 ?_
  refine Z.only [2, 5, 6, 7, 8] rfl ?_
  refine Z.g150 ?_
  refine Z.cond rfl (fun hc2 => ?_) (fun hc2 => ?_)
  · (try simp at hc2)
    obtain ⟨b, off, rfl, hb0, hx2⟩ := Z.Sl.some hx Z.b66
    obtain ⟨q, hqi⟩ : ∃ q, ps[i]? = some q := ⟨_, List.getElem?_eq_getElem Z.b9⟩
    have htk := plain_take hqi
    have hone := mp_one q
    have hq1 := hf q (List.mem_of_getElem? hqi)
    have hq2 := extP_bd q.plain
    have e2 : q.plain.2 = q.l := rfl
    have hbd := totP_bd (ps := ps.take i) fun x hx => hf x (List.mem_of_mem_take hx)
    rw [List.map_take, List.length_take] at hbd
    have hmn : (((min i ps.length : Nat)) : Int) ≤ 1000 := by omega
    refine Z.g238 ?_
    refine Z.g41 ?_
    refine Z.g254 ?_
    clear hs; intro g4 w4 hs
    refine Z.g124 ?_
    clear hs; intro ws hs
    replace hs := Z.w0 hs
    replace hs := Z.w3 hs
    refine Z.g314 ?_
    refine Z.only [2, 4, 5, 6, 7] rfl ?_
    refine Z.g313 ?_
    refine Z.drawL [SX.Ent.blk g4 77 q.cells.toArray] (fun _ => true) mixed hs ?_
    clear hs; intro wd4 hs
    refine Z.tb [0] Z.b4 rfl ⟨_, hs, Z.b2⟩ rfl ?_
    refine Z.t 1 rfl rfl rfl (by rfl) Z.b4 ⟨_, hs, Z.b2⟩ (Z.Yd.loadA _ rfl Tryz.isAgg77 (fun _ => Z.cellsB (cs := MpV.cells q) Z.b0) Z.b18) ?_
    refine Z.t 4 rfl rfl rfl (by rfl) Z.b4 ⟨_, hs, Z.b2⟩ (Z.Yd.fieldA (m := 1) rfl Z.b4) ?_
    refine Z.t 5 rfl rfl rfl (by rfl) Z.b4 ⟨_, hs, Z.b2⟩ (Z.Yd.load rfl Tryz.isAgg48 (fun _ => Z.cellB (cs := q.cells.toArray) Z.b0 rfl)) ?_
    refine Z.t 6 rfl rfl rfl (by rfl) Z.b4 ⟨_, hs, Z.b2⟩ (Z.Yd.lenS rfl Tryz.underlying48) ?_
    refine Z.g141 ?_
    refine Z.ZO.call rfl rfl (by rfl) rfl rfl Tryz.call125 rfl (mc_extra q _) ?_
    rintro v4_2 w4_2 ⟨rfl, hy⟩
    replace hs := Z.w1 (hs.call hy); clear hy
    refine Z.g37 ?_
    refine Z.t 3 rfl rfl rfl (by rfl) Z.b4 ⟨_, hs, Z.b2⟩ (Z.Yd.add rfl rfl (fun hG => Z.wi64 Z.b3)) ?_
    refine Z.t 7 rfl rfl rfl (by rfl) Z.b4 ⟨_, hs, Z.b2⟩ (Z.Yd.add rfl rfl (fun hG => Z.wi64 Z.b3)) ?_
    refine Z.t 8 rfl rfl rfl (by rfl) Z.b4 ⟨_, hs, Z.b2⟩ (Z.Yd.add rfl rfl (fun hG => Z.wi64 Z.b3)) ?_
    refine Z.tb [9] Z.b4 rfl ⟨_, hs, Z.b2⟩ rfl ?_
    refine Z.g68 ?_
    refine Z.only [2, 5, 6, 7] rfl ?_
    refine Z.g180 ?_
    refine Z.only [2, 5, 6, 7] rfl ?_
    refine Z.g313 ?_
    exact Z.again (i + 1) (by refine ⟨?_, ?_, ?_, ?_, trivial⟩ <;> first | rfl | (rw [htk, totP_snoc, e2]; rfl)) ⟨by omega, hs.sub (List.nil_sublist _)⟩ Z.b9
  (try simp at hc2)
  refine Z.g211 ?_
  refine Z.g31 ?_
  refine Z.g33 ?_
  refine Z.g52 ?_
  obtain rfl : i = n := by omega
  exact ⟨_, rfl, by rw [List.take_of_length_le Z.b41], hs⟩
end Go.Proofs.YtbojkoiopkaciaaGreat

/- MAC PDUs: Need, Fit. -/
namespace Go.Proofs.YtbojkoiopkaciaaGreat
open Go.RowKit
set_option linter.unusedSimpArgs false
set_option linter.unusedVariables false
--newlaws

def lastP (r : List Prt) : Prt := r.getLastD (0, [])
def needP (r : List Prt) : Int := totP r - extP (lastP r)
def okN (r : List Prt) : Prop := r ≠ [] ∧ vldP false r = true
instance (r : List Prt) : Decidable (okN r) := by unfold okN; infer_instance
def needV (r : List Prt) : Int × Int := if okN r then (needP r, 0) else (0, 2)
def okFt (size : Int) (r : List Prt) : Prop := (1 ≤ size ∧ size ≤ 16384) ∧ vldP false r = true
instance (size : Int) (r : List Prt) : Decidable (okFt size r) := by unfold okFt; infer_instance
theorem last_plain {ps : List MpV} {q : MpV} (h : ps[ps.length - 1]? = some q) : lastP (ps.map MpV.plain) = q.plain := by
  unfold lastP
  rw [List.getLastD_eq_getLast?, List.getLast?_map, List.getLast?_eq_getElem?, h]
  rfl
theorem mc_need (A : Option Addr) (n c : Nat) (ps : List MpV) (w : World) (hx : Sl w A (ps.flatMap MpV.cells)) (hl : ps.length = n) (hn : 1 ≤ n ∧ n ≤ 1000) (hf : ∀ q ∈ ps, q.l.length ≤ 100000) :
    Calls Tryz.prog 120 #[.slice A n c] w (SX.Ret fun v w' => v = .int .i64 (needP (ps.map MpV.plain)) ∧ SX.St w [] w' []) := by
  have hs := SX.St.start w
  obtain ⟨b, off, rfl, hb0, hx2⟩ := Z.Sl.some hx Z.b66
  obtain ⟨q, hqi⟩ : ∃ q, ps[n - 1]? = some q := ⟨_, List.getElem?_eq_getElem Z.b9⟩
  have hlast := last_plain (ps := ps) (q := q) (by rw [hl]; exact hqi)
  have hbd := totP_bd hf
  have hex := extP_bd q.plain
  have e1 : ((n : Int) - 1) = ((n - 1 : Nat) : Int) := by omega
  refine Z.enter Tryz.func120 rfl Tryz.ntmps120 rfl rfl ?_
  refine Z.g155 ?_
  refine Z.g313 ?_
  refine Z.g99 ?_
  clear hs; intro wd1 hs
  refine Z.tb [0, 2, 3] Z.b4 rfl ⟨_, hs, Z.b2⟩ rfl ?_
  refine Z.t 4 rfl rfl rfl (by rfl) Z.b4 ⟨_, hs, Z.b2⟩ (Z.Yd.lenS rfl Tryz.underlying47) ?_
  refine Z.t 5 rfl rfl rfl (by rfl) Z.b4 ⟨_, hs, Z.b2⟩ (Z.Yd.sub rfl rfl (fun hG => Z.wi64 Z.b3)) ?_
  refine Z.t 6 rfl rfl rfl (by rfl) Z.b4 ⟨_, hs, Z.b2⟩ (Z.Yd.elem rfl rfl Tryz.underlying47 Tryz.sizeOf77 (fun hG => ⟨Z.b3, Z.b3⟩)) ?_
  refine Z.t 7 rfl rfl rfl (by rfl) Z.b4 ⟨_, hs, Z.b2⟩ (Z.Yd.loadA _ rfl Tryz.isAgg77 (fun _ W hK j u hu => by rw [e1] ; exact Z.cellXq (enc := MpV.cells) hx2.sx mp_len hqi hu W hK) Z.b18) ?_
  refine Z.tn 1 rfl rfl Z.b4 rfl trivial ?_
  refine Z.ZO.call rfl rfl (by rfl) rfl rfl Tryz.call169 rfl (mc_total _ n c ps _ (hx.st hs) hl Z.b9 hf) ?_
  rintro v1_1 w1_1 ⟨rfl, hy⟩
  replace hs := Z.w1 (hs.call hy); clear hy
  refine Z.tk (Dn := fun _ => true) (i := 1) (fun _ => ⟨_, hs, Z.b2⟩) ?_
  refine Z.tn 8 rfl rfl Z.b4 rfl trivial ?_
  refine Z.ZO.call rfl rfl (by rfl) rfl rfl Tryz.call125 rfl (mc_extra q _) ?_
  rintro v1_8 w1_8 ⟨rfl, hy⟩
  replace hs := Z.w1 (hs.call hy); clear hy
  refine Z.tk (Dn := fun _ => true) (i := 8) (fun _ => ⟨_, hs, Z.b2⟩) ?_
  refine Z.t 9 rfl rfl rfl (by rfl) Z.b4 ⟨_, hs, Z.b2⟩ (Z.Yd.sub rfl rfl (fun hG => Z.wi64 Z.b3)) ?_
  refine Z.tb [10] Z.b4 rfl ⟨_, hs, Z.b2⟩ rfl ?_
  refine Z.g68 ?_
  refine Z.g33 ?_
  refine Z.g52 ?_
  exact ⟨_, rfl, by unfold needP; rw [hlast], hs⟩
theorem mc_Need (A : Option Addr) (n c : Nat) (ps : List MpV) (w : World) (hx : Sl w A (ps.flatMap MpV.cells)) (hl : ps.length = n) (hn : n ≤ 1000) (hf : ∀ q ∈ ps, q.l.length ≤ 100000) :
    Calls Tryz.prog 66 #[.slice A n c] w (SX.Ret fun v w' => v = .tuple #[.int .i64 (needV (ps.map MpV.plain)).1, .int .i64 (needV (ps.map MpV.plain)).2] ∧ SX.St w [] w' []) := by
  have hs := SX.St.start w
  have hne : ps.map MpV.plain ≠ [] ↔ n ≠ 0 := by rw [← hl]; simp
  refine Z.enter Tryz.func66 rfl Tryz.ntmps66 rfl rfl ?_
  refine Z.g152 ?_
  refine Z.g82 ?_
  refine Z.g123 ?_
  refine Z.g25 ?_
  refine Z.g22 ?_
  refine Z.split (s := 7) rfl (fun hsp7 => ?_) (fun hsp7 => ?_)
  · refine Z.yes (s := 7) (b := true) rfl hsp7 rfl ?_
    (try simp at hsp7)
    refine Z.g2 ?_
    refine Z.g15 ?_
    refine Z.g314 ?_
    refine Z.only [0, 11] rfl ?_
    refine Z.g313 ?_
    refine Z.cond rfl (fun hc1 => ?_) (fun hc1 => ?_)
    · (try simp at hc1)
      have hno : ¬ okN (ps.map MpV.plain) := by rintro ⟨h1, h2⟩; rw [hne] at h1; first | omega | simp_all
      rw [show needV (ps.map MpV.plain) = (0, 2) from if_neg hno]
      refine Z.g152 ?_
      refine Z.g126 ?_
      repeat (first | refine Z.rthen ?_ | refine Z.rblock ?_ | refine Z.rscope ?_)
      refine Z.out2 Z.b22 ?_
      exact ⟨_, rfl, rfl, hs⟩
    (exfalso; simp at hc1 <;> omega)
  refine Z.yes (s := 7) (b := false) rfl hsp7 rfl ?_
  (try simp at hsp7)
  refine Z.g64 ?_
  refine Z.yes (s := 7) (b := false) rfl rfl rfl ?_
  refine Z.g117 ?_
  refine Z.ZO.call rfl rfl (by rfl) rfl rfl Tryz.call119 rfl (mc_valid A n c ps _ hx hl Z.b9) ?_
  rintro v1_5 w1_5 ⟨rfl, hy⟩
  replace hs := Z.w1 (hs.call hy); clear hy
  refine Z.g64 ?_
  refine Z.yes (s := 7) (b := false) rfl rfl rfl ?_
  refine Z.g13 ?_
  refine Z.g314 ?_
  refine Z.only [0, 11] rfl ?_
  refine Z.g313 ?_
  refine Z.cond rfl (fun hc1 => ?_) (fun hc1 => ?_)
  · (try simp at hc1)
    have hno : ¬ okN (ps.map MpV.plain) := by rintro ⟨h1, h2⟩; rw [hne] at h1; first | omega | simp_all
    rw [show needV (ps.map MpV.plain) = (0, 2) from if_neg hno]
    refine Z.g152 ?_
    refine Z.g126 ?_
    repeat (first | refine Z.rthen ?_ | refine Z.rblock ?_ | refine Z.rscope ?_)
    refine Z.out2 Z.b22 ?_
    exact ⟨_, rfl, rfl, hs⟩
  (try simp at hc1)
  have hok : okN (ps.map MpV.plain) := ⟨by rw [hne]; omega, by simp_all⟩
  rw [show needV (ps.map MpV.plain) = (needP (ps.map MpV.plain), 0) from if_pos hok]
  refine Z.g151 ?_
  refine Z.g32 ?_
  refine Z.ZO.call rfl rfl (by rfl) rfl rfl Tryz.call120 rfl (mc_need A n c ps _ (hx.st hs) hl Z.b9 hf) ?_
  rintro v3_1 w3_1 ⟨rfl, hy⟩
  replace hs := Z.w1 (hs.call hy); clear hy
  refine Z.g31 ?_
  refine Z.g126 ?_
  refine Z.out2 Z.b22 ?_
  exact ⟨_, rfl, rfl, hs⟩
end Go.Proofs.YtbojkoiopkaciaaGreat

/- MAC PDUs: the document's Valid, join. -/
namespace Go.Proofs.YtbojkoiopkaciaaGreat
open Go.RowKit
set_option linter.unusedSimpArgs false
set_option linter.unusedVariables false
--newlaws

def lenF (n : Nat) : List Int := if n ≤ 127 then [(n : Int)] else [128 + (n : Int) / 256, (n : Int) % 256]
theorem lenF_bd {n : Nat} (h : n ≤ 32767) : (∀ x ∈ lenF n, 0 ≤ x ∧ x < 256) ∧ (lenF n).length ≤ 2 := by
  unfold lenF
  split
  · refine ⟨fun x hx => ?_, by simp⟩
    obtain rfl : x = n := by simpa using hx
    omega
  refine ⟨fun x hx => ?_, by simp⟩
  simp at hx
  rcases hx with rfl | rfl <;> omega
def hdsR : List Prt → Bool → List Int
  | [], _ => []
  | p :: r, a => (if r.isEmpty && !a then [p.1] else (p.1 + 32) :: (if sduB p.1 then lenF p.2.length else [])) ++ hdsR r a
def datR (r : List Prt) : List Int := r.flatMap (·.2)
def joinB (r : List Prt) (front : Nat) (after : Int) : List Int :=
  List.replicate front 63 ++ hdsR r (decide (0 ≤ after)) ++ (if 0 ≤ after then [31] else []) ++ (datR r ++ if 0 ≤ after then List.replicate after.toNat 0 else [])
theorem vldP_mem : ∀ {r : List Prt} {d : Bool}, vldP d r = true → ∀ p ∈ r, (1 ≤ p.1 ∧ p.1 ≤ 30) ∧ p.2.length ≤ 32767
  | [], _, _, p, hp => by cases hp
  | q :: r, d, h, p, hp => by
    rw [vldP_cons] at h
    rcases List.mem_cons.1 hp with rfl | hp
    · by_cases hs : sduB p.1
      · rw [if_pos hs] at h
        simp at h
        unfold sduB at hs
        omega
      rw [if_neg hs] at h
      simp at h
      have h2 := h.1
      have h3 := ctlN_bd p.1
      refine ⟨?_, by omega⟩
      unfold ctlN at h2
      split at h2
      · omega
      split at h2
      · omega
      split at h2
      · omega
      split at h2
      · omega
      simp at h2
    by_cases hs : sduB q.1
    · rw [if_pos hs] at h
      simp at h
      exact vldP_mem h.2 p hp
    rw [if_neg hs] at h
    simp at h
    exact vldP_mem h.2 p hp
end Go.Proofs.YtbojkoiopkaciaaGreat

/- MAC PDUs: the document's join. -/
namespace Go.Proofs.YtbojkoiopkaciaaGreat
open Go.RowKit
set_option linter.unusedSimpArgs false
set_option linter.unusedVariables false
--newlaws

theorem hdsR_cons (p : Prt) (r : List Prt) (a : Bool) : hdsR (p :: r) a = (if r.isEmpty && !a then [p.1] else (p.1 + 32) :: (if sduB p.1 then lenF p.2.length else [])) ++ hdsR r a := rfl
theorem datR_snoc (r : List Prt) (p : Prt) : datR (r ++ [p]) = datR r ++ p.2 := by simp [datR]
theorem drop_empty {ps : List MpV} {i n : Nat} (hl : ps.length = n) (hi : i < n) : ((ps.map MpV.plain).drop (i + 1)).isEmpty = decide ((i : Int) = (n : Int) - 1) := by
  rw [Bool.eq_iff_iff]
  simp [List.isEmpty_iff]
  omega
end Go.Proofs.YtbojkoiopkaciaaGreat

/- Bits of whole bytes. -/
namespace Go.Proofs.YtbojkoiopkaciaaGreat
open Go.RowKit
set_option linter.unusedSimpArgs false
set_option linter.unusedVariables false
--newlaws

theorem elt_gt {l : List Int} {i : Nat} (h : i < l.length) : elt l (i : Int) = l[i] := by simp [elt, h]
theorem fld_app (v : Nat) : ∀ a b, fld v (a + b) = fld (v / 2 ^ b) a ++ fld v b
  | 0, b => by simp [fld]
  | a + 1, b => by
    rw [show a + 1 + b = (a + b) + 1 from by omega]
    simp only [fld, List.cons_append]
    rw [fld_app v a b, Nat.testBit_div_two_pow]
theorem fld_mod (v : Nat) : ∀ b c, b ≤ c → fld (v % 2 ^ c) b = fld v b
  | 0, c, _ => rfl
  | b + 1, c, h => by
    simp only [fld]
    rw [fld_mod v b c Z.b9, Nat.testBit_mod_two_pow]
    simp [show b < c from by omega]
set_option maxRecDepth 100000 in
theorem byte_bits : ∀ x : Fin 256, 128 * (x.val.testBit 7).toNat + 64 * (x.val.testBit 6).toNat + 32 * (x.val.testBit 5).toNat + 16 * (x.val.testBit 4).toNat + 8 * (x.val.testBit 3).toNat + 4 * (x.val.testBit 2).toNat + 2 * (x.val.testBit 1).toNat + (x.val.testBit 0).toNat = x.val := by decide
theorem bn_unb {l : List Int} {j i : Nat} (hj : j < l.length) (hi : i < 8) : bn (unb l) (8 * j + i) = ((elt l (j : Int)).toNat.testBit (7 - i)).toNat := by
  have h := unb_get (l := l) (k := 8 * j + i) Z.b9
  unfold bn bt
  rw [List.getD_eq_getElem?_getD, h]
  rw [show (((8 * j + i : Nat) : Int) / 8) = (j : Int) from by omega, show (8 * j + i) % 8 = i from by omega]
  rfl
theorem pk_unb {l : List Int} (hb : ∀ x ∈ l, 0 ≤ x ∧ x < 256) : pk (unb l) = l := by
  have hl := unb_length l
  refine List.ext_getElem (by rw [pk_length, hl]; omega) fun j h1 h2 => ?_
  have hj : j < l.length := h2
  have e1 : elt (pk (unb l)) (j : Int) = (byt (unb l) j : Int) := by unfold pk; exact elt_pkn (by rw [hl]; omega)
  rw [← elt_gt h1, ← elt_gt h2, e1]
  have hx := hb _ (List.getElem_mem hj)
  rw [← elt_gt hj] at hx
  generalize hv : elt l (j : Int) = v at hx
  have hbits := byte_bits ⟨v.toNat, by omega⟩
  unfold byt
  have e0 : bn (unb l) (8 * j) = ((elt l (j : Int)).toNat.testBit 7).toNat := bn_unb (i := 0) hj Z.b9
  rw [e0, bn_unb hj Z.b9, bn_unb hj Z.b9, bn_unb hj Z.b9, bn_unb hj Z.b9, bn_unb hj Z.b9, bn_unb hj Z.b9, bn_unb hj Z.b9, hv]
  simp only [Nat.sub_zero, Nat.reduceSub] at hbits ⊢
  omega
theorem len_short : ∀ x : Fin 128, fld 0 1 ++ fld x.val 7 = fld x.val 8 := by decide
theorem len_long {n : Nat} (h : n < 32768) : fld 1 1 ++ fld n 15 = fld (128 + n / 256) 8 ++ fld (n % 256) 8 := by
  have h1 : fld (32768 + n) (1 + 15) = fld ((32768 + n) / 2 ^ 15) 1 ++ fld (32768 + n) 15 := fld_app _ _ _
  have h2 : fld (32768 + n) (8 + 8) = fld ((32768 + n) / 2 ^ 8) 8 ++ fld (32768 + n) 8 := fld_app _ _ _
  have h3 : (32768 + n) / 2 ^ 15 = 1 := by omega
  have h4 : fld (32768 + n) 15 = fld n 15 := by rw [← fld_mod (32768 + n) 15 15 Z.b9]; congr 1; omega
  have h5 : (32768 + n) / 2 ^ 8 = 128 + n / 256 := by omega
  have h6 : fld (32768 + n) 8 = fld (n % 256) 8 := by rw [← fld_mod (32768 + n) 8 8 Z.b9]; congr 1; omega
  rw [h3, h4] at h1
  rw [h5, h6] at h2
  rw [← h1, ← h2]
end Go.Proofs.YtbojkoiopkaciaaGreat

/- MAC PDUs: the document's Need, Build, Fit. -/
namespace Go.Proofs.YtbojkoiopkaciaaGreat
open Go.RowKit
set_option linter.unusedSimpArgs false
set_option linter.unusedVariables false
--newlaws

theorem lenF_ext {p : Prt} (h : sduB p.1) : ((lenF p.2.length).length : Int) = extP p := by
  unfold lenF extP
  rw [if_pos h]
  by_cases h1 : p.2.length ≤ 127
  · rw [if_pos h1, if_neg Z.b9]; rfl
  rw [if_neg h1, if_pos Z.b9]; rfl
theorem ext_no {p : Prt} (h : ¬ sduB p.1) : extP p = 0 := if_neg h
theorem datR_cons (p : Prt) (r : List Prt) : datR (p :: r) = p.2 ++ datR r := rfl
theorem hds_true : ∀ r : List Prt, ((hdsR r true).length : Int) + ((datR r).length : Int) = totP r
  | [] => rfl
  | p :: r => by
    have ih := hds_true r
    rw [hdsR_cons, totP_cons, datR_cons, if_neg Z.b17, List.length_append, List.length_append, List.length_cons]
    by_cases h : sduB p.1
    · have := lenF_ext h
      rw [if_pos h]
      omega
    rw [if_neg h, ext_no h, List.length_nil]
    omega
theorem lastP_cons {p : Prt} {r : List Prt} (h : r ≠ []) : lastP (p :: r) = lastP r := by
  unfold lastP
  cases r with
  | nil => exact absurd rfl h
  | cons a l => rfl
theorem hds_false : ∀ r : List Prt, r ≠ [] → ((hdsR r false).length : Int) + ((datR r).length : Int) = needP r
  | [], h => absurd rfl h
  | [p], _ => by
    unfold needP
    rw [hdsR_cons, totP_cons, datR_cons, if_pos Z.b17]
    simp [hdsR, datR, totP, lastP]
    omega
  | p :: a :: r, _ => by
    have ih := hds_false (a :: r) Z.b17
    unfold needP at ih ⊢
    rw [lastP_cons Z.b17]
    rw [hdsR_cons, totP_cons, datR_cons, if_neg Z.b17, List.length_append, List.length_append, List.length_cons]
    by_cases h : sduB p.1
    · have := lenF_ext h
      rw [if_pos h]
      omega
    rw [if_neg h, ext_no h, List.length_nil]
    omega
def bldV (size : Int) (r : List Prt) : List Int × Int :=
  if ¬ ((1 ≤ size ∧ size ≤ 16384) ∧ okN r) then ([], 2)
  else if size - needP r < 0 then ([], 4)
  else if size - needP r ≤ 2 then (joinB r (size - needP r).toNat (-1), 0)
  else (joinB r 0 (size - (totP r + 1)), 0)
theorem bld_arg {size : Int} {r : List Prt} (h : ¬ ((1 ≤ size ∧ size ≤ 16384) ∧ okN r)) : bldV size r = ([], 2) := if_pos h
theorem bld_long {size : Int} {r : List Prt} (h : (1 ≤ size ∧ size ≤ 16384) ∧ okN r) (h2 : size - needP r < 0) : bldV size r = ([], 4) := by unfold bldV; rw [if_neg (fun hh => hh h), if_pos h2]
theorem bld_few {size : Int} {r : List Prt} {d : Nat} (h : (1 ≤ size ∧ size ≤ 16384) ∧ okN r) (h2 : size - needP r = (d : Int)) (h3 : d ≤ 2) : bldV size r = (joinB r d (-1), 0) := by
  unfold bldV
  rw [if_neg (fun hh => hh h), if_neg Z.b9, if_pos Z.b9, h2, Int.toNat_natCast]
theorem bld_pad {size : Int} {r : List Prt} (h : (1 ≤ size ∧ size ≤ 16384) ∧ okN r) (h2 : 2 < size - needP r) : bldV size r = (joinB r 0 (size - (totP r + 1)), 0) := by
  unfold bldV
  rw [if_neg (fun hh => hh h), if_neg Z.b9, if_neg Z.b9]
theorem need_tot (r : List Prt) : totP r - 2 ≤ needP r ∧ needP r ≤ totP r := by
  have := extP_bd (lastP r)
  unfold needP
  omega
end Go.Proofs.YtbojkoiopkaciaaGreat

/- MAC PDUs: errors, the writer of subheaders. -/
namespace Go.Proofs.YtbojkoiopkaciaaGreat
open Go.RowKit
set_option linter.unusedSimpArgs false
set_option linter.unusedVariables false
--newlaws

def mperr (e : Int) : List PanicEntry := Z.pe (.iface 31 (.int .i64 e))
def MPan (e : Int) (Φ : World → Prop) : Ending → World → Prop := Z.Pan fun c w' => c = mperr e ∧ Φ w'
theorem mm_must_ok (b : Bool) (e : Int) (w : World) (hb : b = true) : Calls Tryz.prog 109 #[.bool b, .int .i64 e] w (SX.Ret fun v w' => v = .tuple #[] ∧ SX.St w [] w' []) := by
  have hs := SX.St.start w
  subst hb
  refine Z.enter Tryz.func109 rfl Tryz.ntmps109 rfl rfl ?_
  refine Z.g249 ?_
  refine Z.cond rfl (fun h => absurd h Z.b17) (fun hc0 => ?_)
  refine Z.skip ?_
  refine Z.g128 ?_
  exact ⟨_, rfl, rfl, hs⟩
theorem mm_must_bad (b : Bool) (e : Int) (w : World) (hb : b = false) : Calls Tryz.prog 109 #[.bool b, .int .i64 e] w (MPan e fun w' => SX.St w [] w' []) := by
  have hs := SX.St.start w
  subst hb
  refine Z.enter Tryz.func109 rfl Tryz.ntmps109 rfl rfl ?_
  refine Z.g249 ?_
  refine Z.cond rfl (fun hc0 => ?_) (fun h => absurd h Z.b17)
  refine Z.g233 ?_
  refine Z.g3 ?_
  refine Z.ZO.panic rfl rfl ?_
  refine Z.outp ?_
  exact ⟨_, rfl, rfl, hs⟩
theorem mm_goti_ok (x : Int) (w : World) : Calls Tryz.prog 122 #[.int .i64 x, .int .i64 0] w (SX.Ret fun v w' => v = .int .i64 x ∧ SX.St w [] w' []) := by
  have hs := SX.St.start w
  refine Z.enter Tryz.func122 rfl Tryz.ntmps122 rfl rfl ?_
  refine Z.g213 ?_
  refine Z.ZO.call rfl rfl (by rfl) rfl rfl Tryz.call109 rfl (mm_must_ok _ 0 _ Z.b17) ?_
  rintro v1_3 w1_3 ⟨rfl, hy⟩
  replace hs := Z.w1 (hs.call hy); clear hy
  refine Z.g181 ?_
  refine Z.g52 ?_
  exact ⟨_, rfl, rfl, hs⟩
theorem mm_goti_bad (x e : Int) (w : World) (he : e ≠ 0) : Calls Tryz.prog 122 #[.int .i64 x, .int .i64 e] w (MPan e fun w' => SX.St w [] w' []) := by
  have hs := SX.St.start w
  refine Z.enter Tryz.func122 rfl Tryz.ntmps122 rfl rfl ?_
  refine Z.g213 ?_
  refine Z.ZO.callP rfl rfl rfl Tryz.call109 rfl (mm_must_bad _ e _ (by simpa using he)) ?_
  rintro c1_3 w1_3 ⟨rfl, hy⟩
  replace hs := Z.w1 (hs.call hy); clear hy
  repeat (first | refine Z.pthen ?_ | refine Z.pblock ?_ | refine Z.pscope ?_)
  refine Z.outp ?_
  exact ⟨_, rfl, rfl, hs⟩
theorem mm_caught_pan (ge Te k : Nat) (cap : Array Value) (x : Value) (e : Int) (L L' : List SX.Ent) (w : World) (hs : SX.St w (SX.idsOf (SX.Ent.blk ge Te #[x] :: L)) w (SX.Ent.blk ge Te #[x] :: L)) (hk : ∀ args w, (callFunc k args).run Tryz.prog w = .ok (.enter k args) w)
    (hcl : ∀ W, SX.St W (SX.idsOf L) W L → Calls Tryz.prog k cap W (SX.Ret fun v w' => v = .tuple #[] ∧ SX.St W (SX.idsOf L) w' L')) :
    CallsDm Tryz.prog 107 #[.pointer (some ⟨ge, 0, none⟩), .func (.func k) #[] cap] (.panicking (mperr e)) (.panicking [{ v := .iface 31 (.int .i64 e), recovered := true }]) w
      (fun v w' => v = .tuple #[] ∧ SX.St w (SX.idsOf (SX.Ent.blk ge Te #[x] :: L)) w' (SX.Ent.blk ge Te #[.int .i64 e] :: L')) := by
  generalize hM : SX.idsOf (SX.Ent.blk ge Te #[x] :: L) = M at *
  refine Z.enterRec (Z.rec_pan _) Tryz.func107 rfl Tryz.ntmps107 rfl rfl rfl rfl rfl rfl rfl rfl rfl rfl ?_
  refine Z.g232 ?_
  refine Z.g313 ?_
  refine Z.cond rfl (fun hc1 => ?_) (fun h => absurd h Z.b17)
  refine Z.g242 ?_
  refine Z.cond rfl (fun h => absurd h Z.b17) (fun hc3 => ?_)
  refine Z.g151 ?_
  refine Z.g148 ?_
  rintro v5 w5 ⟨rfl, hz⟩
  replace hs := SX.St.rot (L2 := [SX.Ent.blk ge Te #[x]]) ((SX.St.regain (L1 := L) (L2 := [SX.Ent.blk ge Te #[x]]) (hs.rot (L1 := [_]))) hz)
  refine Z.g314 ?_
  refine Z.only [0, 5] rfl ?_
  refine Z.g121 ?_
  refine Z.g186 ?_
  refine Z.g237 ?_
  clear hs; intro ws hs
  replace hs := Z.w0 hs
  refine Z.g153 ?_
  refine Z.g128 ?_
  exact ⟨_, rfl, rfl, hs⟩
theorem mm_caught_ret (ge k : Nat) (cap : Array Value) (w : World) :
    CallsDm Tryz.prog 107 #[.pointer (some ⟨ge, 0, none⟩), .func (.func k) #[] cap] .returning .returning w (fun v w' => v = .tuple #[] ∧ SX.St w [] w' []) := by
  have hs := SX.St.start w
  refine Z.enterRec (Z.rec_ret) Tryz.func107 rfl Tryz.ntmps107 rfl rfl rfl rfl rfl rfl rfl rfl rfl rfl ?_
  refine Z.g232 ?_
  refine Z.g313 ?_
  refine Z.cond rfl (fun h => absurd h Z.b17) (fun hc1 => ?_)
  refine Z.skip ?_
  refine Z.g128 ?_
  exact ⟨_, rfl, rfl, hs⟩
theorem mm_clearB (gp T : Nat) (a : Value) (W : World) (hs : SX.St W (SX.idsOf [SX.Ent.blk gp T #[a]]) W [SX.Ent.blk gp T #[a]]) :
    Calls Tryz.prog 121 #[.pointer (some ⟨gp, 0, none⟩)] W (SX.Ret fun v w' => v = .tuple #[] ∧ SX.St W (SX.idsOf [SX.Ent.blk gp T #[a]]) w' [SX.Ent.blk gp T #[.slice none 0 0]]) := by
  generalize SX.idsOf [SX.Ent.blk gp T #[a]] = M at *
  refine Z.enter Tryz.func121 rfl Tryz.ntmps121 rfl rfl ?_
  refine Z.region ?_
  refine Z.g3 ?_
  refine Z.g84 ?_
  clear hs; intro ws hs
  replace hs := Z.w0 hs
  refine Z.g153 ?_
  refine Z.g128 ?_
  exact ⟨_, rfl, rfl, hs⟩
def hdP (x : Nat) (b : Bool) : List (Int × Int) := [(0, 2), (if b then 1 else 0, 1), ((x : Int), 5)]
set_option maxRecDepth 100000 in
theorem hdP_ok : ∀ (x : Fin 32) (b : Bool), (∀ f ∈ hdP x.val b, GoodF f) ∧ chkA (hdP x.val b) = 0 ∧ (hdP x.val b).flatMap fldF = unb [(x.val : Int) + if b then 32 else 0] := by
  intro x b
  have hg : ∀ f ∈ hdP x.val b, GoodF f := by
    intro f hf
    have := x.isLt
    simp only [hdP, List.mem_cons, List.mem_nil_iff, or_false] at hf
    unfold GoodF
    rcases hf with rfl | rfl | rfl
    · decide
    · cases b <;> decide
    simp only; omega
  refine ⟨hg, ?_, ?_⟩
  · clear hg; revert x; cases b <;> decide
  clear hg; revert x; cases b <;> decide
theorem unb_appM (a b : List Int) : unb (a ++ b) = unb a ++ unb b := by simp [unb]
set_option maxRecDepth 100000 in
theorem mm_head (g T : Nat) (sv : Value) (acc : List Int) (x : Nat) (b : Bool) (w : World) (hs : SX.St w (SX.idsOf (WrL g T sv (unb acc))) w (WrL g T sv (unb acc))) (hx : x < 32) (ha : acc.length ≤ 100000) :
    Calls Tryz.prog 123 #[.int .i64 (x : Int), .bool b, .pointer (some ⟨g, 0, none⟩)] w (SX.Ret fun v w' => ∃ sv', v = .tuple #[] ∧ SX.St w (SX.idsOf (WrL g T sv (unb acc))) w' (WrL g T sv' (unb (acc ++ [(x : Int) + if b then 32 else 0])))) := by
  generalize hM : SX.idsOf (WrL g T sv (unb acc)) = M at *
  obtain ⟨h1, h2, h3⟩ := hdP_ok ⟨x, hx⟩ b
  simp only at h1 h2 h3
  have hul := unb_length acc
  have er : resA (unb acc) (hdP x b) = unb (acc ++ [(x : Int) + if b then 32 else 0]) := by
    unfold resA
    rw [if_pos h2, h3, unb_appM]
  refine Z.enter Tryz.func123 rfl Tryz.ntmps123 rfl rfl ?_
  refine Z.g120 ?_
  refine Z.only [0, 1, 2, 5] rfl ?_
  refine Z.g60 ?_
  refine Z.g1 ?_
  refine Z.only [0, 2, 5, 6] rfl ?_
  refine Z.g313 ?_
  refine Z.cond rfl (fun hc1 => ?_) (fun hc1 => ?_)
  · (try simp at hc1)
    subst hc1
    refine Z.region ?_
    refine Z.g1 ?_
    refine Z.only [0, 2, 5] rfl ?_
    refine Z.g121 ?_
    refine Z.g40 ?_
    refine Z.g64 ?_
    refine Z.g40 ?_
    refine Z.g64 ?_
    refine Z.g78 ?_
    refine Z.g40 ?_
    refine Z.g3 ?_
    refine Z.ZO.litL (T' := 211) [(0, 2), (2, 2), (4, 2)] [.int .u64 0, .int .i64 0, .int .u64 0, .int .i64 0, .int .u64 0, .int .i64 0] rfl rfl (by rfl) rfl rfl Z.b19 hs ?_
    clear hs; intro g13 w13 hs
    replace hs := hs.rot (L1 := [_])
    change SX.St _ _ _ (WrL g T sv _ ++ [_]) at hs
    refine Z.g3 ?_
    refine Z.ZO.call rfl rfl (by rfl) rfl rfl Tryz.call124 rfl (putAll_any g T sv (unb acc) _ 3 3 (hdP x _) _ hs.lend (Z.blk_lent hs) rfl Z.b9 Z.b9 h1) ?_
    rintro v3_7 w3_7 ⟨sv2, rfl, hz⟩
    replace hs := hs.regain hz
    refine Z.g153 ?_
    refine Z.g128 ?_
    rw [er] at hs
    exact ⟨_, rfl, sv2, rfl, hs.sub (List.sublist_append_left _ _)⟩
  (try simp at hc1)
  subst hc1
  refine Z.skip ?_
  refine Z.g121 ?_
  refine Z.g40 ?_
  refine Z.g64 ?_
  refine Z.g40 ?_
  refine Z.g64 ?_
  refine Z.g78 ?_
  refine Z.g40 ?_
  refine Z.g3 ?_
  refine Z.ZO.litL (T' := 211) [(0, 2), (2, 2), (4, 2)] [.int .u64 0, .int .i64 0, .int .u64 0, .int .i64 0, .int .u64 0, .int .i64 0] rfl rfl (by rfl) rfl rfl Z.b19 hs ?_
  clear hs; intro g13 w13 hs
  replace hs := hs.rot (L1 := [_])
  change SX.St _ _ _ (WrL g T sv _ ++ [_]) at hs
  refine Z.g3 ?_
  refine Z.ZO.call rfl rfl (by rfl) rfl rfl Tryz.call124 rfl (putAll_any g T sv (unb acc) _ 3 3 (hdP x _) _ hs.lend (Z.blk_lent hs) rfl Z.b9 Z.b9 h1) ?_
  rintro v3_7 w3_7 ⟨sv2, rfl, hz⟩
  replace hs := hs.regain hz
  refine Z.g153 ?_
  refine Z.g128 ?_
  rw [er] at hs
  exact ⟨_, rfl, sv2, rfl, hs.sub (List.sublist_append_left _ _)⟩
end Go.Proofs.YtbojkoiopkaciaaGreat

/- Bits read from whole bytes. -/
namespace Go.Proofs.YtbojkoiopkaciaaGreat
open Go.RowKit
set_option linter.unusedSimpArgs false
set_option linter.unusedVariables false
--newlaws

theorem unb_dropN {l : List Int} {p : Nat} (hp : p ≤ l.length) : (unb l).drop (8 * p) = unb (l.drop p) := by
  have e : unb l = unb (l.take p) ++ unb (l.drop p) := by rw [← unb_appM, List.take_append_drop]
  rw [e, List.drop_left' (by rw [unb_length, List.length_take]; omega)]
theorem unb_cons (x : Int) (l : List Int) : unb (x :: l) = fld x.toNat 8 ++ unb l := rfl
theorem drop_elt {l : List Int} {p : Nat} (hp : p < l.length) : l.drop p = elt l (p : Int) :: l.drop (p + 1) := by
  rw [List.drop_eq_getElem_cons hp, elt_gt hp]
theorem bits_in {l : List Int} {p i n : Nat} (hp : p < l.length) (h : i + n ≤ 8) : bitsAt l (8 * p + i) n = ((fld (elt l (p : Int)).toNat 8).drop i).take n := by
  unfold bitsAt
  rw [← List.drop_drop, unb_dropN Z.b9, drop_elt hp, unb_cons, List.drop_append_of_le_length (by rw [fld_length]; omega), List.take_append_of_le_length (by rw [List.length_drop, fld_length]; omega)]
theorem fbits : ∀ x : Fin 256, val (((fld x.val 8).drop 0).take 2) = x.val / 64 ∧ val (((fld x.val 8).drop 2).take 1) = x.val / 32 % 2 ∧ val (((fld x.val 8).drop 3).take 5) = x.val % 32 ∧ val (((fld x.val 8).drop 0).take 1) = x.val / 128 ∧ val (((fld x.val 8).drop 1).take 7) = x.val % 128 ∧ val (((fld x.val 8).drop 0).take 8) = x.val := by
  set_option maxRecDepth 100000 in decide
theorem getV_in {l : List Int} {a n : Nat} (h : a + n ≤ 8 * l.length) (h2 : n ≤ 64) : getV l a (n : Int) = (val (bitsAt l a n) : Int) ∧ getE l a (n : Int) = 0 ∧ getA l a (n : Int) = a + n := by
  have h1 := getE_ok h h2
  refine ⟨?_, h1, ?_⟩
  · unfold getV; rw [if_pos h1]; rfl
  unfold getA; rw [if_pos h1]; rfl
theorem get_bad {l : List Int} {a n : Nat} (h : ¬ a + n ≤ 8 * l.length) (h2 : n ≤ 64) : getE l a (n : Int) = 5 := by
  unfold getE
  rw [if_neg Z.b9, if_pos Z.b9]
def byB (l : List Int) (p : Nat) : Int := elt l (p : Int)
theorem byB_bd {l : List Int} (hb : ∀ x ∈ l, 0 ≤ x ∧ x < 256) {p : Nat} (hp : p < l.length) : 0 ≤ byB l p ∧ byB l p < 256 := by
  unfold byB
  rw [elt_gt hp]
  exact hb _ (List.getElem_mem hp)
theorem head_get {l : List Int} (hb : ∀ x ∈ l, 0 ≤ x ∧ x < 256) {p : Nat} (hp : p < l.length) :
    getV l (8 * p) 2 = byB l p / 64 ∧ getV l (8 * p + 2) 1 = byB l p / 32 % 2 ∧ getV l (8 * p + 3) 5 = byB l p % 32 ∧ getV l (8 * p) 1 = byB l p / 128 ∧ getV l (8 * p + 1) 7 = byB l p % 128 ∧ getV l (8 * p) 8 = byB l p := by
  have h0 := byB_bd hb hp
  obtain ⟨x, hx⟩ := Int.eq_ofNat_of_zero_le h0.1
  have hx' : elt l (p : Int) = (x : Int) := hx
  obtain ⟨f1, f2, f3, f4, f5, f6⟩ := fbits ⟨x, by omega⟩
  simp only at f1 f2 f3 f4 f5 f6
  have g : ∀ i n : Nat, i + n ≤ 8 → getV l (8 * p + i) (n : Int) = (val (((fld x 8).drop i).take n) : Int) := fun i n h => by
    rw [(getV_in (l := l) (a := 8 * p + i) (n := n) Z.b9 Z.b9).1, bits_in hp h, hx', Int.toNat_natCast]
  rw [hx]
  refine ⟨?_, ?_, ?_, ?_, ?_, ?_⟩
  · have := g 0 2 Z.b9; rw [f1] at this; simpa using this
  · have := g 2 1 Z.b9; rw [f2] at this; simpa using this
  · have := g 3 5 Z.b9; rw [f3] at this; simpa using this
  · have := g 0 1 Z.b9; rw [f4] at this; simpa using this
  · have := g 1 7 Z.b9; rw [f5] at this; simpa using this
  have := g 0 8 Z.b9; rw [f6] at this; simpa using this
theorem long_get {l : List Int} (hb : ∀ x ∈ l, 0 ≤ x ∧ x < 256) {p : Nat} (hp : p + 1 < l.length) : getV l (8 * p + 1) 15 = byB l p % 128 * 256 + byB l (p + 1) := by
  have h0 := byB_bd hb (show p < l.length by omega)
  have h1 := byB_bd hb hp
  obtain ⟨x, hx⟩ := Int.eq_ofNat_of_zero_le h0.1
  obtain ⟨y, hy⟩ := Int.eq_ofNat_of_zero_le h1.1
  have hx' : elt l (p : Int) = (x : Int) := hx
  have hy' : elt l ((p + 1 : Nat) : Int) = (y : Int) := hy
  have e : bitsAt l (8 * p + 1) 15 = fld (x % 128 * 256 + y) 15 := by
    unfold bitsAt
    rw [← List.drop_drop, unb_dropN Z.b9, drop_elt (show p < l.length by omega), unb_cons, drop_elt hp, unb_cons, hx', hy', Int.toNat_natCast, Int.toNat_natCast]
    have e1 : fld x 8 = x.testBit 7 :: fld x 7 := rfl
    rw [e1, List.cons_append, List.drop_succ_cons, List.drop_zero, ← List.append_assoc, List.take_append_of_le_length (by rw [List.length_append, fld_length, fld_length]; omega), List.take_of_length_le (by rw [List.length_append, fld_length, fld_length]; omega)]
    have h3 : fld (x % 128 * 256 + y) (7 + 8) = fld ((x % 128 * 256 + y) / 2 ^ 8) 7 ++ fld (x % 128 * 256 + y) 8 := fld_app _ _ _
    have h4 : (x % 128 * 256 + y) / 2 ^ 8 = x % 2 ^ 7 := by omega
    have h5 : fld (x % 128 * 256 + y) 8 = fld y 8 := by rw [← fld_mod (x % 128 * 256 + y) 8 8 Z.b9]; congr 1; omega
    rw [h4, h5, fld_mod x 7 7 Z.b9] at h3
    exact h3.symm
  have := (getV_in (l := l) (a := 8 * p + 1) (n := 15) Z.b9 Z.b9).1
  rw [e, val_fld] at this
  rw [hx, hy]
  have h6 : (x % 128 * 256 + y) % 2 ^ 15 = x % 128 * 256 + y := by omega
  rw [h6] at this
  exact this.trans Z.b9
theorem gsV_byt {l : List Int} (hb : ∀ x ∈ l, 0 ≤ x ∧ x < 256) : ∀ (k p : Nat), p + k ≤ l.length → gsV l (8 * p) (List.replicate k (8 : Int)) = (l.drop p).take k
  | 0, p, _ => by simp [gsV]
  | k + 1, p, h => by
    have h1 := head_get hb (show p < l.length by omega)
    have h2 := (getV_in (l := l) (a := 8 * p) (n := 8) Z.b9 Z.b9).2.2
    rw [List.replicate_succ, drop_elt (show p < l.length by omega), List.take_succ_cons, ← gsV_byt hb k (p + 1) Z.b9]
    show getV l (8 * p) 8 :: gsV l (getA l (8 * p) 8) (List.replicate k 8) = _
    rw [h1.2.2.2.2.2]
    have h3 : getA l (8 * p) (8 : Int) = 8 * p + 8 := h2
    rw [h3]
    rfl
theorem gb_ok {l : List Int} (hb : ∀ x ∈ l, 0 ≤ x ∧ x < 256) {p k : Nat} (h : p + k ≤ l.length) : gbE l (8 * p) (k : Int) = 0 ∧ gbV l (8 * p) (k : Int) = (l.drop p).take k ∧ gbA l (8 * p) (k : Int) = 8 * (p + k) := by
  have h1 : gbE l (8 * p) (k : Int) = 0 := by unfold gbE; rw [if_neg Z.b9, if_neg Z.b9]
  refine ⟨h1, ?_, ?_⟩
  · unfold gbV; rw [if_pos h1, Int.toNat_natCast]; exact gsV_byt hb k p h
  unfold gbA; rw [if_pos h1, Int.toNat_natCast]; omega
theorem gb_bad {l : List Int} {p k : Nat} (hp : p ≤ l.length) (h : ¬ p + k ≤ l.length) : gbE l (8 * p) (k : Int) = 5 := by
  unfold gbE
  rw [if_neg Z.b9, if_pos Z.b9]
end Go.Proofs.YtbojkoiopkaciaaGreat

/- MAC PDUs: the reader's bits and length. -/
namespace Go.Proofs.YtbojkoiopkaciaaGreat
open Go.RowKit
set_option linter.unusedSimpArgs false
set_option linter.unusedVariables false
--newlaws

theorem mm_must_any (b : Bool) (e : Int) (w : World) : Calls Tryz.prog 109 #[.bool b, .int .i64 e] w (Z.Bo (fun v w' => b = true ∧ v = .tuple #[] ∧ SX.St w [] w' []) fun c w' => b = false ∧ c = mperr e ∧ SX.St w [] w' []) := by
  cases b with
  | true => exact Z.Bo.ret ((mm_must_ok true e w rfl).mono fun e w' ⟨v, h1, h2⟩ => ⟨v, h1, rfl, h2⟩)
  | false => exact Z.Bo.pan ((mm_must_bad false e w rfl).mono fun e w' ⟨v, h1, h2⟩ => ⟨v, h1, rfl, h2⟩)
theorem mm_gotu_ok (x : Int) (w : World) : Calls Tryz.prog 190 #[.int .u64 x, .int .i64 0] w (SX.Ret fun v w' => v = .int .u64 x ∧ SX.St w [] w' []) := by
  have hs := SX.St.start w
  refine Z.enter Tryz.func190 rfl Tryz.ntmps190 rfl rfl ?_
  refine Z.g213 ?_
  refine Z.ZO.call rfl rfl (by rfl) rfl rfl Tryz.call109 rfl (mm_must_ok _ 0 _ Z.b17) ?_
  rintro v1_3 w1_3 ⟨rfl, hy⟩
  replace hs := Z.w1 (hs.call hy); clear hy
  refine Z.g181 ?_
  refine Z.g52 ?_
  exact ⟨_, rfl, rfl, hs⟩
theorem mm_gotu_bad (x e : Int) (w : World) (he : e ≠ 0) : Calls Tryz.prog 190 #[.int .u64 x, .int .i64 e] w (MPan e fun w' => SX.St w [] w' []) := by
  have hs := SX.St.start w
  refine Z.enter Tryz.func190 rfl Tryz.ntmps190 rfl rfl ?_
  refine Z.g213 ?_
  refine Z.ZO.callP rfl rfl rfl Tryz.call109 rfl (mm_must_bad _ e _ (by simpa using he)) ?_
  rintro c1_3 w1_3 ⟨rfl, hy⟩
  replace hs := Z.w1 (hs.call hy); clear hy
  repeat (first | refine Z.pthen ?_ | refine Z.pblock ?_ | refine Z.pscope ?_)
  refine Z.outp ?_
  exact ⟨_, rfl, rfl, hs⟩
theorem mm_gotb_ok (x : Value) (w : World) : Calls Tryz.prog 167 #[x, .int .i64 0] w (SX.Ret fun v w' => v = x ∧ SX.St w [] w' []) := by
  have hs := SX.St.start w
  refine Z.enter Tryz.func167 rfl Tryz.ntmps167 rfl rfl ?_
  refine Z.g213 ?_
  refine Z.ZO.call rfl rfl (by rfl) rfl rfl Tryz.call109 rfl (mm_must_ok _ 0 _ Z.b17) ?_
  rintro v1_3 w1_3 ⟨rfl, hy⟩
  replace hs := Z.w1 (hs.call hy); clear hy
  refine Z.g181 ?_
  refine Z.g52 ?_
  exact ⟨_, rfl, rfl, hs⟩
theorem mm_gotb_bad (x : Value) (e : Int) (w : World) (he : e ≠ 0) : Calls Tryz.prog 167 #[x, .int .i64 e] w (MPan e fun w' => SX.St w [] w' []) := by
  have hs := SX.St.start w
  refine Z.enter Tryz.func167 rfl Tryz.ntmps167 rfl rfl ?_
  refine Z.g213 ?_
  refine Z.ZO.callP rfl rfl rfl Tryz.call109 rfl (mm_must_bad _ e _ (by simpa using he)) ?_
  rintro c1_3 w1_3 ⟨rfl, hy⟩
  replace hs := Z.w1 (hs.call hy); clear hy
  repeat (first | refine Z.pthen ?_ | refine Z.pblock ?_ | refine Z.pscope ?_)
  refine Z.outp ?_
  exact ⟨_, rfl, rfl, hs⟩
set_option maxRecDepth 100000 in
theorem mm_bits_ok (g T : Nat) (sv : Value) (l : List Int) (a n : Nat) (w : World) (hs : SX.St w (SX.idsOf (RdL g T sv l a)) w (RdL g T sv l a)) (hl : l.length ≤ 1000000) (hb : ∀ x ∈ l, 0 ≤ x ∧ x < 256) (h : a + n ≤ 8 * l.length) (hn : n ≤ 32) :
    Calls Tryz.prog 162 #[.agg #[.pointer (some ⟨g, 0, none⟩)], .int .i64 (n : Int)] w (SX.Ret fun v w' => v = .int .i64 (getV l a n) ∧ SX.St w (SX.idsOf (RdL g T sv l a)) w' (RdL g T sv l (a + n))) := by
  generalize hM : SX.idsOf (RdL g T sv l a) = M at *
  obtain ⟨h1, h2, h3⟩ := getV_in (l := l) (a := a) (n := n) h Z.b9
  have h4 : (bitsAt l a n).length ≤ 63 := by unfold bitsAt; rw [List.length_take]; omega
  have h5 := val_bd63 h4
  obtain ⟨V, hV⟩ : ∃ V : Int, getV l a (n : Int) = V := ⟨_, rfl⟩
  rw [hV] at h1 ⊢
  have h6 : 0 ≤ V ∧ V < 9223372036854775808 := by omega
  refine Z.enter Tryz.func162 rfl Tryz.ntmps162 rfl rfl ?_
  refine Z.g90 ?_
  clear hs; intro g2 w2 hs
  refine Z.g231 ?_
  refine Z.g86 ?_
  refine Z.g64 ?_
  replace hs : SX.St w M _ (RdL g T sv l a ++ [_]) := hs.rot (L1 := [_])
  refine Z.g3 ?_
  refine Z.ZO.call rfl rfl (by rfl) rfl rfl Tryz.call159 rfl (rget_any g T sv l a n _ hs.lend hl Z.b9 hb) ?_
  rintro v1_3 w1_3 ⟨rfl, hz⟩
  replace hs := hs.regain hz
  rw [h2, hV]
  rw [h3] at hs
  refine Z.g63 ?_
  refine Z.ZO.call rfl rfl (by rfl) rfl rfl Tryz.call190 rfl (mm_gotu_ok _ _) ?_
  rintro v1_6 w1_6 ⟨rfl, hy⟩
  replace hs := Z.w1 (hs.call hy); clear hy
  refine Z.l rfl rfl (by rfl) (Z.keepS hs) (Z.Yd.convI rfl ⟨_, Tryz.underlying123⟩ Tryz.underlying3 (fun hG => Z.wi64 Z.b3)) ?_
  refine Z.g1 ?_
  refine Z.g62 ?_
  refine Z.g52 ?_
  exact ⟨_, rfl, rfl, hs.sub (List.sublist_append_left _ _)⟩
set_option maxRecDepth 100000 in
theorem mm_bits_bad (g T : Nat) (sv : Value) (l : List Int) (a n : Nat) (w : World) (hs : SX.St w (SX.idsOf (RdL g T sv l a)) w (RdL g T sv l a)) (hl : l.length ≤ 1000000) (hb : ∀ x ∈ l, 0 ≤ x ∧ x < 256) (ha : a ≤ 8 * l.length) (h : ¬ a + n ≤ 8 * l.length) (hn : n ≤ 32) :
    Calls Tryz.prog 162 #[.agg #[.pointer (some ⟨g, 0, none⟩)], .int .i64 (n : Int)] w (MPan 5 fun w' => ∃ a', SX.St w (SX.idsOf (RdL g T sv l a)) w' (RdL g T sv l a')) := by
  generalize hM : SX.idsOf (RdL g T sv l a) = M at *
  have h2 := get_bad (l := l) (a := a) (n := n) h Z.b9
  refine Z.enter Tryz.func162 rfl Tryz.ntmps162 rfl rfl ?_
  refine Z.g90 ?_
  clear hs; intro g2 w2 hs
  refine Z.g231 ?_
  refine Z.g86 ?_
  refine Z.g64 ?_
  replace hs : SX.St w M _ (RdL g T sv l a ++ [_]) := hs.rot (L1 := [_])
  refine Z.g3 ?_
  refine Z.ZO.call rfl rfl (by rfl) rfl rfl Tryz.call159 rfl (rget_any g T sv l a n _ hs.lend hl Z.b9 hb) ?_
  rintro v1_3 w1_3 ⟨rfl, hz⟩
  replace hs := hs.regain hz
  rw [h2]
  refine Z.g63 ?_
  refine Z.ZO.callP rfl rfl rfl Tryz.call190 rfl (mm_gotu_bad _ 5 _ Z.b12) ?_
  rintro c1_6 w1_6 ⟨rfl, hy⟩
  replace hs := Z.w1 (hs.call hy); clear hy
  repeat (first | refine Z.pthen ?_ | refine Z.pblock ?_ | refine Z.pscope ?_)
  refine Z.outp ?_
  exact ⟨_, rfl, rfl, _, hs.sub (List.sublist_append_left _ _)⟩
end Go.Proofs.YtbojkoiopkaciaaGreat
