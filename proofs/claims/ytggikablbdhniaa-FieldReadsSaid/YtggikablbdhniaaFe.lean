/- The document's Unpack, Put, PutBytes, PutAll, Align, Bytes. -/
import Derived.Test.YtggikablbdhniaaFd
namespace Go.Proofs.Ytggikablbdhniaa
open Go.RowKit
set_option linter.unusedSimpArgs false
set_option linter.unusedVariables false

/-- the bits of bytes -/
def unb (l : List Int) : List Bool := l.flatMap fun x => fld x.toNat 8
theorem unb_length (l : List Int) : (unb l).length = l.length * 8 := Z.flat_length (fun x => fld_length _ 8)
theorem unb_get {l : List Int} {k : Nat} (hk : k < l.length * 8) : (unb l)[k]? = some ((elt l ((k : Int) / 8)).toNat.testBit (7 - k % 8)) := by
  have h1 : k / 8 < l.length := by omega
  have hx : l[k / 8]? = some (l[k / 8]) := List.getElem?_eq_getElem h1
  have := Z.flat_get (enc := fun x : Int => fld x.toNat 8) (s := 8) (fun x => fld_length _ 8) hx (j := k % 8) (by omega)
  rw [show k / 8 * 8 + k % 8 = k from by omega, fld_get _ 8 _ (by omega)] at this
  unfold unb
  rw [this]
  have e : elt l ((k : Int) / 8) = l[k / 8] := by
    have e1 : ((k : Int) / 8).toNat = k / 8 := by omega
    simp [elt, e1, h1]
  rw [e]
theorem rem_bit (x : Int) (k : Nat) (h0 : 0 ≤ x) (hx : x < 256) : (x.fdiv (2 ^ (min ((7 : Int) - (k : Int) % 8).toNat IntKind.u8.bits))).tmod 2 = bi (x.toNat.testBit (7 - k % 8)) := by
  obtain ⟨n, rfl⟩ := Int.eq_ofNat_of_zero_le h0
  have e : min ((7 : Int) - (k : Int) % 8).toNat IntKind.u8.bits = 7 - k % 8 := by
    have : IntKind.u8.bits = 8 := rfl
    omega
  rw [e, Int.fdiv_eq_ediv_of_nonneg _ (Int.le_of_lt (Int.pow_pos (by decide))), testBit_bi, Int.toNat_natCast]
  have e2 : ((n : Int) / 2 ^ (7 - k % 8)) = ((n / 2 ^ (7 - k % 8) : Nat) : Int) := by push_cast; rfl
  rw [e2, Z.tmodn (Int.natCast_nonneg _)]
  omega
theorem bits_snoc (bs : List Bool) (b : Bool) : ints .u8 (bits bs) ++ [.int .u8 (bi b)] = ints .u8 (bits (bs ++ [b])) := by simp [ints, bits]
theorem bits_app (bs cs : List Bool) : ints .u8 (bits bs) ++ ints .u8 (bits cs) = ints .u8 (bits (bs ++ cs)) := by simp [ints, bits]

set_option maxRecDepth 100000 in
theorem unpack_any (A : Option Addr) (n c : Nat) (l : List Int) (w : World) (hx : Sl w A (ints .u8 l)) (hl : l.length = n) (hn : n ≤ 1000000) (hb : ∀ x ∈ l, 0 ≤ x ∧ x < 256) :
    Calls Try.prog 40 #[.slice A n c, .int .i64 (8 * (n : Int))] w (SX.Ret fun v w' => ∃ sv, v = .tuple #[sv, .int .i64 0] ∧ SX.St w [] w' [SX.Ent.row sv 5 1 (n * 8) (ints .u8 (bits (unb l)))]) := by
  have hs := SX.St.start w
  have hul := unb_length l
  refine Z.enter Try.func40 rfl Try.ntmps40 rfl rfl ?_
  refine Z.seq ?_
  refine Z.region ?_
  refine Z.lb 2 rfl ?_
  refine Z.lnil ?_
  refine Z.only [0, 1] rfl ?_
  refine Z.nthen ?_
  refine Z.seq ?_
  refine Z.seq ?_
  refine Z.region ?_
  refine Z.lb 2 rfl ?_
  refine Z.lnil ?_
  refine Z.only [0, 1, 9] rfl ?_
  refine Z.nthen ?_
  refine Z.cond rfl (fun h => absurd h (by simp; omega)) (fun hc1 => ?_)
  refine Z.skip ?_
  refine Z.nthen ?_
  refine Z.seq ?_
  refine Z.seq ?_
  refine Z.region ?_
  refine Z.lb 1 rfl ?_
  refine Z.l rfl rfl (by rfl) (Z.keepS hs) (Z.Yd.quo rfl rfl (by intro hG; first | decide | omega) (by intro hG; first | exact Z.qi64 ⟨by omega, by omega⟩ (by omega) | exact rfl)) ?_
  refine Z.lb 1 rfl ?_
  refine Z.l rfl rfl (by rfl) (Z.keepS hs) (Z.Yd.lenS rfl Try.underlying25) ?_
  refine Z.lb 3 rfl ?_
  refine Z.l rfl rfl (by rfl) (Z.keepS hs) (Z.Yd.quo rfl rfl (by intro hG; first | decide | omega) (by intro hG; first | exact Z.qi64 ⟨by omega, by omega⟩ (by omega) | exact rfl)) ?_
  refine Z.lb 1 rfl ?_
  refine Z.l rfl rfl (by rfl) (Z.keepS hs) (Z.Yd.lenS rfl Try.underlying25) ?_
  refine Z.lb 3 rfl ?_
  refine Z.l rfl rfl (by rfl) (Z.keepS hs) (Z.Yd.rem rfl rfl (by intro hG; first | decide | omega) (by intro hG; first | exact Z.tmodn (by omega) | exact rfl)) ?_
  refine Z.lb 3 rfl ?_
  refine Z.lnil ?_
  refine Z.only [0, 1, 26] rfl ?_
  refine Z.nthen ?_
  refine Z.cond rfl (fun h => absurd h (by first | (simp; done) | (simp; omega))) (fun hc3 => ?_)
  refine Z.skip ?_
  refine Z.nthen ?_
  refine Z.seq ?_
  refine Z.region ?_
  refine Z.lb 1 rfl ?_
  refine Z.lnil ?_
  refine Z.only [0, 1, 6] rfl ?_
  refine Z.nthen ?_
  refine Z.seq ?_
  refine Z.seq ?_
  refine Z.region ?_
  refine Z.lb 1 rfl ?_
  refine Z.lnil ?_
  refine Z.only [0, 1, 6, 7] rfl ?_
  refine Z.nthen ?_
  refine Z.block ?_
  refine Z.loopk (ι := Nat × Value) [0, 1] rfl (fun k => [(6, [], k.2), (7, [], .int .i64 (k.1 : Int))]) (fun k wr => k.1 ≤ n * 8 ∧ SX.St w [] wr [SX.Ent.row k.2 5 1 k.1 (ints .u8 (bits ((unb l).take k.1)))]) (fun k => n * 8 - k.1) (0, .slice none 0 0) (by refine ⟨?_, ?_, trivial⟩ <;> (first | rfl | (refine Z.lookv rfl ?_; simp; done) | (refine Z.lookv rfl ?_; simp; omega))) ⟨by omega, by simpa [ints, bits] using hs.nil _ _⟩ ?_
  clear hs
  rintro ⟨k, sv⟩ w1 ⟨hkn, hs⟩
  refine Z.only [0, 1, 6, 7] rfl ?_
  dsimp only at hs
  refine Z.seq ?_
  refine Z.seq ?_
  refine Z.region ?_
  refine Z.lb 3 rfl ?_
  refine Z.lnil ?_
  refine Z.only [0, 1, 6, 7, 29] rfl ?_
  refine Z.nthen ?_
  refine Z.cond rfl (fun hc7 => ?_) (fun hc7 => ?_)
  · first
      | (exfalso; simp at hc7 <;> omega)
      | (
        (try simp at hc7)
        obtain ⟨b, off, rfl, hbb, hx⟩ := Z.Sl.some hx (by simp [ints]; omega)
        have hg := unb_get (l := l) (k := k) (by omega)
        have he := hb _ (Z.elt_mem (l := l) (z := (k : Int) / 8) (by omega) (by omega))
        refine Z.skip ?_
        refine Z.nthen ?_
        refine Z.seq ?_
        refine Z.block ?_
        refine Z.region ?_
        refine Z.lb 3 rfl ?_
        refine Z.l rfl rfl (by rfl) (Z.keepS hs) (Z.Yd.quo rfl rfl (by intro hG; first | decide | omega) (by intro hG; first | exact Z.qi64 ⟨by omega, by omega⟩ (by omega) | exact rfl)) ?_
        refine Z.l rfl rfl (by rfl) (Z.keepS hs) (Z.Yd.elem rfl rfl Try.underlying25 Try.sizeOf5 (fun hG => ⟨(by first | omega | (have hG' := Z.gh rfl hG; simp at hG'; omega)), (by first | omega | (have hG' := Z.gh rfl hG; simp at hG'; omega))⟩)) ?_
        refine Z.l rfl rfl (by rfl) (Z.keepS hs) (by first | exact Z.Yd.load rfl Try.isAgg5 (fun hG => Z.cellR (by first | ((repeat (first | exact List.mem_cons_self | refine List.mem_cons_of_mem _ ?_ | refine List.mem_append_right _ ?_)); done) | fail) (Z.ints_at (by first | omega | (have hG' := Z.gh rfl hG; simp at hG'; omega)) (by first | omega | (have hG' := Z.gh rfl hG; simp at hG'; omega)))) | exact Z.Yd.load rfl Try.isAgg5 (fun hG => Z.cellXi (by assumption) (by first | omega | (have hG' := Z.gh rfl hG; simp at hG'; omega)) (by first | omega | (have hG' := Z.gh rfl hG; simp at hG'; omega))) | exact Z.Yd.load rfl Try.isAgg5 (fun hG => Z.cellS (by assumption) rfl (by first | omega | (have hG' := Z.gh rfl hG; simp at hG'; omega)) (by first | omega | (have hG' := Z.gh rfl hG; simp at hG'; omega))) | fail "load 9.5") ?_
        refine Z.lb 1 rfl ?_
        refine Z.l rfl rfl (by rfl) (Z.keepS hs) (Z.Yd.rem rfl rfl (by intro hG; first | decide | omega) (by intro hG; first | exact Z.tmodn (by omega) | exact rfl)) ?_
        refine Z.l rfl rfl (by rfl) (Z.keepS hs) (Z.Yd.sub rfl rfl (fun hG => Z.wi64 (by first | omega | (have hG' := Z.gh rfl hG; simp at hG'; omega)))) ?_
        refine Z.l rfl rfl (by rfl) (Z.keepS hs) (Z.Yd.shr rfl rfl (by intro hG; first | decide | omega) (fun _ => rfl)) ?_
        refine Z.l rfl rfl (by rfl) (Z.keepS hs) (Z.Yd.rem rfl rfl (by intro hG; first | decide | omega) (fun _ => rem_bit _ k he.1 he.2)) ?_
        refine Z.le rfl trivial ?_
        refine Z.ZO.lit rfl rfl (by rfl) rfl (by intro W; go_simp; exact rfl) hs ?_
        clear hs; intro g43 w43 hs
        refine Z.le rfl trivial ?_
        refine Z.ZO.append (i0 := Try.t5) (size := 1) (bytes := 1) rfl rfl (by rfl) hs Try.underlying25 (by kernel_rfl) rfl rfl rfl rfl (by decide) rfl rfl (by first | exact SX.at0 | exact SX.at1 | exact SX.at2 | exact SX.at3 | exact SX.at4 | exact SX.at5 | exact Z.at6 | exact Z.at7 | exact Z.at8 | exact Z.at9 | exact Z.at10 | exact Z.at11 | exact Z.at12) (by first | exact SX.at0 | exact SX.at1 | exact SX.at2 | exact SX.at3 | exact SX.at4 | exact SX.at5 | exact Z.at6 | exact Z.at7 | exact Z.at8 | exact Z.at9 | exact Z.at10 | exact Z.at11 | exact Z.at12) (by first | rfl | simp) (by simp [Value.oneCell']) (by decide) (by unfold maxLen; omega) (by omega) ?_
        clear hs; intro g44 cap44 w44 hs
        simp only [List.set_cons_zero, List.set_cons_succ, List.eraseIdx_cons_zero, List.eraseIdx_cons_succ] at hs
        refine Z.lb 1 rfl ?_
        refine Z.lnil ?_
        refine Z.only [0, 1, 6, 7] rfl ?_
        refine Z.nblock ?_
        refine Z.nthen ?_
        refine Z.region ?_
        refine Z.lb 1 rfl ?_
        refine Z.l rfl rfl (by rfl) (Z.keepS hs) (Z.Yd.add rfl rfl (fun hG => Z.wi64 (by first | omega | (have hG' := Z.gh rfl hG; simp at hG'; omega)))) ?_
        refine Z.lb 1 rfl ?_
        refine Z.lnil ?_
        refine Z.only [0, 1, 6, 7] rfl ?_
        refine Z.nthen ?_
        have e : ints .u8 (bits ((unb l).take k)) ++ [.int .u8 (bi ((elt l ((k : Int) / 8)).toNat.testBit (7 - k % 8)))] = ints .u8 (bits ((unb l).take (k + 1))) := by
          rw [bits_snoc, take_snoc hg]
        rw [e] at hs
        exact Z.again (k + 1, _) (by refine ⟨?_, ?_, ?_, ?_, trivial⟩ <;> (first | rfl | (refine Z.lookv rfl ?_; simp; done) | (refine Z.lookv rfl ?_; simp; omega))) ⟨by simp only; omega, hs⟩ (by simp only; omega)
        )
  · first
      | (exfalso; simp at hc7 <;> omega)
      | (
        (try simp at hc7)
        refine Z.exit ?_
        refine Z.xthen ?_
        refine Z.xthen ?_
        refine Z.xblock ?_
        refine Z.nthen ?_
        refine Z.seq ?_
        refine Z.region ?_
        refine Z.lb 3 rfl ?_
        refine Z.lnil ?_
        refine Z.only [4, 5] rfl ?_
        refine Z.nthen ?_
        refine Z.ret ?_
        -- ret#0
        refine Z.out2 (by exact ⟨rfl, rfl, trivial⟩) ?_
        obtain rfl : k = n * 8 := by omega
        rw [List.take_of_length_le (by omega)] at hs
        exact ⟨_, rfl, _, rfl, hs⟩
        )

theorem refput_bad (A : Option Addr) (n c : Nat) (v : Int) (wd : Int) (no : Int) (w : World) (hno : no ≠ 0)
    (h : ∀ W, Calls Try.prog 51 #[.int .u64 v, .int .i64 wd] W (SX.Ret fun r w' => r = .tuple #[.slice none 0 0, .int .i64 no] ∧ SX.St W [] w' [])) :
    Calls Try.prog 34 #[.slice A n c, .int .u64 v, .int .i64 wd] w (SX.Ret fun r w' => r = .tuple #[.slice A n c, .int .i64 no] ∧ SX.St w [] w' []) := by
  have hs := SX.St.start w
  refine Z.enter Try.func34 rfl Try.ntmps34 rfl rfl ?_
  refine Z.seq ?_
  refine Z.region ?_
  refine Z.lb 2 rfl ?_
  refine Z.lnil ?_
  refine Z.only [0, 1, 2] rfl ?_
  refine Z.nthen ?_
  refine Z.seq ?_
  refine Z.region ?_
  refine Z.lb 2 rfl ?_
  refine Z.le rfl trivial ?_
  refine Z.ZO.call rfl rfl (by rfl) rfl rfl Try.call51 rfl (h _) ?_
  rintro v1_2 w1_2 ⟨rfl, hy⟩
  replace hs := hs.call hy
  clear hy
  simp only [List.cons_append, List.nil_append, List.append_nil] at hs
  refine Z.lb 5 rfl ?_
  refine Z.lnil ?_
  refine Z.only [0, 8, 9] rfl ?_
  refine Z.nthen ?_
  refine Z.seq ?_
  refine Z.seq ?_
  refine Z.region ?_
  refine Z.lb 2 rfl ?_
  refine Z.lnil ?_
  refine Z.only [0, 8, 9, 17] rfl ?_
  refine Z.nthen ?_
  refine Z.cond rfl (fun hc2 => ?_) (fun h => absurd h (by simpa using hno))
  refine Z.seq ?_
  refine Z.region ?_
  refine Z.lb 4 rfl ?_
  refine Z.lnil ?_
  refine Z.only [6, 7] rfl ?_
  refine Z.nthen ?_
  refine Z.ret ?_
  repeat (first | refine Z.rthen ?_ | refine Z.rblock ?_ | refine Z.rscope ?_)
  -- ret#0
  refine Z.out2 (by exact ⟨rfl, rfl, trivial⟩) ?_
  exact ⟨_, rfl, rfl, hs⟩
theorem refput_ok (A : Option Addr) (n c : Nat) (bs : List Bool) (v wd : Nat) (w : World) (hx : Sl w A (ints .u8 (bits bs))) (hl : bs.length = n) (hn : n ≤ 10000000) (hw : wd ≤ 64) (hv : v < 18446744073709551616) (h0 : v / 2 ^ wd = 0) :
    Calls Try.prog 34 #[.slice A n c, .int .u64 (v : Int), .int .i64 (wd : Int)] w (SX.Ret fun r w' => ∃ sv, r = .tuple #[sv, .int .i64 0] ∧ SX.St w [] w' [SX.Ent.row sv 5 1 (n + wd) (ints .u8 (bits (bs ++ fld v wd)))]) := by
  have hs := SX.St.start w
  have hfl := fld_length v wd
  refine Z.enter Try.func34 rfl Try.ntmps34 rfl rfl ?_
  refine Z.seq ?_
  refine Z.region ?_
  refine Z.lb 2 rfl ?_
  refine Z.lnil ?_
  refine Z.only [0, 1, 2] rfl ?_
  refine Z.nthen ?_
  refine Z.seq ?_
  refine Z.region ?_
  refine Z.lb 2 rfl ?_
  refine Z.le rfl trivial ?_
  refine Z.ZO.call rfl rfl (by rfl) rfl rfl Try.call51 rfl (fromUint_ok v wd _ hw hv h0) ?_
  rintro v1_2 w1_2 ⟨sl, rfl, hy⟩
  replace hs := hs.call hy
  clear hy
  simp only [List.cons_append, List.nil_append, List.append_nil] at hs
  obtain ⟨Al, cl, rfl, hl1, hl2, -⟩ := SX.row_slv hs SX.at0
  refine Z.lb 5 rfl ?_
  refine Z.lnil ?_
  refine Z.only [0, 8, 9] rfl ?_
  refine Z.nthen ?_
  refine Z.seq ?_
  refine Z.seq ?_
  refine Z.region ?_
  refine Z.lb 2 rfl ?_
  refine Z.lnil ?_
  refine Z.only [0, 8, 9, 17] rfl ?_
  refine Z.nthen ?_
  refine Z.cond rfl (fun h => absurd h (by simp)) (fun hc2 => ?_)
  refine Z.skip ?_
  refine Z.nthen ?_
  refine Z.seq ?_
  refine Z.region ?_
  refine Z.le rfl trivial ?_
  refine Z.ZO.empty rfl rfl (by rfl) Try.underlying25 Try.sizeOf5 hs ?_
  clear hs; intro g20 w20 hs
  refine Z.lb 1 rfl ?_
  refine Z.le rfl trivial ?_
  refine Z.ZO.appendG (i0 := Try.t5) (size := 1) (bytes := 1) rfl rfl (by rfl) hs Try.underlying25 (by kernel_rfl) rfl rfl rfl rfl (by decide) rfl rfl (by first | exact SX.at0 | exact SX.at1 | exact SX.at2 | exact SX.at3 | exact SX.at4 | exact SX.at5 | exact Z.at6 | exact Z.at7 | exact Z.at8 | exact Z.at9 | exact Z.at10 | exact Z.at11 | exact Z.at12) (hx.st (hs.sub (List.nil_sublist _))) (by first | rfl | (simp [ints_length]; done) | (simp [ints_length]; omega)) (by first | exact Z.ints_one | simp [Value.oneCell']) (by unfold maxLen; omega) (by omega) ?_
  clear hs; intro v22 w22 hs
  simp only [List.set_cons_zero, List.set_cons_succ] at hs
  refine Z.lb 1 rfl ?_
  refine Z.le rfl trivial ?_
  refine Z.ZO.appendG (i0 := Try.t5) (size := 1) (bytes := 1) rfl rfl (by rfl) hs Try.underlying25 (by kernel_rfl) rfl rfl rfl rfl (by decide) rfl rfl (by first | exact SX.at0 | exact SX.at1 | exact SX.at2 | exact SX.at3 | exact SX.at4 | exact SX.at5 | exact Z.at6 | exact Z.at7 | exact Z.at8 | exact Z.at9 | exact Z.at10 | exact Z.at11 | exact Z.at12) (SX.row_slB hs (j := 1) rfl) (by first | rfl | (simp [ints_length]; done) | (simp [ints_length]; omega)) (by first | exact Z.ints_one | simp [Value.oneCell']) (by unfold maxLen; omega) (by omega) ?_
  clear hs; intro v24 w24 hs
  simp only [List.set_cons_zero, List.set_cons_succ] at hs
  refine Z.lb 2 rfl ?_
  refine Z.lnil ?_
  refine Z.only [6, 7] rfl ?_
  refine Z.nthen ?_
  refine Z.ret ?_
  -- ret#0
  refine Z.out2 (by exact ⟨rfl, rfl, trivial⟩) ?_
  refine ⟨_, rfl, _, rfl, ?_⟩
  rw [List.nil_append, bits_app, Nat.zero_add] at hs
  exact hs.sub (List.cons_sublist_cons.2 (List.nil_sublist _))

theorem refputbytes (A B : Option Addr) (n c m d : Nat) (bs : List Bool) (l : List Int) (w : World) (hx : Sl w A (ints .u8 (bits bs))) (hl : bs.length = n) (hn : n ≤ 10000000)
    (hy : Sl w B (ints .u8 l)) (hm : l.length = m) (hm2 : m ≤ 1000000) (hb : ∀ x ∈ l, 0 ≤ x ∧ x < 256) :
    Calls Try.prog 17 #[.slice A n c, .slice B m d] w (SX.Ret fun r w' => SX.St w [] w' [SX.Ent.row r 5 1 (n + m * 8) (ints .u8 (bits (bs ++ unb l)))]) := by
  have hs := SX.St.start w
  have hul := unb_length l
  refine Z.enter Try.func17 rfl Try.ntmps17 rfl rfl ?_
  refine Z.seq ?_
  refine Z.region ?_
  refine Z.lb 1 rfl ?_
  refine Z.lnil ?_
  refine Z.only [0, 1] rfl ?_
  refine Z.nthen ?_
  refine Z.seq ?_
  refine Z.region ?_
  refine Z.lb 2 rfl ?_
  refine Z.l rfl rfl (by rfl) (Z.keepS hs) (Z.Yd.lenS rfl Try.underlying25) ?_
  refine Z.l rfl rfl (by rfl) (Z.keepS hs) (Z.Yd.mul rfl rfl (fun hG => Z.wi64 (by first | omega | (have hG' := Z.gh rfl hG; simp at hG'; omega)))) ?_
  refine Z.le rfl trivial ?_
  refine Z.ZO.call rfl rfl (by rfl) rfl rfl Try.call40 rfl (unpack_any B m d l _ (hy.st (hs.sub (List.nil_sublist _))) hm hm2 hb) ?_
  rintro v1_4 w1_4 ⟨sl, rfl, hz⟩
  replace hs := hs.call hz
  simp only [List.cons_append, List.nil_append, List.append_nil] at hs
  obtain ⟨Al, cl, rfl, hl1, hl2, -⟩ := SX.row_slv hs SX.at0
  refine Z.lb 5 rfl ?_
  refine Z.lnil ?_
  refine Z.only [0, 5] rfl ?_
  refine Z.nthen ?_
  refine Z.seq ?_
  refine Z.region ?_
  refine Z.le rfl trivial ?_
  refine Z.ZO.empty rfl rfl (by rfl) Try.underlying25 Try.sizeOf5 hs ?_
  clear hs; intro g15 w15 hs
  refine Z.lb 1 rfl ?_
  refine Z.le rfl trivial ?_
  refine Z.ZO.appendG (i0 := Try.t5) (size := 1) (bytes := 1) rfl rfl (by rfl) hs Try.underlying25 (by kernel_rfl) rfl rfl rfl rfl (by decide) rfl rfl (by first | exact SX.at0 | exact SX.at1 | exact SX.at2 | exact SX.at3 | exact SX.at4 | exact SX.at5 | exact Z.at6 | exact Z.at7 | exact Z.at8 | exact Z.at9 | exact Z.at10 | exact Z.at11 | exact Z.at12) (hx.st (hs.sub (List.nil_sublist _))) (by first | rfl | (simp [ints_length]; done) | (simp [ints_length]; omega)) (by first | exact Z.ints_one | simp [Value.oneCell']) (by unfold maxLen; omega) (by omega) ?_
  clear hs; intro v17 w17 hs
  simp only [List.set_cons_zero, List.set_cons_succ] at hs
  refine Z.lb 1 rfl ?_
  refine Z.le rfl trivial ?_
  refine Z.ZO.appendG (i0 := Try.t5) (size := 1) (bytes := 1) rfl rfl (by rfl) hs Try.underlying25 (by kernel_rfl) rfl rfl rfl rfl (by decide) rfl rfl (by first | exact SX.at0 | exact SX.at1 | exact SX.at2 | exact SX.at3 | exact SX.at4 | exact SX.at5 | exact Z.at6 | exact Z.at7 | exact Z.at8 | exact Z.at9 | exact Z.at10 | exact Z.at11 | exact Z.at12) (SX.row_slB hs (j := 1) rfl) (by first | rfl | (simp [ints_length]; done) | (simp [ints_length]; omega)) (by first | exact Z.ints_one | simp [Value.oneCell']) (by unfold maxLen; omega) (by omega) ?_
  clear hs; intro v19 w19 hs
  simp only [List.set_cons_zero, List.set_cons_succ] at hs
  refine Z.lb 1 rfl ?_
  refine Z.lnil ?_
  refine Z.only [4] rfl ?_
  refine Z.nthen ?_
  refine Z.ret ?_
  -- ret#0
  refine Z.out1 (by exact ⟨rfl, trivial⟩) ?_
  refine ⟨_, rfl, ?_⟩
  rw [List.nil_append, bits_app, Nat.zero_add] at hs
  exact hs.sub (List.cons_sublist_cons.2 (List.nil_sublist _))

/-- bits up to a whole number of bytes -/
def pad (bs : List Bool) : List Bool := bs ++ List.replicate ((8 - bs.length % 8) % 8) false
theorem pad_length (bs : List Bool) : (pad bs).length = (bs.length + 7) / 8 * 8 := by simp [pad]; omega

theorem refalign (A : Option Addr) (n c : Nat) (bs : List Bool) (w : World) (hx : Sl w A (ints .u8 (bits bs))) (hl : bs.length = n) (hn : n ≤ 10000000) :
    Calls Try.prog 36 #[.slice A n c] w (SX.Ret fun r w' => SX.St w [] w' [SX.Ent.row r 5 1 (pad bs).length (ints .u8 (bits (pad bs)))]) := by
  have hs := SX.St.start w
  refine Z.enter Try.func36 rfl Try.ntmps36 rfl rfl ?_
  refine Z.seq ?_
  refine Z.region ?_
  refine Z.lb 1 rfl ?_
  refine Z.lnil ?_
  refine Z.only [0] rfl ?_
  refine Z.nthen ?_
  refine Z.seq ?_
  refine Z.region ?_
  refine Z.le rfl trivial ?_
  refine Z.ZO.empty rfl rfl (by rfl) Try.underlying25 Try.sizeOf5 hs ?_
  clear hs; intro g4 w4 hs
  refine Z.lb 1 rfl ?_
  refine Z.le rfl trivial ?_
  refine Z.ZO.appendG (i0 := Try.t5) (size := 1) (bytes := 1) rfl rfl (by rfl) hs Try.underlying25 (by kernel_rfl) rfl rfl rfl rfl (by decide) rfl rfl (by first | exact SX.at0 | exact SX.at1 | exact SX.at2 | exact SX.at3 | exact SX.at4 | exact SX.at5 | exact Z.at6 | exact Z.at7 | exact Z.at8 | exact Z.at9 | exact Z.at10 | exact Z.at11 | exact Z.at12) (hx.st (hs.sub (List.nil_sublist _))) (by first | rfl | (simp [ints_length]; done) | (simp [ints_length]; omega)) (by first | exact Z.ints_one | simp [Value.oneCell']) (by unfold maxLen; omega) (by omega) ?_
  clear hs; intro v6 w6 hs
  simp only [List.set_cons_zero, List.set_cons_succ] at hs
  rw [List.nil_append, Nat.zero_add] at hs
  refine Z.lb 1 rfl ?_
  refine Z.lnil ?_
  refine Z.only [3] rfl ?_
  refine Z.nthen ?_
  refine Z.seq ?_
  refine Z.block ?_
  refine Z.loopk (ι := Nat × Value) [] rfl (fun k => [(3, [], k.2)]) (fun k wr => k.1 ≤ (8 - n % 8) % 8 ∧ SX.St w [] wr [SX.Ent.row k.2 5 1 (n + k.1) (ints .u8 (bits (bs ++ List.replicate k.1 false)))]) (fun k => 8 - k.1) (0, v6) (by refine ⟨?_, trivial⟩ <;> (first | rfl | (refine Z.lookv rfl ?_; simp; done) | (refine Z.lookv rfl ?_; simp; omega))) ⟨by omega, by simpa using hs⟩ ?_
  clear hs
  rintro ⟨k, sv⟩ w1 ⟨hkn, hs⟩
  refine Z.only [3] rfl ?_
  dsimp only at hs
  obtain ⟨Al, cl, rfl, hl1, hl2, -⟩ := SX.row_slv hs SX.at0
  refine Z.seq ?_
  refine Z.seq ?_
  refine Z.region ?_
  refine Z.lb 1 rfl ?_
  refine Z.l rfl rfl (by rfl) (Z.keepS hs) (Z.Yd.lenS rfl Try.underlying25) ?_
  refine Z.l rfl rfl (by rfl) (Z.keepS hs) (Z.Yd.rem rfl rfl (by intro hG; first | decide | omega) (by intro hG; first | exact Z.tmodn (by omega) | exact rfl)) ?_
  refine Z.lb 1 rfl ?_
  refine Z.lnil ?_
  refine Z.only [3, 10] rfl ?_
  refine Z.nthen ?_
  refine Z.cond rfl (fun hc2 => ?_) (fun hc2 => ?_)
  · first
      | (exfalso; simp at hc2 <;> omega)
      | (
        (try simp at hc2)
        refine Z.skip ?_
        refine Z.nthen ?_
        refine Z.block ?_
        refine Z.region ?_
        refine Z.lb 1 rfl ?_
        refine Z.le rfl trivial ?_
        refine Z.ZO.lit rfl rfl (by rfl) rfl (by intro W; go_simp; exact rfl) hs ?_
        clear hs; intro g12 w12 hs
        refine Z.le rfl trivial ?_
        refine Z.ZO.append (i0 := Try.t5) (size := 1) (bytes := 1) rfl rfl (by rfl) hs Try.underlying25 (by kernel_rfl) rfl rfl rfl rfl (by decide) rfl rfl (by first | exact SX.at0 | exact SX.at1 | exact SX.at2 | exact SX.at3 | exact SX.at4 | exact SX.at5 | exact Z.at6 | exact Z.at7 | exact Z.at8 | exact Z.at9 | exact Z.at10 | exact Z.at11 | exact Z.at12) (by first | exact SX.at0 | exact SX.at1 | exact SX.at2 | exact SX.at3 | exact SX.at4 | exact SX.at5 | exact Z.at6 | exact Z.at7 | exact Z.at8 | exact Z.at9 | exact Z.at10 | exact Z.at11 | exact Z.at12) (by first | rfl | simp) (by simp [Value.oneCell']) (by decide) (by unfold maxLen; omega) (by omega) ?_
        clear hs; intro g13 cap13 w13 hs
        simp only [List.set_cons_zero, List.set_cons_succ, List.eraseIdx_cons_zero, List.eraseIdx_cons_succ] at hs
        refine Z.lb 1 rfl ?_
        refine Z.lnil ?_
        refine Z.only [3] rfl ?_
        refine Z.nblock ?_
        refine Z.nthen ?_
        have e : ints .u8 (bits (bs ++ List.replicate k false)) ++ [.int .u8 0] = ints .u8 (bits (bs ++ List.replicate (k + 1) false)) := by
          have := bits_snoc (bs ++ List.replicate k false) false
          rw [List.append_assoc, ← List.replicate_succ'] at this
          exact this
        rw [e] at hs
        exact Z.again (k + 1, _) (by refine ⟨?_, trivial⟩ <;> (first | rfl | (refine Z.lookv rfl ?_; simp; done) | (refine Z.lookv rfl ?_; simp; omega))) ⟨by simp only; omega, hs⟩ (by simp only; omega)
        )
  · first
      | (exfalso; simp at hc2 <;> omega)
      | (
        (try simp at hc2)
        refine Z.exit ?_
        refine Z.xthen ?_
        refine Z.xthen ?_
        refine Z.xblock ?_
        refine Z.nthen ?_
        refine Z.seq ?_
        refine Z.region ?_
        refine Z.lb 2 rfl ?_
        refine Z.lnil ?_
        refine Z.only [2] rfl ?_
        refine Z.nthen ?_
        refine Z.ret ?_
        -- ret#0
        refine Z.out1 (by exact ⟨rfl, trivial⟩) ?_
        have e : k = (8 - n % 8) % 8 := by omega
        refine ⟨_, rfl, ?_⟩
        have e2 : (pad bs).length = n + k := by rw [pad_length]; omega
        rw [e2]
        unfold pad
        rw [hl, ← e]
        exact hs
        )

theorem refbytes (A : Option Addr) (n c : Nat) (bs : List Bool) (w : World) (hx : Sl w A (ints .u8 (bits bs))) (hl : bs.length = n) (hn : n ≤ 100000000) :
    Calls Try.prog 15 #[.slice A n c] w (SX.Ret fun r w' => SX.St w [] w' [SX.Ent.row r 5 1 (pk bs).length (ints .u8 (pk bs))]) := by
  have hs := SX.St.start w
  refine Z.enter Try.func15 rfl Try.ntmps15 rfl rfl ?_
  refine Z.seq ?_
  refine Z.region ?_
  refine Z.lb 1 rfl ?_
  refine Z.lnil ?_
  refine Z.only [0] rfl ?_
  refine Z.nthen ?_
  refine Z.seq ?_
  refine Z.region ?_
  refine Z.lb 1 rfl ?_
  refine Z.le rfl trivial ?_
  refine Z.ZO.call rfl rfl (by rfl) rfl rfl Try.call38 rfl (pack_any A n c bs _ hx hl hn) ?_
  rintro v1_1 w1_1 ⟨sv, rfl, hy⟩
  replace hs := hs.call hy
  clear hy
  simp only [List.cons_append, List.nil_append, List.append_nil] at hs
  refine Z.lb 5 rfl ?_
  refine Z.lnil ?_
  refine Z.only [3] rfl ?_
  refine Z.nthen ?_
  refine Z.seq ?_
  refine Z.region ?_
  refine Z.lb 2 rfl ?_
  refine Z.lnil ?_
  refine Z.only [2] rfl ?_
  refine Z.nthen ?_
  refine Z.ret ?_
  -- ret#0
  refine Z.out1 (by exact ⟨rfl, trivial⟩) ?_
  exact ⟨_, rfl, hs⟩
end Go.Proofs.Ytggikablbdhniaa
