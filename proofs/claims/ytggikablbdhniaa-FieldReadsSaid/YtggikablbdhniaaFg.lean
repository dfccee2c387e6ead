/- The document's PutAll; the law's few and act. -/
import Derived.Test.YtggikablbdhniaaFf
namespace Go.Proofs.Ytggikablbdhniaa
open Go.RowKit
set_option linter.unusedSimpArgs false
set_option linter.unusedVariables false

theorem Rmono {f : FuncId} {args : Array Value} {w : World} {A B : Value → World → Prop} (h : Calls Try.prog f args w (SX.Ret A)) (hAB : ∀ v w', A v w' → B v w') : Calls Try.prog f args w (SX.Ret B) :=
  callsIn_wide.1 (CallsIn.mono (n := 0) (callsIn_wide.2 h) fun e w' ⟨v, he, hv⟩ => ⟨v, he, hAB v w' hv⟩)

/-- a row of bits -/
def rowB (sv : Value) (bs : List Bool) : SX.Ent := SX.Ent.row sv 5 1 bs.length (ints .u8 (bits bs))
theorem resA_one (bs : List Bool) (f : Int × Int) : resA bs [f] = if chkF f = 0 then bs ++ fldF f else bs := by
  unfold resA
  by_cases h : chkF f = 0 <;> simp [chkA, h]

theorem refput_any (A : Option Addr) (n c : Nat) (bs : List Bool) (v wd : Int) (w : World) (hx : Sl w A (ints .u8 (bits bs))) (hl : bs.length = n) (hn : n ≤ 10000000) (hg : GoodF (v, wd)) :
    Calls Try.prog 34 #[.slice A n c, .int .u64 v, .int .i64 wd] w (SX.Ret fun r w' => ∃ sv', r = .tuple #[sv', .int .i64 (chkF (v, wd))] ∧ (chkF (v, wd) ≠ 0 → sv' = .slice A n c) ∧
      SX.St w [] w' (if chkF (v, wd) = 0 then [rowB sv' (bs ++ fldF (v, wd))] else [])) := by
  obtain ⟨h0, h1, h2, h3⟩ := hg
  simp only at h0 h1 h2 h3
  by_cases hw : wd < 0 ∨ 64 < wd
  · have hc : chkF (v, wd) = 2 := by unfold chkF; rw [if_pos hw]
    refine Rmono (refput_bad A n c v wd 2 w (by decide) fun W => fromUint_bad v wd W hw) ?_
    rintro r w' ⟨rfl, hs⟩
    exact ⟨_, by rw [hc], fun _ => rfl, by rw [hc]; exact hs⟩
  · obtain ⟨v, rfl⟩ := Int.eq_ofNat_of_zero_le h0
    obtain ⟨wd, rfl⟩ := Int.eq_ofNat_of_zero_le (show 0 ≤ wd by omega)
    by_cases hq : quoF ((v : Int), (wd : Int)) = 0
    · have hc : chkF ((v : Int), (wd : Int)) = 0 := by unfold chkF; rw [if_neg hw, if_pos hq]
      refine Rmono (refput_ok A n c bs v wd w hx hl hn (by omega) (by omega) hq) ?_
      rintro r w' ⟨sv, rfl, hs⟩
      refine ⟨sv, by rw [hc], fun h => absurd hc h, ?_⟩
      rw [if_pos hc]
      unfold rowB
      rw [List.length_append, hl, show (fldF ((v : Int), (wd : Int))).length = wd from fld_length _ _]
      exact hs
    · have hc : chkF ((v : Int), (wd : Int)) = 4 := by unfold chkF; rw [if_neg hw, if_neg hq]
      refine Rmono (refput_bad A n c v wd 4 w (by decide) fun W => fromUint_long v wd W (by omega) (by omega) hq) ?_
      rintro r w' ⟨rfl, hs⟩
      exact ⟨_, by rw [hc], fun _ => rfl, by rw [hc]; exact hs⟩

set_option maxRecDepth 100000 in
theorem refputall (sb : Value) (bs : List Bool) (B : Option Addr) (m d : Nat) (fs : List (Int × Int)) (w : World) (hs : SX.St w (SX.idsOf [rowB sb bs]) w [rowB sb bs])
    (hx : Sx w (SX.idsOf [rowB sb bs]) B (fs.flatMap encF)) (hl : fs.length = m) (hn : m ≤ 1000) (hb : bs.length ≤ 1000000) (hg : ∀ f ∈ fs, GoodF f) :
    Calls Try.prog 35 #[sb, .slice B m d] w (SX.Ret fun r w' => ∃ sv', r = .tuple #[sv', .int .i64 (chkA fs)] ∧ SX.St w (SX.idsOf [rowB sb bs]) w' [rowB sv' (resA bs fs)]) := by
  generalize hM : SX.idsOf [rowB sb bs] = M at *
  have hfl : (fs.flatMap encF).length = m * 2 := by rw [Z.flat_length (s := 2) encF_length, hl]
  refine Z.enter Try.func35 rfl Try.ntmps35 rfl rfl ?_
  refine Z.seq ?_
  refine Z.region ?_
  refine Z.lb 2 rfl ?_
  refine Z.lnil ?_
  refine Z.only [0, 1] rfl ?_
  refine Z.nthen ?_
  refine Z.seq ?_
  refine Z.region ?_
  refine Z.lb 2 rfl ?_
  refine Z.lnil ?_
  refine Z.only [0, 1, 6] rfl ?_
  refine Z.nthen ?_
  refine Z.seq ?_
  refine Z.seq ?_
  refine Z.region ?_
  refine Z.lb 1 rfl ?_
  refine Z.lnil ?_
  refine Z.only [0, 1, 6, 7] rfl ?_
  refine Z.nthen ?_
  refine Z.block ?_
  refine Z.loopk (ι := Nat × Value × List SX.Ent) [0, 1] rfl (fun k => [(6, [], k.2.1), (7, [], .int .i64 (k.1 : Int))]) (fun k wr => k.1 ≤ m ∧ chkA (fs.take k.1) = 0 ∧ (k.1 = 0 ∧ k.2.2 = [] ∧ k.2.1 = sb ∨ k.2.2 = [rowB k.2.1 (bs ++ (fs.take k.1).flatMap fldF)]) ∧ SX.St w M wr (k.2.2 ++ [rowB sb bs])) (fun k => m - k.1) (0, sb, []) (by refine ⟨?_, ?_, trivial⟩ <;> (first | rfl | (refine Z.lookv rfl ?_; simp; done) | (refine Z.lookv rfl ?_; simp; omega))) ⟨by omega, rfl, .inl ⟨rfl, rfl, rfl⟩, hs⟩ ?_
  clear hs
  rintro ⟨k, out, L0⟩ w1 ⟨hkm, hz, ho, hs⟩
  refine Z.only [0, 1, 6, 7] rfl ?_
  dsimp only at hs
  dsimp only at hkm hz ho
  refine Z.seq ?_
  refine Z.seq ?_
  refine Z.region ?_
  refine Z.lb 2 rfl ?_
  refine Z.l rfl rfl (by rfl) (Z.keepS hs) (Z.Yd.lenS rfl Try.underlying34) ?_
  refine Z.lb 1 rfl ?_
  refine Z.lnil ?_
  refine Z.only [0, 1, 6, 7, 14] rfl ?_
  refine Z.nthen ?_
  refine Z.cond rfl (fun hc3 => ?_) (fun hc3 => ?_)
  · first
      | (exfalso; simp at hc3 <;> omega)
      | (
        (try simp at hc3)
        obtain ⟨b, off, rfl, hx⟩ := hx.some (by omega)
        obtain ⟨⟨v, wd⟩, hf⟩ : ∃ f, fs[k]? = some f := ⟨_, List.getElem?_eq_getElem (by omega)⟩
        have hgf := hg _ (List.mem_of_getElem? hf)
        obtain ⟨bs1, hb1, hlen⟩ : ∃ bs1, bs1 = bs ++ (fs.take k).flatMap fldF ∧ bs1.length ≤ 1100000 := ⟨_, rfl, by
          have := flatF_length hz
          simp only [List.length_append, List.length_take] at this ⊢
          omega⟩
        obtain ⟨Ao, co, rfl, hxo⟩ : ∃ A c, out = .slice A bs1.length c ∧ ∀ w', SX.St w M w' (L0 ++ [rowB sb bs]) → Sl w' A (ints .u8 (bits bs1)) := by
          rcases ho with ⟨rfl, rfl, rfl⟩ | rfl
          · simp only [List.take_zero, List.flatMap_nil, List.append_nil] at hb1
            subst hb1
            obtain ⟨A, c, rfl, _, _, hq⟩ := SX.row_slv hs SX.at0
            exact ⟨A, c, rfl, fun w' h => SX.row_slB h SX.at0⟩
          · subst hb1
            obtain ⟨A, c, rfl, _, _, hq⟩ := SX.row_slv hs SX.at0
            exact ⟨A, c, rfl, fun w' h => SX.row_slB h SX.at0⟩
        refine Z.skip ?_
        refine Z.nthen ?_
        refine Z.seq ?_
        refine Z.block ?_
        refine Z.seq ?_
        refine Z.drawK (fun _ => true) mixed hs ?_
        clear hs; intro wd5 hs
        refine Z.tb [0, 1, 2] (by kernel_rfl) rfl ⟨_, hs, by first | (simp; done) | exact fun e he => List.mem_append_right _ he⟩ rfl ?_
        refine Z.t 3 rfl rfl rfl (by rfl) (by kernel_rfl) ⟨_, hs, by first | (simp; done) | exact fun e he => List.mem_append_right _ he⟩ (Z.Yd.elem rfl rfl Try.underlying34 Try.sizeOf50 (fun hG => ⟨(by first | omega | (have hG' := Z.gh rfl hG; simp at hG'; omega)), (by first | omega | (have hG' := Z.gh rfl hG; simp at hG'; omega))⟩)) ?_
        refine Z.t 4 rfl rfl rfl (by rfl) (by kernel_rfl) ⟨_, hs, by first | (simp; done) | exact fun e he => List.mem_append_right _ he⟩ (Z.Yd.fieldA (m := 0) rfl (by kernel_rfl)) ?_
        refine Z.t 5 rfl rfl rfl (by rfl) (by kernel_rfl) ⟨_, hs, by first | (simp; done) | exact fun e he => List.mem_append_right _ he⟩ (Z.Yd.load rfl Try.isAgg33 (fun _ => Z.cellXq (j := 0) hx encF_length hf rfl)) ?_
        refine Z.tb [6, 7] (by kernel_rfl) rfl ⟨_, hs, by first | (simp; done) | exact fun e he => List.mem_append_right _ he⟩ rfl ?_
        refine Z.t 8 rfl rfl rfl (by rfl) (by kernel_rfl) ⟨_, hs, by first | (simp; done) | exact fun e he => List.mem_append_right _ he⟩ (Z.Yd.elem rfl rfl Try.underlying34 Try.sizeOf50 (fun hG => ⟨(by first | omega | (have hG' := Z.gh rfl hG; simp at hG'; omega)), (by first | omega | (have hG' := Z.gh rfl hG; simp at hG'; omega))⟩)) ?_
        refine Z.t 9 rfl rfl rfl (by rfl) (by kernel_rfl) ⟨_, hs, by first | (simp; done) | exact fun e he => List.mem_append_right _ he⟩ (Z.Yd.fieldA (m := 1) rfl (by kernel_rfl)) ?_
        refine Z.t 10 rfl rfl rfl (by rfl) (by kernel_rfl) ⟨_, hs, by first | (simp; done) | exact fun e he => List.mem_append_right _ he⟩ (Z.Yd.load rfl Try.isAgg3 (fun _ => Z.cellXq (j := 1) hx encF_length hf rfl)) ?_
        refine Z.tn 11 rfl rfl (by kernel_rfl) rfl trivial ?_
        refine Z.ZO.call rfl rfl (by rfl) rfl rfl Try.call34 rfl (refput_any Ao _ co bs1 v wd _ (hxo _ hs) rfl (by omega) hgf) ?_
        rintro v5_11 w5_11 ⟨sv', rfl, hne, hy⟩
        replace hs := hs.call hy
        clear hy
        try simp only [List.cons_append, List.nil_append, List.append_nil] at hs
        refine Z.tk (Dn := fun _ => true) (i := 11) (fun _ => ⟨_, hs, by first | (simp; done) | exact fun e he => List.mem_append_right _ he⟩) ?_
        refine Z.tb [12, 13, 14, 15, 16] (by kernel_rfl) rfl ⟨_, hs, by first | (simp; done) | exact fun e he => List.mem_append_right _ he⟩ rfl ?_
        refine Z.td (by rfl) (by kernel_rfl) ?_
        refine Z.only [0, 1, 7, 8, 9] rfl ?_
        refine Z.nthen ?_
        refine Z.seq ?_
        refine Z.seq ?_
        refine Z.region ?_
        refine Z.lb 2 rfl ?_
        refine Z.lnil ?_
        refine Z.only [0, 1, 7, 8, 9, 33] rfl ?_
        refine Z.nthen ?_
        refine Z.cond rfl (fun hc6 => ?_) (fun hc6 => ?_)
        · first
            | (exfalso; simp at hc6 <;> omega)
            | (
              (try simp at hc6)
              refine Z.seq ?_
              refine Z.region ?_
              refine Z.lb 4 rfl ?_
              refine Z.lnil ?_
              refine Z.only [4, 5] rfl ?_
              refine Z.nthen ?_
              refine Z.ret ?_
              repeat (first | refine Z.rthen ?_ | refine Z.rblock ?_ | refine Z.rscope ?_)
              -- ret#0
              refine Z.out2 (by exact ⟨rfl, rfl, trivial⟩) ?_
              refine ⟨_, rfl, sb, by rw [chkA_at hf hz hc6], ?_⟩
              unfold resA
              rw [if_neg (by rw [chkA_at hf hz hc6]; exact hc6)]
              exact hs.sub (by simp)
              )
        · first
            | (exfalso; simp at hc6 <;> omega)
            | (
              (try simp at hc6)
              refine Z.skip ?_
              refine Z.nthen ?_
              refine Z.region ?_
              refine Z.lb 2 rfl ?_
              refine Z.lnil ?_
              refine Z.only [0, 1, 6, 7] rfl ?_
              refine Z.nblock ?_
              refine Z.nthen ?_
              refine Z.region ?_
              refine Z.lb 1 rfl ?_
              refine Z.l rfl rfl (by rfl) (Z.keepS hs) (Z.Yd.add rfl rfl (fun hG => Z.wi64 (by first | omega | (have hG' := Z.gh rfl hG; simp at hG'; omega)))) ?_
              refine Z.lb 1 rfl ?_
              refine Z.lnil ?_
              refine Z.only [0, 1, 6, 7] rfl ?_
              refine Z.nthen ?_
              rw [if_pos hc6] at hs
              have e : bs1 ++ fldF (v, wd) = bs ++ (fs.take (k + 1)).flatMap fldF := by
                rw [← take_snoc hf, hb1]
                simp [fldF]
              rw [e] at hs
              exact Z.again (k + 1, sv', [_]) (by refine ⟨?_, ?_, ?_, ?_, trivial⟩ <;> (first | rfl | (refine Z.lookv rfl ?_; simp; done) | (refine Z.lookv rfl ?_; simp; omega))) ⟨by simp only; omega, chkA_snoc hf hz hc6, .inr rfl, hs.sub (List.Sublist.cons_cons _ (List.sublist_append_right _ _))⟩ (by simp only; omega)
              )
        )
  · first
      | (exfalso; simp at hc3 <;> omega)
      | (
        (try simp at hc3)
        refine Z.exit ?_
        refine Z.xthen ?_
        refine Z.xthen ?_
        refine Z.xblock ?_
        refine Z.nthen ?_
        refine Z.seq ?_
        refine Z.region ?_
        refine Z.lb 3 rfl ?_
        refine Z.lnil ?_
        refine Z.only [4, 5] rfl ?_
        refine Z.nthen ?_
        refine Z.ret ?_
        -- ret#1
        refine Z.out2 (by exact ⟨rfl, rfl, trivial⟩) ?_
        obtain rfl : k = m := by omega
        rw [List.take_of_length_le (by omega)] at hz ho
        refine ⟨_, rfl, out, by rw [hz], ?_⟩
        unfold resA
        rw [if_pos hz]
        rcases ho with ⟨rfl, rfl, rfl⟩ | rfl
        · obtain rfl : fs = [] := List.eq_nil_of_length_eq_zero hl
          simpa using hs
        · exact hs.sub (List.sublist_append_left [_] _)
        )
end Go.Proofs.Ytggikablbdhniaa
