/- Part 6 of the proofs that lead to the statement. -/
import Derived.Test.YtbojkoiopkaciaaGreatY5
/- The MAC entity: facts of planning. -/
namespace Go.Proofs.YtbojkoiopkaciaaGreat
open Go.RowKit
set_option linter.unusedSimpArgs false
set_option linter.unusedVariables false

theorem bytes_nd (r : List Prt) : bytesP r = ndV r := rfl
theorem grpS_snoc (l : List (LgV × Int)) (x : LgV) (d k : Int) : grpS (l ++ [(x, d)]) k = grpS l k + if x.gr = k then d else 0 := by simp [grpS]
theorem grpS_bd {l : List (LgV × Int)} (h : ∀ p ∈ l, 0 ≤ p.2 ∧ p.2 ≤ 8388608) (k : Int) : 0 ≤ grpS l k ∧ grpS l k ≤ l.length * 8388608 := by
  induction l with
  | nil => simp [grpS]
  | cons p r ih =>
    have h1 := ih fun x hx => h x (by simp [hx])
    have h2 := h p Z.b22
    have e : grpS (p :: r) k = (if p.1.gr = k then p.2 else 0) + grpS r k := by simp [grpS]
    rw [e, List.length_cons]
    split <;> omega
def gcs (l : List (LgV × Int)) : List Value := [.int .i64 (grpS l 0), .int .i64 (grpS l 1), .int .i64 (grpS l 2), .int .i64 (grpS l 3)]
@[simp] theorem gcs_len (l : List (LgV × Int)) : (gcs l).length = 4 := rfl
theorem gcs_get (l : List (LgV × Int)) {k : Int} (h : 0 ≤ k ∧ k ≤ 3) : (gcs l)[0 + k.toNat * 1]? = some (.int .i64 (grpS l k)) := by
  have : k = 0 ∨ k = 1 ∨ k = 2 ∨ k = 3 := by omega
  rcases this with rfl | rfl | rfl | rfl <;> rfl
theorem gcs_set (l : List (LgV × Int)) (x : LgV) (d : Int) (h : 0 ≤ x.gr ∧ x.gr ≤ 3) : (gcs l).set (x.gr.toNat * 1) (.int .i64 (grpS l x.gr + d)) = gcs (l ++ [(x, d)]) := by
  have h4 : x.gr = 0 ∨ x.gr = 1 ∨ x.gr = 2 ∨ x.gr = 3 := by omega
  unfold gcs
  simp only [grpS_snoc]
  rcases h4 with h4 | h4 | h4 | h4 <;> rw [h4] <;> simp
theorem askd_bd {d : Int} (h : 0 ≤ d ∧ d ≤ 8388608) : 0 ≤ askd d ∧ askd d ≤ 8388611 := by unfold askd; split <;> omega
theorem zip_snd {α β : Type} {a : List α} {b : List β} {P : β → Prop} (h : ∀ y ∈ b, P y) : ∀ p ∈ a.zip b, P p.2 := fun p hp => h _ (List.of_mem_zip hp).2
theorem plan_okT {m : MaV} (hm : m.ok) {now n : Int} (h : okRd m now n) : okT m.b now := ⟨by have := hm.bn; have := h.2.1; omega, h.2.2⟩
theorem plan_okU {m : MaV} (hm : m.ok) {now n head : Int} {dem : List Int} (h : okPl m now n head dem) : okU m.r now (grpS (m.b.l.zip dem) 0) (grpS (m.b.l.zip dem) 1) (grpS (m.b.l.zip dem) 2) (grpS (m.b.l.zip dem) 3) head := by
  obtain ⟨h1, h2, h3, h4⟩ := h
  have hp := hm.b.pos
  have hz : (m.b.l.zip dem).length ≤ 10 := by rw [List.length_zip]; omega
  have hb := grpS_bd (zip_snd (a := m.b.l) h4)
  have hrn := hm.rn
  have h1' := h1.2
  rw [okU_iff]
  have g0 := hb 0
  have g1 := hb 1
  have g2 := hb 2
  have g3 := hb 3
  refine ⟨by omega, ⟨by omega, by omega, by omega, by omega⟩, h2⟩
theorem upd_now {m : RpV} {t a b c d h : Int} (hu : okU m t a b c d h) : (updV m t a b c d h).1.now = t ∧ (updV m t a b c d h).2 = 0 := by
  unfold updV
  rw [if_pos hu]
  exact ⟨rfl, rfl⟩
theorem plR_ok {m : MaV} (hm : m.ok) {now n head : Int} {dem : List Int} (h : okPl m now n head dem) : (plR m now head dem).ok ∧ (plR m now head dem).now ≤ now := by
  unfold plR
  split
  · exact ⟨hm.r.updV _ _ _ _ _ _, by rw [(upd_now (plan_okU hm h)).1]; exact Int.le_refl _⟩
  exact ⟨hm.r, by have := hm.rn; have := h.1.2.1; omega⟩
theorem els_ok {r : RpV} {now n : Int} (h1 : r.now ≤ now ∧ now < 1073741824) (hn : 0 ≤ n) : elsV r now n = (elM r now n, elP r n, 0) := if_pos ⟨h1, hn⟩
theorem bytesP_nn (r : List Prt) : 0 ≤ bytesP r := by
  induction r with
  | nil => simp [bytesP]
  | cons p r ih => have e : bytesP (p :: r) = (1 + (p.2.length : Int)) + bytesP r := by simp [bytesP]
                   omega
theorem els_bytes {r : RpV} {now n : Int} (h1 : r.now ≤ now ∧ now < 1073741824) (hn : 0 ≤ n) : 0 ≤ bytesP (elsV r now n).2.1 ∧ bytesP (elsV r now n).2.1 ≤ n := by
  rw [els_ok h1 hn]
  exact ⟨bytesP_nn _, by rw [bytes_nd]; exact nd_fits r now n ⟨h1, hn⟩⟩
theorem plN_bd {m : MaV} (hm : m.ok) {now n head : Int} {dem : List Int} (h : okPl m now n head dem) : 0 ≤ plN m now n head dem ∧ plN m now n head dem ≤ 16384 := by
  unfold plN
  have hn := h.1.1
  split
  · have := els_bytes (r := plR m now head dem) (now := now) (n := n) ⟨(plR_ok hm h).2, h.1.2.2⟩ Z.b10
    omega
  omega
theorem plan_okD {m : MaV} (hm : m.ok) {now n head : Int} {dem : List Int} (h : okPl m now n head dem) : okD (tickV m.b now).1 (plN m now n head dem) (dem.map askd) := by
  have := plN_bd hm h
  refine ⟨by omega, ?_, ?_⟩
  · rw [List.length_map, tickV_l]; exact h.2.2.1
  intro x hx
  obtain ⟨d, hd, rfl⟩ := List.mem_map.1 hx
  have := askd_bd (h.2.2.2 d hd)
  omega
theorem plan_div {m : MaV} (hm : m.ok) {now n head : Int} {dem : List Int} (h : okPl m now n head dem) : (plD m now n head dem).2.2 = 0 := by
  unfold plD
  rw [divV, if_pos (plan_okD hm h)]
theorem plan_out {m : MaV} (hm : m.ok) {now n head : Int} {dem : List Int} (h : okPl m now n head dem) : (plD m now n head dem).2.1.length = m.b.l.length ∧ ∀ k : Nat, k < m.b.l.length → 0 ≤ elt (plD m now n head dem).2.1 (k : Int) ∧ elt (plD m now n head dem).2.1 (k : Int) ≤ 8388611 := by
  have hd := plan_okD hm h
  have hr := rounds_ok (hm.b.tick now) hd 2
  have e : (plD m now n head dem).2.1 = (rounds (tickV m.b now).1 (plN m now n head dem) (dem.map askd) 2).out := by
    unfold plD
    rw [divV, if_pos hd]
  rw [e]
  have hl := hr.ol
  rw [tickV_l] at hl
  refine ⟨hl, fun k hk => ?_⟩
  have h1 := hr.og k (by rw [tickV_l]; exact hk)
  have hdl : k < dem.length := by have := h.2.2.1; omega
  have h2 : elt (dem.map askd) (k : Int) = askd dem[k] := by simp [elt, hdl]
  have h3 := askd_bd (h.2.2.2 dem[k] (List.getElem_mem _))
  rw [h2] at h1
  omega
theorem plan_ok {m : MaV} (hm : m.ok) {now n head : Int} {dem : List Int} : (planV m now n head dem).1.ok := by
  unfold planV
  split
  · rename_i h
    have ht := plan_okT hm h.1
    refine ⟨(hm.b.tick now).div _ _, (plR_ok hm h).1, ?_, (plR_ok hm h).2, ⟨by have := hm.ln; have := h.1.2.1; show 0 ≤ now; omega, h.1.2.2⟩⟩
    show (plD m now n head dem).1.now ≤ now
    unfold plD
    rw [(divV_l _ _ _).2, tickV, if_pos ht]
    exact Int.le_refl _
  exact hm
def PtV.mp (q : PtV) : MpV := ⟨q.lc, q.B, q.c, q.l⟩
theorem pt_mp (qs : List PtV) : (qs.map PtV.mp).flatMap MpV.cells = qs.flatMap PtV.cells := by rw [List.flatMap_map]; rfl
theorem bytesP_bd {r : List Prt} (h1 : r.length ≤ 100) (h2 : ∀ p ∈ r, p.2.length ≤ 100000) : ∀ i, 0 ≤ bytesP (r.take i) ∧ bytesP (r.take i) ≤ 100000000 := by
  intro i
  refine ⟨bytesP_nn _, ?_⟩
  have key : ∀ l : List Prt, (∀ p ∈ l, p.2.length ≤ 100000) → bytesP l ≤ l.length * 100001 := by
    intro l
    induction l with
    | nil => intro _; simp [bytesP]
    | cons p l ih =>
      intro h
      have h3 := ih fun x hx => h x (by simp [hx])
      have h4 := h p Z.b22
      have e : bytesP (p :: l) = (1 + (p.2.length : Int)) + bytesP l := by simp [bytesP]
      rw [e, List.length_cons]
      omega
  have h5 := key (r.take i) fun p hp => h2 p (List.mem_of_mem_take hp)
  have h6 : (r.take i).length ≤ 100 := by rw [List.length_take]; omega
  omega
end Go.Proofs.YtbojkoiopkaciaaGreat

/- The MAC entity: Plan. -/
namespace Go.Proofs.YtbojkoiopkaciaaGreat
open Go.RowKit
set_option linter.unusedSimpArgs false
set_option linter.unusedVariables false
--newlaws

def PlR (g gb gr : Nat) (C : Option Addr) (kc : Nat) (sv so : Value) (X : MaV × List Int × Int) (M : List Nat) (w : World) (v : Value) (w' : World) : Prop := ∃ ov, v = .tuple #[ov, .int .i64 X.2.2] ∧ SX.St w M w' (SX.Ent.row ov 3 1 X.2.1.length (ints .i64 X.2.1) :: maE g gb gr C kc sv so X.1)
set_option maxHeartbeats 4000000 in
set_option maxRecDepth 100000 in
theorem mx_plan_up (g gb gr : Nat) (C : Option Addr) (kc : Nat) (sv so : Value) (m : MaV) (now n head : Int) (D : Option Addr) (nd cd : Nat) (dem : List Int) (w : World) (hs : SX.St w (SX.idsOf (maE g gb gr C kc sv so m)) w (maE g gb gr C kc sv so m)) (hm : m.ok) (hup : m.up = true)
    (hC : Sx w (SX.idsOf (maE g gb gr C kc sv so m)) C (m.b.l.flatMap LgV.cells)) (hD : Sx w (SX.idsOf (maE g gb gr C kc sv so m)) D (ints .i64 dem)) (hdl : dem.length = nd) (hnd : nd ≤ 1000) :
    Calls Tryz.prog 16 #[.pointer (some ⟨g, 0, none⟩), .int .i64 now, .int .i64 n, .int .i64 head, .slice D nd cd] w (SX.Ret fun v w' => PlR g gb gr C kc sv so (planV m now n head dem) (SX.idsOf (maE g gb gr C kc sv so m)) w v w') := by
  generalize hM : SX.idsOf (maE g gb gr C kc sv so m) = M at *
  have hpos := hm.b.pos
  obtain ⟨bC, oC, rfl, hC2⟩ := hC.some (by rw [Z.flat_length lg_len]; omega)
  replace hs : SX.St w M w (SX.Ent.blk g 55 #[.pointer (some ⟨gb, 0, none⟩), .slice (some ⟨bC, oC, none⟩) m.b.l.length kc, .pointer (some ⟨gr, 0, none⟩), .int .i64 m.last] :: SX.Ent.blk gb 147 #[sv, so, .int .i64 m.b.now] :: SX.Ent.row sv 149 6 m.b.l.length (m.b.chs.flatMap chC) :: SX.Ent.row so 3 1 m.b.l.length (ints .i64 (natI (ordL m.b.l))) :: SX.Ent.blk gr 157 m.r.cells.toArray :: []) := by simpa [maE, bkE, rvP, rpE, hup] using hs
  have hfail : ¬ okPl m now n head dem → ∀ w', SX.St w M w' (SX.Ent.blk g 55 #[.pointer (some ⟨gb, 0, none⟩), .slice (some ⟨bC, oC, none⟩) m.b.l.length kc, .pointer (some ⟨gr, 0, none⟩), .int .i64 m.last] :: SX.Ent.blk gb 147 #[sv, so, .int .i64 m.b.now] :: SX.Ent.row sv 149 6 m.b.l.length (m.b.chs.flatMap chC) :: SX.Ent.row so 3 1 m.b.l.length (ints .i64 (natI (ordL m.b.l))) :: SX.Ent.blk gr 157 m.r.cells.toArray :: []) → PlR g gb gr (some ⟨bC, oC, none⟩) kc sv so (planV m now n head dem) M w (.tuple #[.slice none 0 0, .int .i64 2]) w' := fun hno w' h => by
    rw [planV, if_neg hno]
    exact ⟨_, rfl, SX.St.nil Z.b85 _ 1⟩
  refine Z.enterD Tryz.func16 rfl Tryz.ntmps16 rfl rfl ?_
  refine Z.g242 ?_
  refine Z.ZO.alloc rfl rfl (by rfl) Tryz.zeroValue34 rfl hs ?_
  clear hs; intro g10 w10 hs
  refine Z.g214 ?_
  clear hs; intro g11 w11 hs
  refine Z.g348 ?_
  refine Z.g203 ?_
  refine Z.g30 ?_
  refine Z.g97 ?_
  refine Z.g203 ?_
  refine Z.g272 ?_
  refine Z.g3 ?_
  refine Z.ZO.callB rfl rfl (by rfl) rfl rfl Tryz.call40 rfl (mx_ready g gb _ _ m now n _ (hs.celOf (cs := [_, _, _, _]) Z.b0)) ?_ ?_
  · skip
    rintro v2_3 w2_3 ⟨hrd, rfl, hy⟩
    replace hs := Z.w1 (hs.call hy); clear hy
    skip
    refine Z.g348 ?_
    refine Z.g203 ?_
    refine Z.g30 ?_
    refine Z.lb 8 rfl ?_
    refine Z.g26 ?_
    refine Z.g93 ?_
    refine Z.g12 ?_
    refine Z.g8 ?_
    refine Z.g138 ?_
    refine Z.g84 ?_
    refine Z.g92 ?_
    refine Z.ZO.callB rfl rfl (by rfl) rfl rfl Tryz.call41 rfl (mx_must _ 2 _) ?_ ?_
    · skip
      rintro v3_16 w3_16 ⟨hm3, rfl, hy⟩
      replace hs := Z.w1 (hs.call hy); clear hy
      have h3 : (0 ≤ head ∧ head ≤ 63) ∧ nd = m.b.l.length := by simp at hm3; omega
      refine Z.g348 ?_
      refine Z.g203 ?_
      refine Z.g30 ?_
      refine Z.g3 ?_
      refine Z.g100 ?_
      clear hs; intro g12 w12 hs
      refine Z.g348 ?_
      refine Z.only [0, 1, 2, 3, 4, 10, 11, 12] rfl ?_
      refine Z.g305 ?_
      refine Z.only [0, 1, 2, 3, 4, 10, 11, 12, 13] rfl ?_
      refine Z.g60 ?_
      replace hs := (hs.nil 3 1).sel [1, 0, 2, 3, 4, 5, 6, 7, 8] Z.b13
      refine Z.g18 ?_
      refine Z.g246 ?_
      refine Z.g170 ?_
      refine Z.g180 ?_
      refine Z.loopk (ι := Nat × Value) [0, 1, 2, 3, 10, 11, 12, 40, 41] rfl (fun x => [(13, [], x.2), (42, [], .int .i64 (x.1 : Int))]) (fun x wr => (x.1 ≤ nd ∧ okAs (dem.take x.1)) ∧ SX.St w M wr (SX.Ent.blk g12 37 (gcs ((m.b.l.zip dem).take x.1)).toArray :: SX.Ent.row x.2 3 1 x.1 (ints .i64 ((dem.take x.1).map askd)) :: SX.Ent.blk g11 31 #[.int .i64 0] :: SX.Ent.blk g10 34 #[.slice none 0 0] :: SX.Ent.blk g 55 #[.pointer (some ⟨gb, 0, none⟩), .slice (some ⟨bC, oC, none⟩) m.b.l.length kc, .pointer (some ⟨gr, 0, none⟩), .int .i64 m.last] :: SX.Ent.blk gb 147 #[sv, so, .int .i64 m.b.now] :: SX.Ent.row sv 149 6 m.b.l.length (m.b.chs.flatMap chC) :: SX.Ent.row so 3 1 m.b.l.length (ints .i64 (natI (ordL m.b.l))) :: SX.Ent.blk gr 157 m.r.cells.toArray :: [])) (fun x => nd - x.1) (0, .slice none 0 0) Z.b14 ⟨⟨Nat.zero_le _, by simp [okAs]⟩, hs⟩ ?_
      clear hs
      rintro ⟨i, av⟩ w7 ⟨⟨hi, hda⟩, hs⟩
      refine Z.g170 ?_
      (try dsimp only at hs)
      dsimp only at hi hda hs
      obtain ⟨Av, cv, rfl, -, -, -⟩ := SX.row_slv hs (j := 1) rfl
      refine Z.g90 ?_
      refine Z.only [0, 1, 2, 3, 10, 11, 12, 13, 40, 41, 42, 43] rfl ?_
      refine Z.g150 ?_
      refine Z.cond rfl (fun hc7 => ?_) (fun hc7 => ?_)
      · (try simp at hc7)
        obtain ⟨d, hd⟩ : ∃ d, dem[i]? = some d := ⟨_, List.getElem?_eq_getElem Z.b10⟩
        obtain ⟨ch, hch⟩ : ∃ c, m.b.l[i]? = some c := ⟨_, List.getElem?_eq_getElem Z.b10⟩
        have he : elt dem (i : Int) = d := by simp [elt, hd]
        obtain ⟨bD, oD, rfl, hD2⟩ := hD.some Z.b73
        have hcd : ∀ L W, SX.Keep w M L W → W.cell? ⟨bD, oD + (i : Int).toNat * 1, none⟩ = some (.int .i64 d) := fun L W hW => by rw [← he]; exact Z.cellXi hD2 Z.b10 Z.b10 W hW
        have hgr := (hm.b.set.2.1 ch (List.mem_of_getElem? hch)).2.2.2.2
        have hta : dem.take (i + 1) = dem.take i ++ [d] := by rw [List.take_add_one, hd]; rfl
        have htz : (m.b.l.zip dem).take (i + 1) = (m.b.l.zip dem).take i ++ [(ch, d)] := by
          have h7 : (m.b.l.zip dem)[i]? = some (ch, d) := by rw [List.getElem?_zip_eq_some]; exact ⟨hch, hd⟩
          rw [List.take_add_one, h7]
          rfl
        have hgb := grpS_bd (l := (m.b.l.zip dem).take i) (by rw [List.zip_eq_zipWith, List.take_zipWith, ← List.zip_eq_zipWith]; exact zip_snd hda) ch.gr
        have hzl : ((m.b.l.zip dem).take i).length ≤ 10 := by rw [List.length_take, List.length_zip]; omega
        refine Z.g213 ?_
        refine Z.g93 ?_
        refine Z.g25 ?_
        refine Z.l rfl rfl (by rfl) (Z.keepS hs) (Z.Yd.load rfl Tryz.isAgg3 (fun _ => hcd _)) ?_
        refine Z.g31 ?_
        refine Z.only [0, 1, 2, 3, 10, 11, 12, 13, 14, 15, 40, 41, 42] rfl ?_
        refine Z.g282 ?_
        refine Z.ZO.callB rfl rfl (by rfl) rfl rfl Tryz.call41 rfl (mx_must _ 2 _) ?_ ?_
        · skip
          rintro v9_6 w9_6 ⟨hm9, rfl, hy⟩
          replace hs := Z.w1 (hs.call hy); clear hy
          have hd9 : 0 ≤ d ∧ d ≤ 8388608 := by simp at hm9; omega
          have had := askd_bd hd9
          refine Z.g348 ?_
          refine Z.only [0, 1, 2, 3, 10, 11, 12, 13, 14, 15, 40, 41, 42] rfl ?_
          refine Z.g258 ?_
          refine Z.g12 ?_
          refine Z.g8 ?_
          refine Z.g138 ?_
          refine Z.g93 ?_
          refine Z.g233 ?_
          refine Z.g178 ?_
          refine Z.l rfl rfl (by rfl) (Z.keepS hs) (Z.Yd.load rfl Tryz.isAgg3 (fun _ => Z.cellXf hC2 lg_len hch rfl)) ?_
          refine Z.g71 ?_
          refine Z.l rfl rfl (by rfl) (Z.keepS hs) (Z.Yd.load rfl Tryz.isAgg3 (fun _ => Z.cellB (cs := (gcs ((m.b.l.zip dem).take i)).toArray) Z.b0 (by rw [Z.nth_eq]; simpa using gcs_get ((m.b.l.zip dem).take i) hgr))) ?_
          refine Z.g93 ?_
          refine Z.g5 ?_
          refine Z.g71 ?_
          refine Z.g183 ?_
          clear hs; intro ws hs
          replace hs := Z.w0 hs
          refine Z.g348 ?_
          refine Z.g207 ?_
          refine Z.g95 ?_
          refine Z.only [0, 1, 2, 3, 10, 11, 12, 13, 15, 40, 41, 42, 68] rfl ?_
          refine Z.g347 ?_
          refine Z.cutt (ι := Unit) [0, 1, 2, 3, 10, 11, 12, 13, 40, 41, 42] rfl (fun _ => [(15, [], .int .i64 (askd d))]) (fun _ wr => SX.St w M wr (SX.Ent.blk g12 37 (gcs ((m.b.l.zip dem).take (i + 1))).toArray :: SX.Ent.row (.slice Av i cv) 3 1 i (ints .i64 ((dem.take i).map askd)) :: SX.Ent.blk g11 31 #[.int .i64 0] :: SX.Ent.blk g10 34 #[.slice none 0 0] :: SX.Ent.blk g 55 #[.pointer (some ⟨gb, 0, none⟩), .slice (some ⟨bC, oC, none⟩) m.b.l.length kc, .pointer (some ⟨gr, 0, none⟩), .int .i64 m.last] :: SX.Ent.blk gb 147 #[sv, so, .int .i64 m.b.now] :: SX.Ent.row sv 149 6 m.b.l.length (m.b.chs.flatMap chC) :: SX.Ent.row so 3 1 m.b.l.length (ints .i64 (natI (ordL m.b.l))) :: SX.Ent.blk gr 157 m.r.cells.toArray :: [])) ?_ ?_
          · skip
            refine Z.cond rfl (fun hc11 => ?_) (fun hc11 => ?_)
            · (try simp at hc11)
              refine Z.g62 ?_
              refine Z.g207 ?_
              refine Z.g347 ?_
              rw [gcs_set _ _ _ hgr, ← htz] at hs; exact Z.meet () Z.b34 hs
            (try simp at hc11)
            refine Z.g266 ?_
            rw [gcs_set _ _ _ hgr, ← htz] at hs; exact Z.meet () Z.b34 hs
          clear hs
          rintro _ w11 hs
          refine Z.g207 ?_
          refine Z.g230 ?_
          refine Z.g92 ?_
          refine Z.g55 ?_
          clear hs; intro g73 w73 hs
          refine Z.g3 ?_
          refine Z.g38 ?_
          clear hs; intro g74 cap74 w74 hs
          simp only [List.set_cons_zero, List.set_cons_succ, List.eraseIdx_cons_zero, List.eraseIdx_cons_succ] at hs
          refine Z.g1 ?_
          refine Z.g170 ?_
          refine Z.g210 ?_
          refine Z.g170 ?_
          refine Z.g347 ?_
          have ea : ints .i64 ((dem.take i).map askd) ++ [.int .i64 (askd d)] = ints .i64 ((dem.take (i + 1)).map askd) := by rw [hta]; simp [ints]
          rw [ea] at hs
          exact Z.again (i + 1, _) (by refine ⟨?_, ?_, ?_, ?_, ?_, ?_, ?_, ?_, ?_, ?_, ?_, trivial⟩ <;> (first | rfl | (refine Z.lookv rfl ?_; simp; done) | (refine Z.lookv rfl ?_; simp; omega))) ⟨⟨by simp only; omega, by rw [hta]; intro z hz; rcases List.mem_append.1 hz with h | h; exact hda z h; (obtain rfl : z = d := by simpa using h); exact hd9⟩, hs⟩ Z.b21
        skip
        rintro c9_6 w9_6 ⟨hm9, rfl, hy⟩
        replace hs := Z.w1 (hs.call hy); clear hy
        have hno : ¬ okPl m now n head dem := fun h => by have h1 := h.2.2.2 d (List.mem_of_getElem? hd); simp at hm9; omega
        replace hs := hs.sel [2, 3, 4, 5, 6, 7, 8] Z.b13
        repeat (first | refine Z.pthen ?_ | refine Z.pblock ?_ | refine Z.pscope ?_)
        refine Z.g51 ?_
        rintro vD wD ⟨rfl, hz⟩
        replace hs := hs.regain hz
        refine ⟨[_, _], Z.b32, ?_⟩
        exact ⟨_, rfl, hfail hno _ (hs.sub (List.sublist_append_right _ _))⟩
      (try simp at hc7)
      refine Z.g211 ?_
      refine Z.g192 ?_
      refine Z.g47 ?_
      refine Z.g183 ?_
      clear hs; intro ws hs
      replace hs := Z.w0 hs
      refine Z.g348 ?_
      refine Z.only [0, 1, 2, 3, 10, 11, 12, 13] rfl ?_
      refine Z.g258 ?_
      refine Z.g129 ?_
      refine Z.l rfl rfl (by rfl) (Z.keepS hs) Z.b38 ?_
      refine Z.g93 ?_
      have hrd2 := plan_okT hm hrd
      obtain ⟨ht1, ht2⟩ : (tickV m.b now).2 = 0 ∧ (tickV m.b now).1.now = now := by rw [tickV, if_pos hrd2]; exact ⟨rfl, rfl⟩
      have htk := hm.b.tick now
      have htl := tickV_l m.b now
      replace hs : SX.St w M _ (bkE gb sv so m.b ++ [_, _, _, _, _, _]) := hs.sel [5, 6, 7, 0, 1, 2, 3, 4, 8] Z.b13
      refine Z.g3 ?_
      refine Z.ZO.call rfl rfl (by rfl) rfl rfl Tryz.call42 rfl (bk_tick gb sv so m.b now _ hs.lend hm.b) ?_
      rintro v16_5 w16_5 ⟨rfl, hz⟩
      replace hs := hs.regain hz
      rw [ht1]
      simp only [bkE, List.cons_append, List.nil_append] at hs
      refine Z.g32 ?_
      refine Z.ZO.call rfl rfl (by rfl) rfl rfl Tryz.call41 rfl (mx_must_ok _ 2 _ Z.b22) ?_
      rintro v16_7 w16_7 ⟨rfl, hy⟩
      replace hs := Z.w1 (hs.call hy); clear hy
      obtain rfl : i = nd := by omega
      rw [List.take_of_length_le Z.b10] at hda
      rw [List.take_of_length_le (l := dem) Z.b10, List.take_of_length_le (l := m.b.l.zip dem) (by rw [List.length_zip]; omega)] at hs
      have hok : okPl m now n head dem := ⟨hrd, h3.1, by omega, hda⟩
      have hbl : (plD m now n head dem).1.l = m.b.l := by unfold plD; rw [(divV_l _ _ _).1, tickV_l]
      have hN := (plan_out hm hok).1
      refine Z.g348 ?_
      refine Z.only [0, 1, 2, 3, 10, 11, 12, 13] rfl ?_
      refine Z.g124 ?_
      refine Z.g57 ?_
      refine Z.g348 ?_
      refine Z.only [0, 1, 2, 3, 10, 11, 12, 13, 92] rfl ?_
      refine Z.g347 ?_
      refine Z.cond rfl (fun hc17 => ?_) (fun h => absurd h Z.b22)
      refine Z.seq ?_
      refine Z.drawL [SX.Ent.blk g 55 #[.pointer (some ⟨gb, 0, none⟩), .slice (some ⟨bC, oC, none⟩) m.b.l.length kc, .pointer (some ⟨gr, 0, none⟩), .int .i64 now], SX.Ent.blk g12 37 (gcs (m.b.l.zip dem)).toArray] (fun j => j != 7) mixed hs ?_
      clear hs; intro wd18 hs
      refine Z.tX 0 [0, 1, 2, 3, 7] rfl rfl rfl (by rfl) Z.b4 ⟨_, hs, Z.b2⟩ (Z.Yd.pure rfl) ?_
      refine Z.tX 1 [1, 2, 3, 7] rfl rfl rfl (by rfl) Z.b4 ⟨_, hs, Z.b2⟩ (Z.Yd.nilc rfl rfl) ?_
      refine Z.tX 2 [2, 3, 7] rfl rfl rfl (by rfl) Z.b4 ⟨_, hs, Z.b2⟩ (Z.Yd.fieldA (m := 2) rfl Z.b4) ?_
      refine Z.t 3 rfl rfl rfl (by rfl) Z.b4 ⟨_, hs, Z.b2⟩ Z.b45 ?_
      refine Z.tb [4] Z.b4 rfl ⟨_, hs, Z.b2⟩ rfl ?_
      refine Z.t 5 rfl rfl rfl (by rfl) Z.b4 ⟨_, hs, Z.b2⟩ (Z.Yd.loadA _ rfl Tryz.isAgg37 (fun _ => Z.cellsB (cs := gcs (m.b.l.zip dem)) Z.b0) (by exact Tryz.sizeOf37)) ?_
      refine Z.tb [6] Z.b4 rfl ⟨_, hs, Z.b2⟩ rfl ?_
      replace hs := hs.sel [8, 0, 1, 2, 3, 4, 5, 6, 7] Z.b13
      have hro := plR_ok hm hok
      have hn1 := hrd.1
      have hplr : (updV m.r now (grpS (m.b.l.zip dem) 0) (grpS (m.b.l.zip dem) 1) (grpS (m.b.l.zip dem) 2) (grpS (m.b.l.zip dem) 3) head).1 = plR m now head dem := by unfold plR; rw [hup]; rfl
      refine Z.tn 7 rfl rfl Z.b4 rfl trivial ?_
      refine Z.ZO.call rfl rfl (by rfl) rfl rfl Tryz.call43 rfl (rp_update gr _ m.r now (grpS (m.b.l.zip dem) 0) (grpS (m.b.l.zip dem) 1) (grpS (m.b.l.zip dem) 2) (grpS (m.b.l.zip dem) 3) head _ (hs.lend (L1 := [_])) hm.r) ?_
      rintro v18_7 w18_7 ⟨rfl, hz⟩
      replace hs := hs.regain (L1 := [_]) hz
      rw [hplr] at hs
      replace hs := Z.w2 hs
      refine Z.tk (Dn := fun j => j != 7) (i := 7) (fun h => absurd h Z.b13) ?_
      refine Z.g67 ?_
      refine Z.only [0, 1, 2, 10, 11, 13] rfl ?_
      refine Z.g240 ?_
      refine Z.g192 ?_
      refine Z.g21 ?_
      refine Z.l rfl rfl (by rfl) (Z.keepS hs) Z.b45 ?_
      refine Z.g3 ?_
      refine Z.ZO.call rfl rfl (by rfl) rfl rfl Tryz.call46 rfl (rp_Copy gr (plR m now head dem) _ (hs.celOf Z.b0)) ?_
      rintro v19_5 w19_5 ⟨g2, rfl, hy⟩
      replace hs := Z.w1 (hs.call hy); clear hy
      refine Z.g92 ?_
      refine Z.ZO.call rfl rfl (by rfl) rfl rfl Tryz.call47 rfl (rp_elements g2 _ (plR m now head dem) now n _ (hs.lend (L1 := [_])) hro.1 Z.b10) ?_
      rintro v19_8 w19_8 ⟨sve, qs, rfl, hqs, hz⟩
      replace hs := hs.regain (L1 := [_]) hz
      have hel := els_ok (r := plR m now head dem) (now := now) (n := n) ⟨hro.2, hrd.2.2⟩ (by have := hrd.1; omega)
      have hbb := els_bytes (r := plR m now head dem) (now := now) (n := n) ⟨hro.2, hrd.2.2⟩ Z.b10
      rw [hel] at hs hqs hbb ⊢
      simp only at hbb
      simp only [ptsL, List.cons_append, List.nil_append] at hs hqs
      obtain ⟨Be, ce, rfl, -, -, -⟩ := SX.row_slv hs (j := 1) rfl
      have hql : qs.length ≤ 2 := by have h7 := congrArg List.length hqs; rw [List.length_map] at h7; have := elP_len (plR m now head dem) n; omega
      have hqf : ∀ q ∈ qs.map PtV.mp, q.l.length ≤ 100000 := fun q hq => by
        obtain ⟨z, hz1, rfl⟩ := List.mem_map.1 hq
        have h7 := elP_l3 (plR m now head dem) n z.plain (by rw [← hqs]; exact List.mem_map_of_mem hz1)
        have h8 : z.l.length ≤ 3 := h7
        show z.l.length ≤ 100000
        omega
      have hpm : (qs.map PtV.mp).map MpV.plain = elP (plR m now head dem) n := by rw [← hqs]; simp [PtV.mp, MpV.plain, PtV.plain]
      refine Z.g92 ?_
      refine Z.ZO.call rfl rfl (by rfl) rfl rfl Tryz.call45 rfl (got_ok (mx_gotPt _ 0 _) rfl) ?_
      rintro v19_11 w19_11 ⟨rfl, hy⟩
      replace hs := Z.w1 (hs.call hy); clear hy
      refine Z.g3 ?_
      refine Z.ZO.call rfl rfl (by rfl) rfl rfl Tryz.call44 rfl (mx_bytes Be _ ce (qs.map PtV.mp) _ (by rw [pt_mp]; exact hs.slm (A := Be) Z.b0) Z.b22 Z.b10 hqf (bytesP_bd (by rw [List.length_map, List.length_map]; omega) (fun p hp ↦ by obtain ⟨q, hq, rfl⟩ := List.mem_map.1 hp; exact hqf q hq))) ?_
      rintro v19_12 w19_12 ⟨rfl, hy⟩
      replace hs := Z.w1 (hs.call hy); clear hy
      rw [hpm]
      replace hs := hs.sub (((List.sublist_append_right _ _).cons _).cons _)
      refine Z.g17 ?_
      refine Z.g1 ?_
      refine Z.only [0, 2, 10, 11, 13] rfl ?_
      refine Z.g124 ?_
      refine Z.g129 ?_
      refine Z.l rfl rfl (by rfl) (Z.keepS hs) Z.b38 ?_
      refine Z.g19 ?_
      have hpn : n - bytesP (elP (plR m now head dem) n) = plN m now n head dem := by unfold plN; rw [hup, hel]; rfl
      rw [hpn]
      have hdv : divV (tickV m.b now).1 (plN m now n head dem) (dem.map askd) = ((plD m now n head dem).1, (plD m now n head dem).2.1, 0) := by
        have h8 := plan_div hm hok
        rw [← h8]
        rfl
      replace hs : SX.St w M _ (bkE gb sv so (tickV m.b now).1 ++ [_, _, _, _, _, _]) := hs.sel [1, 2, 3, 4, 5, 6, 7, 8, 0] Z.b13
      refine Z.g3 ?_
      refine Z.ZO.call rfl rfl (by rfl) rfl rfl Tryz.call49 rfl (bk_divide gb sv so (tickV m.b now).1 (plN m now n head dem) Av i cv (dem.map askd) _ hs.lend htk (Z.row_lentv hs (j := 1) rfl) (by rw [List.length_map]; omega)) ?_
      rintro v20_6 w20_6 ⟨ov, rfl, hz⟩
      replace hs := hs.regain hz
      rw [hdv]
      rw [hdv] at hs
      simp only [bkE, List.cons_append, List.nil_append] at hs
      obtain ⟨Aw, cw, rfl, -, -, -⟩ := SX.row_slv hs (j := 0) rfl
      refine Z.g92 ?_
      refine Z.ZO.call rfl rfl (by rfl) rfl rfl Tryz.call48 rfl (got_ok (mx_gotIs _ 0 _) rfl) ?_
      rintro v20_9 w20_9 ⟨rfl, hy⟩
      replace hs := Z.w1 (hs.call hy); clear hy
      refine Z.g246 ?_
      refine Z.g251 ?_
      refine Z.g180 ?_
      refine Z.loopk (ι := Nat × Value) [10, 11, 124, 125] rfl (fun x => [(126, [], .int .i64 (x.1 : Int))]) (fun x wr => x.1 ≤ (plD m now n head dem).2.1.length ∧ SX.St w M wr (SX.Ent.row x.2 3 1 x.1 (ints .i64 (((plD m now n head dem).2.1.take x.1).map fun y => max 0 (y - 3))) :: SX.Ent.row (.slice Aw (plD m now n head dem).2.1.length cw) 3 1 (plD m now n head dem).2.1.length (ints .i64 (plD m now n head dem).2.1) :: SX.Ent.blk g11 31 #[.int .i64 0] :: SX.Ent.blk g10 34 #[x.2] :: SX.Ent.blk g 55 #[.pointer (some ⟨gb, 0, none⟩), .slice (some ⟨bC, oC, none⟩) m.b.l.length kc, .pointer (some ⟨gr, 0, none⟩), .int .i64 now] :: SX.Ent.blk gb 147 #[sv, so, .int .i64 (plD m now n head dem).1.now] :: SX.Ent.row sv 149 6 (plD m now n head dem).1.l.length ((plD m now n head dem).1.chs.flatMap chC) :: SX.Ent.row so 3 1 (plD m now n head dem).1.l.length (ints .i64 (natI (ordL (plD m now n head dem).1.l))) :: SX.Ent.blk gr 157 (plR m now head dem).cells.toArray :: [])) (fun x => (plD m now n head dem).2.1.length - x.1) (0, .slice none 0 0) Z.b6 ⟨Nat.zero_le _, by simpa [hbl, ints] using (hs.nil 3 1).sel [0, 1, 7, 8, 9, 2, 3, 4, 10] Z.b13⟩ ?_
      clear hs
      rintro ⟨k, vo⟩ w21 ⟨hk, hs⟩
      refine Z.g251 ?_
      (try dsimp only at hs)
      dsimp only at hk hs
      obtain ⟨Ao, co, rfl, -, -, -⟩ := SX.row_slv hs (j := 0) rfl
      refine Z.g0 ?_
      skip
      refine Z.g292 ?_
      refine Z.only [10, 11, 124, 125, 126, 127] rfl ?_
      refine Z.g150 ?_
      refine Z.cond rfl (fun hc21 => ?_) (fun hc21 => ?_)
      · (try simp at hc21)
        obtain ⟨gw, cw', e9, -, -⟩ := row_form (j := 1) hs rfl Z.b10
        cases e9
        obtain ⟨y, hy0⟩ : ∃ y, (plD m now n head dem).2.1[k]? = some y := ⟨_, List.getElem?_eq_getElem Z.b10⟩
        have hyb := (plan_out hm hok).2 k (by have := (plan_out hm hok).1; omega)
        rw [show elt (plD m now n head dem).2.1 (k : Int) = y from by simp [elt, hy0]] at hyb
        have hyc : (ints .i64 (plD m now n head dem).2.1)[0 + (k : Int).toNat * 1]? = some (.int .i64 y) := by
          rw [show 0 + (k : Int).toNat * 1 = k from by omega]
          unfold ints
          rw [List.getElem?_map, hy0]
          rfl
        refine Z.g213 ?_
        refine Z.g25 ?_
        refine Z.l rfl rfl (by rfl) (Z.keepS hs) (Z.Yd.load rfl Tryz.isAgg3 (fun _ => Z.cellR Z.b0 hyc)) ?_
        refine Z.g1 ?_
        refine Z.only [10, 11, 17, 124, 125, 126] rfl ?_
        refine Z.g240 ?_
        refine Z.g160 ?_
        refine Z.g93 ?_
        refine Z.g17 ?_
        refine Z.l rfl rfl (by rfl) (Z.keepS hs) (Z.Yd.max rfl rfl) ?_
        refine Z.g3 ?_
        refine Z.g55 ?_
        clear hs; intro g134 w134 hs
        refine Z.g3 ?_
        refine Z.g38 ?_
        clear hs; intro g135 cap135 w135 hs
        simp only [List.set_cons_zero, List.set_cons_succ, List.eraseIdx_cons_zero, List.eraseIdx_cons_succ] at hs
        refine Z.g3 ?_
        refine Z.g111 ?_
        clear hs; intro ws hs
        replace hs := Z.w0 hs
        refine Z.g348 ?_
        refine Z.g251 ?_
        refine Z.g210 ?_
        refine Z.g251 ?_
        refine Z.g347 ?_
        have ea : ints .i64 (((plD m now n head dem).2.1.take k).map fun y => max 0 (y - 3)) ++ [.int .i64 (max 0 (y - 3))] = ints .i64 (((plD m now n head dem).2.1.take (k + 1)).map fun y => max 0 (y - 3)) := by rw [List.take_add_one, hy0]; simp [ints]
        rw [ea] at hs
        exact Z.again (k + 1, _) Z.b9 ⟨by simp only; omega, hs⟩ Z.b21
      (try simp at hc21)
      refine Z.g211 ?_
      obtain rfl : k = (plD m now n head dem).2.1.length := by omega
      rw [List.take_of_length_le (Nat.le_refl _)] at hs
      refine Z.g160 ?_
      refine Z.g3 ?_
      refine Z.g111 ?_
      clear hs; intro ws hs
      replace hs := Z.w0 hs
      refine Z.g261 ?_
      clear hs; intro ws hs
      replace hs := Z.w0 hs
      refine Z.g348 ?_
      refine Z.only [10, 11] rfl ?_
      refine Z.g6 ?_
      refine Z.outDr Tryz.call26 (mx_caught_ret g11 _ _ _) ?_
      rintro vD wD ⟨rfl, hy⟩
      replace hs := hs.call hy
      refine ⟨[_, _], Z.b32, ?_⟩
      refine ⟨_, rfl, .slice Ao (plD m now n head dem).2.1.length co, ?_⟩
      rw [planV, if_pos hok]
      exact ⟨rfl, by simpa [maE, bkE, rvP, rpE, hup, hbl] using hs.sel [0, 4, 5, 6, 7, 8] Z.b13⟩
    skip
    rintro c3_16 w3_16 ⟨hm3, rfl, hy⟩
    replace hs := Z.w1 (hs.call hy); clear hy
    have hno : ¬ okPl m now n head dem := fun h => by have h1 := h.2.1; have h2 := h.2.2.1; simp at hm3; omega
    repeat (first | refine Z.pthen ?_ | refine Z.pblock ?_ | refine Z.pscope ?_)
    refine Z.g51 ?_
    rintro vD wD ⟨rfl, hz⟩
    replace hs := hs.regain hz
    refine ⟨[_, _], Z.b32, ?_⟩
    exact ⟨_, rfl, hfail hno _ (hs.sub (List.sublist_append_right _ _))⟩
  skip
  rintro c2_3 w2_3 ⟨hrd, rfl, hy⟩
  replace hs := Z.w1 (hs.call hy); clear hy
  have hno : ¬ okPl m now n head dem := fun h => hrd h.1
  repeat (first | refine Z.pthen ?_ | refine Z.pblock ?_ | refine Z.pscope ?_)
  refine Z.g51 ?_
  rintro vD wD ⟨rfl, hz⟩
  replace hs := hs.regain hz
  refine ⟨[_, _], Z.b32, ?_⟩
  exact ⟨_, rfl, hfail hno _ (hs.sub (List.sublist_append_right _ _))⟩
set_option maxHeartbeats 4000000 in
set_option maxRecDepth 100000 in
theorem mx_plan_dn (g gb gr : Nat) (C : Option Addr) (kc : Nat) (sv so : Value) (m : MaV) (now n head : Int) (D : Option Addr) (nd cd : Nat) (dem : List Int) (w : World) (hs : SX.St w (SX.idsOf (maE g gb gr C kc sv so m)) w (maE g gb gr C kc sv so m)) (hm : m.ok) (hup : m.up = false)
    (hC : Sx w (SX.idsOf (maE g gb gr C kc sv so m)) C (m.b.l.flatMap LgV.cells)) (hD : Sx w (SX.idsOf (maE g gb gr C kc sv so m)) D (ints .i64 dem)) (hdl : dem.length = nd) (hnd : nd ≤ 1000) :
    Calls Tryz.prog 16 #[.pointer (some ⟨g, 0, none⟩), .int .i64 now, .int .i64 n, .int .i64 head, .slice D nd cd] w (SX.Ret fun v w' => PlR g gb gr C kc sv so (planV m now n head dem) (SX.idsOf (maE g gb gr C kc sv so m)) w v w') := by
  generalize hM : SX.idsOf (maE g gb gr C kc sv so m) = M at *
  have hpos := hm.b.pos
  obtain ⟨bC, oC, rfl, hC2⟩ := hC.some (by rw [Z.flat_length lg_len]; omega)
  replace hs : SX.St w M w (SX.Ent.blk g 55 #[.pointer (some ⟨gb, 0, none⟩), .slice (some ⟨bC, oC, none⟩) m.b.l.length kc, .pointer none, .int .i64 m.last] :: SX.Ent.blk gb 147 #[sv, so, .int .i64 m.b.now] :: SX.Ent.row sv 149 6 m.b.l.length (m.b.chs.flatMap chC) :: SX.Ent.row so 3 1 m.b.l.length (ints .i64 (natI (ordL m.b.l))) :: []) := by simpa [maE, bkE, rvP, rpE, hup] using hs
  have hfail : ¬ okPl m now n head dem → ∀ w', SX.St w M w' (SX.Ent.blk g 55 #[.pointer (some ⟨gb, 0, none⟩), .slice (some ⟨bC, oC, none⟩) m.b.l.length kc, .pointer none, .int .i64 m.last] :: SX.Ent.blk gb 147 #[sv, so, .int .i64 m.b.now] :: SX.Ent.row sv 149 6 m.b.l.length (m.b.chs.flatMap chC) :: SX.Ent.row so 3 1 m.b.l.length (ints .i64 (natI (ordL m.b.l))) :: []) → PlR g gb gr (some ⟨bC, oC, none⟩) kc sv so (planV m now n head dem) M w (.tuple #[.slice none 0 0, .int .i64 2]) w' := fun hno w' h => by
    rw [planV, if_neg hno]
    exact ⟨_, rfl, SX.St.nil Z.b85 _ 1⟩
  refine Z.enterD Tryz.func16 rfl Tryz.ntmps16 rfl rfl ?_
  refine Z.g242 ?_
  refine Z.ZO.alloc rfl rfl (by rfl) Tryz.zeroValue34 rfl hs ?_
  clear hs; intro g10 w10 hs
  refine Z.g214 ?_
  clear hs; intro g11 w11 hs
  refine Z.g348 ?_
  refine Z.g203 ?_
  refine Z.g30 ?_
  refine Z.g97 ?_
  refine Z.g203 ?_
  refine Z.g272 ?_
  refine Z.g3 ?_
  refine Z.ZO.callB rfl rfl (by rfl) rfl rfl Tryz.call40 rfl (mx_ready g gb _ _ m now n _ (hs.celOf (cs := [_, _, _, _]) Z.b0)) ?_ ?_
  · skip
    rintro v2_3 w2_3 ⟨hrd, rfl, hy⟩
    replace hs := Z.w1 (hs.call hy); clear hy
    skip
    refine Z.g348 ?_
    refine Z.g203 ?_
    refine Z.g30 ?_
    refine Z.lb 8 rfl ?_
    refine Z.g26 ?_
    refine Z.g93 ?_
    refine Z.g12 ?_
    refine Z.g8 ?_
    refine Z.g138 ?_
    refine Z.g84 ?_
    refine Z.g92 ?_
    refine Z.ZO.callB rfl rfl (by rfl) rfl rfl Tryz.call41 rfl (mx_must _ 2 _) ?_ ?_
    · skip
      rintro v3_16 w3_16 ⟨hm3, rfl, hy⟩
      replace hs := Z.w1 (hs.call hy); clear hy
      have h3 : (0 ≤ head ∧ head ≤ 63) ∧ nd = m.b.l.length := by simp at hm3; omega
      refine Z.g348 ?_
      refine Z.g203 ?_
      refine Z.g30 ?_
      refine Z.g3 ?_
      refine Z.g100 ?_
      clear hs; intro g12 w12 hs
      refine Z.g348 ?_
      refine Z.only [0, 1, 2, 3, 4, 10, 11, 12] rfl ?_
      refine Z.g305 ?_
      refine Z.only [0, 1, 2, 3, 4, 10, 11, 12, 13] rfl ?_
      refine Z.g60 ?_
      replace hs := (hs.nil 3 1).sel [1, 0, 2, 3, 4, 5, 6, 7] Z.b13
      refine Z.g18 ?_
      refine Z.g246 ?_
      refine Z.g170 ?_
      refine Z.g180 ?_
      refine Z.loopk (ι := Nat × Value) [0, 1, 2, 3, 10, 11, 12, 40, 41] rfl (fun x => [(13, [], x.2), (42, [], .int .i64 (x.1 : Int))]) (fun x wr => (x.1 ≤ nd ∧ okAs (dem.take x.1)) ∧ SX.St w M wr (SX.Ent.blk g12 37 (gcs ((m.b.l.zip dem).take x.1)).toArray :: SX.Ent.row x.2 3 1 x.1 (ints .i64 ((dem.take x.1).map askd)) :: SX.Ent.blk g11 31 #[.int .i64 0] :: SX.Ent.blk g10 34 #[.slice none 0 0] :: SX.Ent.blk g 55 #[.pointer (some ⟨gb, 0, none⟩), .slice (some ⟨bC, oC, none⟩) m.b.l.length kc, .pointer none, .int .i64 m.last] :: SX.Ent.blk gb 147 #[sv, so, .int .i64 m.b.now] :: SX.Ent.row sv 149 6 m.b.l.length (m.b.chs.flatMap chC) :: SX.Ent.row so 3 1 m.b.l.length (ints .i64 (natI (ordL m.b.l))) :: [])) (fun x => nd - x.1) (0, .slice none 0 0) Z.b14 ⟨⟨Nat.zero_le _, by simp [okAs]⟩, hs⟩ ?_
      clear hs
      rintro ⟨i, av⟩ w7 ⟨⟨hi, hda⟩, hs⟩
      refine Z.g170 ?_
      (try dsimp only at hs)
      dsimp only at hi hda hs
      obtain ⟨Av, cv, rfl, -, -, -⟩ := SX.row_slv hs (j := 1) rfl
      refine Z.g90 ?_
      refine Z.only [0, 1, 2, 3, 10, 11, 12, 13, 40, 41, 42, 43] rfl ?_
      refine Z.g150 ?_
      refine Z.cond rfl (fun hc7 => ?_) (fun hc7 => ?_)
      · (try simp at hc7)
        obtain ⟨d, hd⟩ : ∃ d, dem[i]? = some d := ⟨_, List.getElem?_eq_getElem Z.b10⟩
        obtain ⟨ch, hch⟩ : ∃ c, m.b.l[i]? = some c := ⟨_, List.getElem?_eq_getElem Z.b10⟩
        have he : elt dem (i : Int) = d := by simp [elt, hd]
        obtain ⟨bD, oD, rfl, hD2⟩ := hD.some Z.b73
        have hcd : ∀ L W, SX.Keep w M L W → W.cell? ⟨bD, oD + (i : Int).toNat * 1, none⟩ = some (.int .i64 d) := fun L W hW => by rw [← he]; exact Z.cellXi hD2 Z.b10 Z.b10 W hW
        have hgr := (hm.b.set.2.1 ch (List.mem_of_getElem? hch)).2.2.2.2
        have hta : dem.take (i + 1) = dem.take i ++ [d] := by rw [List.take_add_one, hd]; rfl
        have htz : (m.b.l.zip dem).take (i + 1) = (m.b.l.zip dem).take i ++ [(ch, d)] := by
          have h7 : (m.b.l.zip dem)[i]? = some (ch, d) := by rw [List.getElem?_zip_eq_some]; exact ⟨hch, hd⟩
          rw [List.take_add_one, h7]
          rfl
        have hgb := grpS_bd (l := (m.b.l.zip dem).take i) (by rw [List.zip_eq_zipWith, List.take_zipWith, ← List.zip_eq_zipWith]; exact zip_snd hda) ch.gr
        have hzl : ((m.b.l.zip dem).take i).length ≤ 10 := by rw [List.length_take, List.length_zip]; omega
        refine Z.g213 ?_
        refine Z.g93 ?_
        refine Z.g25 ?_
        refine Z.l rfl rfl (by rfl) (Z.keepS hs) (Z.Yd.load rfl Tryz.isAgg3 (fun _ => hcd _)) ?_
        refine Z.g31 ?_
        refine Z.only [0, 1, 2, 3, 10, 11, 12, 13, 14, 15, 40, 41, 42] rfl ?_
        refine Z.g282 ?_
        refine Z.ZO.callB rfl rfl (by rfl) rfl rfl Tryz.call41 rfl (mx_must _ 2 _) ?_ ?_
        · skip
          rintro v9_6 w9_6 ⟨hm9, rfl, hy⟩
          replace hs := Z.w1 (hs.call hy); clear hy
          have hd9 : 0 ≤ d ∧ d ≤ 8388608 := by simp at hm9; omega
          have had := askd_bd hd9
          refine Z.g348 ?_
          refine Z.only [0, 1, 2, 3, 10, 11, 12, 13, 14, 15, 40, 41, 42] rfl ?_
          refine Z.g258 ?_
          refine Z.g12 ?_
          refine Z.g8 ?_
          refine Z.g138 ?_
          refine Z.g93 ?_
          refine Z.g233 ?_
          refine Z.g178 ?_
          refine Z.l rfl rfl (by rfl) (Z.keepS hs) (Z.Yd.load rfl Tryz.isAgg3 (fun _ => Z.cellXf hC2 lg_len hch rfl)) ?_
          refine Z.g71 ?_
          refine Z.l rfl rfl (by rfl) (Z.keepS hs) (Z.Yd.load rfl Tryz.isAgg3 (fun _ => Z.cellB (cs := (gcs ((m.b.l.zip dem).take i)).toArray) Z.b0 (by rw [Z.nth_eq]; simpa using gcs_get ((m.b.l.zip dem).take i) hgr))) ?_
          refine Z.g93 ?_
          refine Z.g5 ?_
          refine Z.g71 ?_
          refine Z.g183 ?_
          clear hs; intro ws hs
          replace hs := Z.w0 hs
          refine Z.g348 ?_
          refine Z.g207 ?_
          refine Z.g95 ?_
          refine Z.only [0, 1, 2, 3, 10, 11, 12, 13, 15, 40, 41, 42, 68] rfl ?_
          refine Z.g347 ?_
          refine Z.cutt (ι := Unit) [0, 1, 2, 3, 10, 11, 12, 13, 40, 41, 42] rfl (fun _ => [(15, [], .int .i64 (askd d))]) (fun _ wr => SX.St w M wr (SX.Ent.blk g12 37 (gcs ((m.b.l.zip dem).take (i + 1))).toArray :: SX.Ent.row (.slice Av i cv) 3 1 i (ints .i64 ((dem.take i).map askd)) :: SX.Ent.blk g11 31 #[.int .i64 0] :: SX.Ent.blk g10 34 #[.slice none 0 0] :: SX.Ent.blk g 55 #[.pointer (some ⟨gb, 0, none⟩), .slice (some ⟨bC, oC, none⟩) m.b.l.length kc, .pointer none, .int .i64 m.last] :: SX.Ent.blk gb 147 #[sv, so, .int .i64 m.b.now] :: SX.Ent.row sv 149 6 m.b.l.length (m.b.chs.flatMap chC) :: SX.Ent.row so 3 1 m.b.l.length (ints .i64 (natI (ordL m.b.l))) :: [])) ?_ ?_
          · skip
            refine Z.cond rfl (fun hc11 => ?_) (fun hc11 => ?_)
            · (try simp at hc11)
              refine Z.g62 ?_
              refine Z.g207 ?_
              refine Z.g347 ?_
              rw [gcs_set _ _ _ hgr, ← htz] at hs; exact Z.meet () Z.b34 hs
            (try simp at hc11)
            refine Z.g266 ?_
            rw [gcs_set _ _ _ hgr, ← htz] at hs; exact Z.meet () Z.b34 hs
          clear hs
          rintro _ w11 hs
          refine Z.g207 ?_
          refine Z.g230 ?_
          refine Z.g92 ?_
          refine Z.g55 ?_
          clear hs; intro g73 w73 hs
          refine Z.g3 ?_
          refine Z.g38 ?_
          clear hs; intro g74 cap74 w74 hs
          simp only [List.set_cons_zero, List.set_cons_succ, List.eraseIdx_cons_zero, List.eraseIdx_cons_succ] at hs
          refine Z.g1 ?_
          refine Z.g170 ?_
          refine Z.g210 ?_
          refine Z.g170 ?_
          refine Z.g347 ?_
          have ea : ints .i64 ((dem.take i).map askd) ++ [.int .i64 (askd d)] = ints .i64 ((dem.take (i + 1)).map askd) := by rw [hta]; simp [ints]
          rw [ea] at hs
          exact Z.again (i + 1, _) (by refine ⟨?_, ?_, ?_, ?_, ?_, ?_, ?_, ?_, ?_, ?_, ?_, trivial⟩ <;> (first | rfl | (refine Z.lookv rfl ?_; simp; done) | (refine Z.lookv rfl ?_; simp; omega))) ⟨⟨by simp only; omega, by rw [hta]; intro z hz; rcases List.mem_append.1 hz with h | h; exact hda z h; (obtain rfl : z = d := by simpa using h); exact hd9⟩, hs⟩ Z.b21
        skip
        rintro c9_6 w9_6 ⟨hm9, rfl, hy⟩
        replace hs := Z.w1 (hs.call hy); clear hy
        have hno : ¬ okPl m now n head dem := fun h => by have h1 := h.2.2.2 d (List.mem_of_getElem? hd); simp at hm9; omega
        replace hs := hs.sel [2, 3, 4, 5, 6, 7] Z.b13
        repeat (first | refine Z.pthen ?_ | refine Z.pblock ?_ | refine Z.pscope ?_)
        refine Z.g51 ?_
        rintro vD wD ⟨rfl, hz⟩
        replace hs := hs.regain hz
        refine ⟨[_, _], Z.b32, ?_⟩
        exact ⟨_, rfl, hfail hno _ (hs.sub (List.sublist_append_right _ _))⟩
      (try simp at hc7)
      refine Z.g211 ?_
      refine Z.g192 ?_
      refine Z.g47 ?_
      refine Z.g183 ?_
      clear hs; intro ws hs
      replace hs := Z.w0 hs
      refine Z.g348 ?_
      refine Z.only [0, 1, 2, 3, 10, 11, 12, 13] rfl ?_
      refine Z.g258 ?_
      refine Z.g129 ?_
      refine Z.l rfl rfl (by rfl) (Z.keepS hs) Z.b38 ?_
      refine Z.g93 ?_
      have hrd2 := plan_okT hm hrd
      obtain ⟨ht1, ht2⟩ : (tickV m.b now).2 = 0 ∧ (tickV m.b now).1.now = now := by rw [tickV, if_pos hrd2]; exact ⟨rfl, rfl⟩
      have htk := hm.b.tick now
      have htl := tickV_l m.b now
      replace hs : SX.St w M _ (bkE gb sv so m.b ++ [_, _, _, _, _]) := hs.sel [5, 6, 7, 0, 1, 2, 3, 4] Z.b13
      refine Z.g3 ?_
      refine Z.ZO.call rfl rfl (by rfl) rfl rfl Tryz.call42 rfl (bk_tick gb sv so m.b now _ hs.lend hm.b) ?_
      rintro v16_5 w16_5 ⟨rfl, hz⟩
      replace hs := hs.regain hz
      rw [ht1]
      simp only [bkE, List.cons_append, List.nil_append] at hs
      refine Z.g32 ?_
      refine Z.ZO.call rfl rfl (by rfl) rfl rfl Tryz.call41 rfl (mx_must_ok _ 2 _ Z.b22) ?_
      rintro v16_7 w16_7 ⟨rfl, hy⟩
      replace hs := Z.w1 (hs.call hy); clear hy
      obtain rfl : i = nd := by omega
      rw [List.take_of_length_le Z.b10] at hda
      rw [List.take_of_length_le (l := dem) Z.b10, List.take_of_length_le (l := m.b.l.zip dem) (by rw [List.length_zip]; omega)] at hs
      have hok : okPl m now n head dem := ⟨hrd, h3.1, by omega, hda⟩
      have hbl : (plD m now n head dem).1.l = m.b.l := by unfold plD; rw [(divV_l _ _ _).1, tickV_l]
      have hN := (plan_out hm hok).1
      refine Z.g348 ?_
      refine Z.only [0, 1, 2, 3, 10, 11, 12, 13] rfl ?_
      refine Z.g124 ?_
      refine Z.g57 ?_
      refine Z.g348 ?_
      refine Z.only [0, 1, 2, 3, 10, 11, 12, 13, 92] rfl ?_
      refine Z.g347 ?_
      refine Z.cond rfl (fun h => absurd h Z.b22) (fun hc17 => ?_)
      refine Z.skip ?_
      refine Z.g124 ?_
      refine Z.g129 ?_
      refine Z.l rfl rfl (by rfl) (Z.keepS hs) Z.b38 ?_
      refine Z.g19 ?_
      have hpd : plD m now n head dem = divV (tickV m.b now).1 n (dem.map askd) := by unfold plD plN; rw [hup]; rfl
      have hdv : divV (tickV m.b now).1 n (dem.map askd) = ((plD m now n head dem).1, (plD m now n head dem).2.1, 0) := by
        have h8 := plan_okD hm hok
        rw [show plN m now n head dem = n from by unfold plN; rw [hup]; rfl] at h8
        rw [hpd, divV, if_pos h8]
      replace hs : SX.St w M _ (bkE gb sv so (tickV m.b now).1 ++ [_, _, _, _, _]) := hs.sel [0, 1, 2, 3, 4, 5, 6, 7] Z.b13
      refine Z.g3 ?_
      refine Z.ZO.call rfl rfl (by rfl) rfl rfl Tryz.call49 rfl (bk_divide gb sv so (tickV m.b now).1 n Av i cv (dem.map askd) _ hs.lend htk (Z.row_lentv hs (j := 1) rfl) (by rw [List.length_map]; omega)) ?_
      rintro v20_6 w20_6 ⟨ov, rfl, hz⟩
      replace hs := hs.regain hz
      rw [hdv]
      rw [hdv] at hs
      simp only [bkE, List.cons_append, List.nil_append] at hs
      obtain ⟨Aw, cw, rfl, -, -, -⟩ := SX.row_slv hs (j := 0) rfl
      refine Z.g92 ?_
      refine Z.ZO.call rfl rfl (by rfl) rfl rfl Tryz.call48 rfl (got_ok (mx_gotIs _ 0 _) rfl) ?_
      rintro v20_9 w20_9 ⟨rfl, hy⟩
      replace hs := Z.w1 (hs.call hy); clear hy
      refine Z.g246 ?_
      refine Z.g251 ?_
      refine Z.g180 ?_
      refine Z.loopk (ι := Nat × Value) [10, 11, 124, 125] rfl (fun x => [(126, [], .int .i64 (x.1 : Int))]) (fun x wr => x.1 ≤ (plD m now n head dem).2.1.length ∧ SX.St w M wr (SX.Ent.row x.2 3 1 x.1 (ints .i64 (((plD m now n head dem).2.1.take x.1).map fun y => max 0 (y - 3))) :: SX.Ent.row (.slice Aw (plD m now n head dem).2.1.length cw) 3 1 (plD m now n head dem).2.1.length (ints .i64 (plD m now n head dem).2.1) :: SX.Ent.blk g11 31 #[.int .i64 0] :: SX.Ent.blk g10 34 #[x.2] :: SX.Ent.blk g 55 #[.pointer (some ⟨gb, 0, none⟩), .slice (some ⟨bC, oC, none⟩) m.b.l.length kc, .pointer none, .int .i64 now] :: SX.Ent.blk gb 147 #[sv, so, .int .i64 (plD m now n head dem).1.now] :: SX.Ent.row sv 149 6 (plD m now n head dem).1.l.length ((plD m now n head dem).1.chs.flatMap chC) :: SX.Ent.row so 3 1 (plD m now n head dem).1.l.length (ints .i64 (natI (ordL (plD m now n head dem).1.l))) :: [])) (fun x => (plD m now n head dem).2.1.length - x.1) (0, .slice none 0 0) Z.b6 ⟨Nat.zero_le _, by simpa [hbl, ints] using (hs.nil 3 1).sel [0, 1, 7, 8, 9, 2, 3, 4] Z.b13⟩ ?_
      clear hs
      rintro ⟨k, vo⟩ w21 ⟨hk, hs⟩
      refine Z.g251 ?_
      (try dsimp only at hs)
      dsimp only at hk hs
      obtain ⟨Ao, co, rfl, -, -, -⟩ := SX.row_slv hs (j := 0) rfl
      refine Z.g0 ?_
      skip
      refine Z.g292 ?_
      refine Z.only [10, 11, 124, 125, 126, 127] rfl ?_
      refine Z.g150 ?_
      refine Z.cond rfl (fun hc21 => ?_) (fun hc21 => ?_)
      · (try simp at hc21)
        obtain ⟨gw, cw', e9, -, -⟩ := row_form (j := 1) hs rfl Z.b10
        cases e9
        obtain ⟨y, hy0⟩ : ∃ y, (plD m now n head dem).2.1[k]? = some y := ⟨_, List.getElem?_eq_getElem Z.b10⟩
        have hyb := (plan_out hm hok).2 k (by have := (plan_out hm hok).1; omega)
        rw [show elt (plD m now n head dem).2.1 (k : Int) = y from by simp [elt, hy0]] at hyb
        have hyc : (ints .i64 (plD m now n head dem).2.1)[0 + (k : Int).toNat * 1]? = some (.int .i64 y) := by
          rw [show 0 + (k : Int).toNat * 1 = k from by omega]
          unfold ints
          rw [List.getElem?_map, hy0]
          rfl
        refine Z.g213 ?_
        refine Z.g25 ?_
        refine Z.l rfl rfl (by rfl) (Z.keepS hs) (Z.Yd.load rfl Tryz.isAgg3 (fun _ => Z.cellR Z.b0 hyc)) ?_
        refine Z.g1 ?_
        refine Z.only [10, 11, 17, 124, 125, 126] rfl ?_
        refine Z.g240 ?_
        refine Z.g160 ?_
        refine Z.g93 ?_
        refine Z.g17 ?_
        refine Z.l rfl rfl (by rfl) (Z.keepS hs) (Z.Yd.max rfl rfl) ?_
        refine Z.g3 ?_
        refine Z.g55 ?_
        clear hs; intro g134 w134 hs
        refine Z.g3 ?_
        refine Z.g38 ?_
        clear hs; intro g135 cap135 w135 hs
        simp only [List.set_cons_zero, List.set_cons_succ, List.eraseIdx_cons_zero, List.eraseIdx_cons_succ] at hs
        refine Z.g3 ?_
        refine Z.g111 ?_
        clear hs; intro ws hs
        replace hs := Z.w0 hs
        refine Z.g348 ?_
        refine Z.g251 ?_
        refine Z.g210 ?_
        refine Z.g251 ?_
        refine Z.g347 ?_
        have ea : ints .i64 (((plD m now n head dem).2.1.take k).map fun y => max 0 (y - 3)) ++ [.int .i64 (max 0 (y - 3))] = ints .i64 (((plD m now n head dem).2.1.take (k + 1)).map fun y => max 0 (y - 3)) := by rw [List.take_add_one, hy0]; simp [ints]
        rw [ea] at hs
        exact Z.again (k + 1, _) Z.b9 ⟨by simp only; omega, hs⟩ Z.b21
      (try simp at hc21)
      refine Z.g211 ?_
      obtain rfl : k = (plD m now n head dem).2.1.length := by omega
      rw [List.take_of_length_le (Nat.le_refl _)] at hs
      refine Z.g160 ?_
      refine Z.g3 ?_
      refine Z.g111 ?_
      clear hs; intro ws hs
      replace hs := Z.w0 hs
      refine Z.g261 ?_
      clear hs; intro ws hs
      replace hs := Z.w0 hs
      refine Z.g348 ?_
      refine Z.only [10, 11] rfl ?_
      refine Z.g6 ?_
      refine Z.outDr Tryz.call26 (mx_caught_ret g11 _ _ _) ?_
      rintro vD wD ⟨rfl, hy⟩
      replace hs := hs.call hy
      refine ⟨[_, _], Z.b32, ?_⟩
      refine ⟨_, rfl, .slice Ao (plD m now n head dem).2.1.length co, ?_⟩
      rw [planV, if_pos hok]
      exact ⟨rfl, by simpa [maE, bkE, rvP, rpE, hup, hbl] using hs.sel [0, 4, 5, 6, 7] Z.b13⟩
    skip
    rintro c3_16 w3_16 ⟨hm3, rfl, hy⟩
    replace hs := Z.w1 (hs.call hy); clear hy
    have hno : ¬ okPl m now n head dem := fun h => by have h1 := h.2.1; have h2 := h.2.2.1; simp at hm3; omega
    repeat (first | refine Z.pthen ?_ | refine Z.pblock ?_ | refine Z.pscope ?_)
    refine Z.g51 ?_
    rintro vD wD ⟨rfl, hz⟩
    replace hs := hs.regain hz
    refine ⟨[_, _], Z.b32, ?_⟩
    exact ⟨_, rfl, hfail hno _ (hs.sub (List.sublist_append_right _ _))⟩
  skip
  rintro c2_3 w2_3 ⟨hrd, rfl, hy⟩
  replace hs := Z.w1 (hs.call hy); clear hy
  have hno : ¬ okPl m now n head dem := fun h => hrd h.1
  repeat (first | refine Z.pthen ?_ | refine Z.pblock ?_ | refine Z.pscope ?_)
  refine Z.g51 ?_
  rintro vD wD ⟨rfl, hz⟩
  replace hs := hs.regain hz
  refine ⟨[_, _], Z.b32, ?_⟩
  exact ⟨_, rfl, hfail hno _ (hs.sub (List.sublist_append_right _ _))⟩
end Go.Proofs.YtbojkoiopkaciaaGreat

/- The MAC entity: Build. -/
namespace Go.Proofs.YtbojkoiopkaciaaGreat
open Go.RowKit
set_option linter.unusedSimpArgs false
set_option linter.unusedVariables false
--newlaws

def BuR (g gb gr : Nat) (C : Option Addr) (kc : Nat) (sv so : Value) (X : MaV × List Int × Int) (M : List Nat) (w : World) (v : Value) (w' : World) : Prop := ∃ ov, v = .tuple #[ov, .int .i64 X.2.2] ∧ SX.St w M w' (SX.Ent.row ov 5 1 X.2.1.length (ints .u8 X.2.1) :: maE g gb gr C kc sv so X.1)
theorem buN_nn (r : List Prt) : 0 ≤ buN r := by
  unfold buN
  split
  · exact Int.le_refl _
  unfold needP
  have h1 : ∀ l : List Prt, l ≠ [] → 0 ≤ totP l - extP (lastP l) := by
    intro l
    induction l with
    | nil => intro h; exact absurd rfl h
    | cons p l ih =>
      intro _
      have hb := extP_bd p
      rw [totP_cons]
      cases l with
      | nil => simp [totP, lastP]; omega
      | cons q l =>
        rw [lastP_cons Z.b22]
        have := ih Z.b22
        omega
  exact h1 r Z.b70
theorem bu_long {m : MaV} {now n : Int} {r : List Prt} (h : okBu m now n r) (h2 : n < buN r) : buildV m now n r = (m, [], 4) := by unfold buildV; rw [if_neg (fun k => k h), if_pos h2]
theorem bu_none {m : MaV} {now n : Int} {r : List Prt} (h : okBu m now n r) (h2 : buN r ≤ n) (h3 : (buE m now n r).2.1 ++ r = []) : buildV m now n r = (m, [], 10) := by unfold buildV; rw [if_neg (fun k => k h), if_neg Z.b10, if_pos h3]
theorem bu_main {m : MaV} {now n : Int} {r : List Prt} (h : okBu m now n r) (h2 : buN r ≤ n) (h3 : (buE m now n r).2.1 ++ r ≠ []) : buildV m now n r = ({ m with r := (buE m now n r).1, last := now }, (bldV n ((buE m now n r).2.1 ++ r)).1, 0) := by unfold buildV; rw [if_neg (fun k => k h), if_neg Z.b10, if_neg h3]
theorem comb {P : MpV → Prop} {qs : List PtV} {ps : List MpV} (h1 : ∀ q ∈ qs, P q.mp) (h2 : ∀ q ∈ ps, P q) : ∀ q ∈ qs.map PtV.mp ++ ps, P q := by
  intro q hq
  rcases List.mem_append.1 hq with h | h
  · obtain ⟨z, hz, rfl⟩ := List.mem_map.1 h
    exact h1 z hz
  exact h2 q h
def ctlG (p : Prt) : Prop := ¬ sduB p.1 ∧ ctlN p.1 ≠ 0 ∧ (p.2.length : Int) = ctlN p.1
theorem el_ctl (m : RpV) (room : Int) : ∀ p ∈ elP m room, ctlG p := by
  intro p hp
  unfold elP elP1 at hp
  rcases List.mem_append.1 hp with h | h
  · split at h
    · obtain rfl : p = _ := by simpa using h
      unfold ctlG
      simp only [encLc, encL_size]
      split <;> exact ⟨by unfold sduB; omega, by decide, rfl⟩
    simp at h
  split at h
  · obtain rfl : p = _ := by simpa using h
    exact ⟨by unfold sduB; omega, by show ctlN 26 ≠ 0; decide, rfl⟩
  simp at h
theorem vldP_ctl {r : List Prt} : ∀ {l : List Prt}, (∀ p ∈ l, ctlG p) → vldP false (l ++ r) = vldP false r
  | [], _ => rfl
  | p :: l, h => by
    obtain ⟨h1, h2, h3⟩ := h p Z.b22
    rw [List.cons_append, vldP_cons, if_neg h1, decide_eq_true h2, decide_eq_true h3, vldP_ctl fun q hq => h q (by simp [hq])]
    rfl
theorem totP_ctl : ∀ {l : List Prt}, (∀ p ∈ l, ctlG p) → totP l = bytesP l
  | [], _ => rfl
  | p :: l, h => by
    obtain ⟨h1, h2, h3⟩ := h p Z.b22
    have e : bytesP (p :: l) = (1 + (p.2.length : Int)) + bytesP l := by simp [bytesP]
    rw [totP_cons, e, ext_no h1, totP_ctl fun q hq => h q (by simp [hq])]
    omega
theorem lastP_ctl : ∀ {l : List Prt}, (∀ p ∈ l, ctlG p) → extP (lastP l) = 0
  | [], _ => rfl
  | [p], h => ext_no (h p Z.b22).1
  | p :: q :: l, h => by
    rw [lastP_cons Z.b22]
    exact lastP_ctl fun x hx => h x (by simp only [List.mem_cons] at hx ⊢; exact .inr hx)
theorem need_ctl {l r : List Prt} (h : ∀ p ∈ l, ctlG p) : needP (l ++ r) = bytesP l + buN r := by
  unfold buN
  by_cases hr : r = []
  · subst hr
    rw [if_pos rfl, List.append_nil, needP, lastP_ctl h, totP_ctl h]
    omega
  rw [if_neg hr]
  have e : lastP (l ++ r) = lastP r := by unfold lastP; rw [List.getLastD_eq_getLast?, List.getLastD_eq_getLast?, List.getLast?_append]; cases h9 : r.getLast? with
    | none => exact absurd (List.getLast?_eq_none_iff.1 h9) hr
    | some x => rfl
  unfold needP
  rw [e, totP_app, totP_ctl h]
  omega
theorem buE_ctl {m : MaV} {now n : Int} {r : List Prt} : ∀ p ∈ (buE m now n r).2.1, ctlG p := by
  unfold buE
  split
  · unfold elsV
    split
    · exact el_ctl _ _
    intro p hp; cases hp
  intro p hp; cases hp
theorem buE_bytes {m : MaV} (hm : m.ok) {now n : Int} {r : List Prt} (h : okBu m now n r) (h2 : buN r ≤ n) : bytesP (buE m now n r).2.1 ≤ n - buN r := by
  unfold buE
  split
  · exact (els_bytes (r := m.r) (now := now) ⟨by have := hm.rn; have := h.1.2.1; omega, h.1.2.2⟩ Z.b10).2
  simp [bytesP]; omega
theorem bu_fits {m : MaV} (hm : m.ok) {now n : Int} {r : List Prt} (h : okBu m now n r) (h2 : buN r ≤ n) (h3 : (buE m now n r).2.1 ++ r ≠ []) : (bldV n ((buE m now n r).2.1 ++ r)).2 = 0 := by
  refine bld_zero h.1.1 ⟨h3, by rw [vldP_ctl buE_ctl]; exact h.2.2⟩ ?_
  rw [need_ctl buE_ctl]
  have := buE_bytes hm h h2
  omega
theorem bu_arg {m : MaV} {now n : Int} {r : List Prt} (h : ¬ okBu m now n r) : buildV m now n r = (m, [], 2) := if_pos h
set_option maxHeartbeats 4000000 in
set_option maxRecDepth 100000 in
theorem mx_build_up (g gb gr : Nat) (C : Option Addr) (kc : Nat) (sv so : Value) (m : MaV) (now n : Int) (A : Option Addr) (nn c : Nat) (ps : List MpV) (w : World) (hs : SX.St w (SX.idsOf (maE g gb gr C kc sv so m)) w (maE g gb gr C kc sv so m)) (hm : m.ok) (hup : m.up = true)
    (hx : Sx w (SX.idsOf (maE g gb gr C kc sv so m)) A (ps.flatMap MpV.cells)) (hB : ∀ q ∈ ps, Sx w (SX.idsOf (maE g gb gr C kc sv so m)) q.B (ints .u8 q.l)) (hby : ∀ q ∈ ps, ∀ y ∈ q.l, 0 ≤ y ∧ y < 256) (hl : ps.length = nn) (hn : nn ≤ 90) (hf : ∀ q ∈ ps, q.l.length ≤ 100000) :
    Calls Tryz.prog 23 #[.pointer (some ⟨g, 0, none⟩), .int .i64 now, .int .i64 n, .slice A nn c] w (SX.Ret fun v w' => BuR g gb gr C kc sv so (buildV m now n (ps.map MpV.plain)) (SX.idsOf (maE g gb gr C kc sv so m)) w v w') := by
  generalize hM : SX.idsOf (maE g gb gr C kc sv so m) = M at *
  have hpos := hm.b.pos
  obtain ⟨r, hr⟩ : ∃ r, ps.map MpV.plain = r := ⟨_, rfl⟩
  have hrl : r.length = nn := by rw [← hr, List.length_map, hl]
  rw [hr]
  replace hs : SX.St w M w (SX.Ent.blk g 55 #[.pointer (some ⟨gb, 0, none⟩), .slice C m.b.l.length kc, .pointer (some ⟨gr, 0, none⟩), .int .i64 m.last] :: SX.Ent.blk gb 147 #[sv, so, .int .i64 m.b.now] :: SX.Ent.row sv 149 6 m.b.l.length (m.b.chs.flatMap chC) :: SX.Ent.row so 3 1 m.b.l.length (ints .i64 (natI (ordL m.b.l))) :: SX.Ent.blk gr 157 m.r.cells.toArray :: []) := by simpa [maE, bkE, rvP, rpE, hup] using hs
  have hfail : ∀ e : Int, buildV m now n r = (m, [], e) → ∀ w', SX.St w M w' (SX.Ent.blk g 55 #[.pointer (some ⟨gb, 0, none⟩), .slice C m.b.l.length kc, .pointer (some ⟨gr, 0, none⟩), .int .i64 m.last] :: SX.Ent.blk gb 147 #[sv, so, .int .i64 m.b.now] :: SX.Ent.row sv 149 6 m.b.l.length (m.b.chs.flatMap chC) :: SX.Ent.row so 3 1 m.b.l.length (ints .i64 (natI (ordL m.b.l))) :: SX.Ent.blk gr 157 m.r.cells.toArray :: []) → BuR g gb gr C kc sv so (buildV m now n r) M w (.tuple #[.slice none 0 0, .int .i64 e]) w' := fun e he w' h => by
    rw [he]
    exact ⟨_, rfl, SX.St.nil Z.b85 _ 1⟩
  refine Z.enterD Tryz.func23 rfl Tryz.ntmps23 rfl rfl ?_
  refine Z.g242 ?_
  refine Z.g199 ?_
  clear hs; intro g8 w8 hs
  refine Z.g214 ?_
  clear hs; intro g9 w9 hs
  refine Z.g348 ?_
  refine Z.g202 ?_
  refine Z.g30 ?_
  refine Z.g97 ?_
  refine Z.g202 ?_
  refine Z.g272 ?_
  refine Z.g3 ?_
  refine Z.ZO.callB rfl rfl (by rfl) rfl rfl Tryz.call40 rfl (mx_ready g gb _ _ m now n _ (hs.celOf (cs := [_, _, _, _]) Z.b0)) ?_ ?_
  · skip
    rintro v2_3 w2_3 ⟨hrd, rfl, hy⟩
    replace hs := Z.w1 (hs.call hy); clear hy
    skip
    refine Z.g348 ?_
    refine Z.g202 ?_
    refine Z.g305 ?_
    refine Z.only [0, 1, 2, 3, 8, 9, 10] rfl ?_
    refine Z.g124 ?_
    refine Z.g262 ?_
    refine Z.g195 ?_
    refine Z.g180 ?_
    refine Z.loopk (ι := Nat) [0, 1, 2, 3, 8, 9, 10, 21, 22] rfl (fun i => [(23, [], .int .i64 (i : Int))]) (fun i wr => (i ≤ nn ∧ ∀ p ∈ r.take i, knowB m p.1 = true) ∧ SX.St w M wr (SX.Ent.blk g9 31 #[.int .i64 0] :: SX.Ent.blk g8 48 #[.slice none 0 0] :: SX.Ent.blk g 55 #[.pointer (some ⟨gb, 0, none⟩), .slice C m.b.l.length kc, .pointer (some ⟨gr, 0, none⟩), .int .i64 m.last] :: SX.Ent.blk gb 147 #[sv, so, .int .i64 m.b.now] :: SX.Ent.row sv 149 6 m.b.l.length (m.b.chs.flatMap chC) :: SX.Ent.row so 3 1 m.b.l.length (ints .i64 (natI (ordL m.b.l))) :: SX.Ent.blk gr 157 m.r.cells.toArray :: [])) (fun i => nn - i) 0 Z.b6 ⟨⟨Nat.zero_le _, by simp⟩, hs⟩ ?_
    clear hs
    rintro i w5 ⟨⟨hi, hkn⟩, hs⟩
    refine Z.g195 ?_
    refine Z.g90 ?_
    refine Z.only [0, 1, 2, 3, 8, 9, 10, 21, 22, 23, 24] rfl ?_
    refine Z.g150 ?_
    refine Z.cond rfl (fun hc5 => ?_) (fun hc5 => ?_)
    · (try simp at hc5)
      obtain ⟨bA, oA, rfl, hx2⟩ := hx.some Z.b74
      obtain ⟨q, hqi⟩ : ∃ q, ps[i]? = some q := ⟨_, List.getElem?_eq_getElem Z.b10⟩
      have hone := mp_one q
      have htk : r.take (i + 1) = r.take i ++ [q.plain] := by rw [← hr, plain_take hqi]
      refine Z.g213 ?_
      refine Z.g166 ?_
      refine Z.l rfl rfl (by rfl) (Z.keepS hs) (Z.Yd.loadA _ rfl Tryz.isAgg77 (fun _ W hK j u hu => Z.cellXq (enc := MpV.cells) hx2 mp_len hqi hu W hK) Z.b18) ?_
      refine Z.g286 ?_
      clear hs; intro g12 w12 hs
      refine Z.g123 ?_
      clear hs; intro ws hs
      replace hs := Z.w0 hs
      replace hs := Z.w3 hs
      refine Z.g348 ?_
      refine Z.only [0, 1, 2, 3, 8, 9, 10, 12, 21, 22, 23] rfl ?_
      refine Z.g150 ?_
      refine Z.drawL [SX.Ent.blk g12 77 q.cells.toArray, SX.Ent.blk g 55 #[.pointer (some ⟨gb, 0, none⟩), .slice C m.b.l.length kc, .pointer (some ⟨gr, 0, none⟩), .int .i64 m.last]] (fun _ => true) mixed hs ?_
      clear hs; intro wd7 hs
      refine Z.g54 ?_
      refine Z.t 3 rfl rfl rfl (by rfl) Z.b4 ⟨_, hs, Z.b2⟩ Z.b38 ?_
      refine Z.g136 ?_
      refine Z.t 5 rfl rfl rfl (by rfl) Z.b4 ⟨_, hs, Z.b2⟩ (Z.Yd.load rfl Tryz.isAgg3 (fun _ => Z.cellB (cs := q.cells.toArray) Z.b0 rfl)) ?_
      refine Z.g225 ?_
      refine Z.ZO.call rfl rfl (by rfl) rfl rfl Tryz.call64 rfl (bk_level gb m.b q.lc _ (hs.bkR (sv := sv) (so := so) (m := m.b) (by simp [bkE])) hm.b) ?_
      rintro v7_6 w7_6 ⟨rfl, hy⟩
      replace hs := Z.w1 (hs.call hy); clear hy
      refine Z.g76 ?_
      refine Z.tb [7, 8, 9, 10, 11] Z.b4 rfl ⟨_, hs, Z.b2⟩ rfl ?_
      refine Z.g67 ?_
      refine Z.only [0, 1, 2, 3, 8, 9, 10, 14, 21, 22, 23] rfl ?_
      refine Z.g240 ?_
      refine Z.g32 ?_
      refine Z.ZO.callB rfl rfl (by rfl) rfl rfl Tryz.call41 rfl (mx_must _ 2 _) ?_ ?_
      · skip
        rintro v8_1 w8_1 ⟨hm8, rfl, hy⟩
        replace hs := Z.w1 (hs.call hy); clear hy
        skip
        refine Z.g348 ?_
        refine Z.g195 ?_
        refine Z.g210 ?_
        refine Z.g195 ?_
        refine Z.g347 ?_
        exact Z.again (i + 1) Z.b24 ⟨⟨by omega, by rw [htk]; intro p hp; rcases List.mem_append.1 hp with h | h; exact hkn p h; (obtain rfl : p = _ := by simpa using h); exact hm8⟩, hs.tl⟩ Z.b10
      skip
      rintro c8_1 w8_1 ⟨hm8, rfl, hy⟩
      replace hs := Z.w1 (hs.call hy); clear hy
      have he := bu_arg (r := r) (n := n) (now := now) (m := m) (fun h => by have h1 := h.2.1 q.plain (by rw [← hr]; exact List.mem_map_of_mem (List.mem_of_getElem? hqi)); have h2 : (lvV m.b q.lc).2 = true := h1; rw [hm8] at h2; cases h2)
      replace hs := hs.tl
      repeat (first | refine Z.pthen ?_ | refine Z.pblock ?_ | refine Z.pscope ?_)
      refine Z.g23 ?_
      rintro vD wD ⟨rfl, hz⟩
      replace hs := hs.regain hz
      refine ⟨[_, _], Z.b27, ?_⟩
      exact ⟨_, rfl, hfail _ he _ (hs.sub (List.sublist_append_right _ _))⟩
    (try simp at hc5)
    refine Z.g10 ?_
    refine Z.g60 ?_
    obtain rfl : i = nn := by omega
    rw [List.take_of_length_le Z.b10] at hkn
    refine Z.g18 ?_
    refine Z.g262 ?_
    refine Z.only [0, 1, 2, 3, 8, 9, 10, 42] rfl ?_
    refine Z.g347 ?_
    refine Z.cutt (ι := Unit) [0, 1, 2, 3, 8, 9] rfl (fun _ => [(10, [], .int .i64 (buN r))]) (fun _ wr => vldP false r = true ∧ SX.St w M wr (SX.Ent.blk g9 31 #[.int .i64 0] :: SX.Ent.blk g8 48 #[.slice none 0 0] :: SX.Ent.blk g 55 #[.pointer (some ⟨gb, 0, none⟩), .slice C m.b.l.length kc, .pointer (some ⟨gr, 0, none⟩), .int .i64 m.last] :: SX.Ent.blk gb 147 #[sv, so, .int .i64 m.b.now] :: SX.Ent.row sv 149 6 m.b.l.length (m.b.chs.flatMap chC) :: SX.Ent.row so 3 1 m.b.l.length (ints .i64 (natI (ordL m.b.l))) :: SX.Ent.blk gr 157 m.r.cells.toArray :: [])) ?_ ?_
    · skip
      refine Z.cond rfl (fun hc10 => ?_) (fun hc10 => ?_)
      · (try simp at hc10)
        refine Z.g230 ?_
        refine Z.g32 ?_
        refine Z.ZO.call rfl rfl (by rfl) rfl rfl Tryz.call66 rfl (mc_Need A i c ps _ (hx.st hs) hl Z.b10 hf) ?_
        rintro v11_1 w11_1 ⟨rfl, hy⟩
        replace hs := Z.w1 (hs.call hy); clear hy
        rw [hr]
        have hrn : r ≠ [] := fun h => by rw [h] at hrl; simp at hrl; omega
        refine Z.g92 ?_
        refine Z.ZO.callB rfl rfl (by rfl) rfl rfl Tryz.call65 rfl (mx_gotI _ _ _) ?_ ?_
        · skip
          rintro v11_4 w11_4 ⟨hE, rfl, hy⟩
          replace hs := Z.w1 (hs.call hy); clear hy
          have hno : okN r := by
            by_cases h : okN r
            · exact h
            rw [needV, if_neg h] at hE; cases hE
          have hbn : buN r = needP r := if_neg hrn
          have hnv : needV r = (needP r, 0) := if_pos hno
          rw [hnv]
          refine Z.g1 ?_
          refine Z.only [0, 1, 2, 3, 8, 9, 10] rfl ?_
          refine Z.g347 ?_
          exact Z.meet () (by refine ⟨?_, ?_, ?_, ?_, ?_, ?_, ?_, trivial⟩ <;> first | rfl | (rw [hbn] ; rfl)) ⟨hno.2, hs⟩
        skip
        rintro c11_4 w11_4 ⟨hE, rfl, hy⟩
        replace hs := Z.w1 (hs.call hy); clear hy
        have hno : ¬ okN r := fun h => hE (by rw [needV, if_pos h])
        have he : buildV m now n r = (m, [], (needV r).2) := by rw [needV, if_neg hno]; exact bu_arg (fun h => hno ⟨hrn, h.2.2⟩)
        repeat (first | refine Z.pthen ?_ | refine Z.pblock ?_ | refine Z.pscope ?_)
        refine Z.g23 ?_
        rintro vD wD ⟨rfl, hz⟩
        replace hs := hs.regain hz
        refine ⟨[_, _], Z.b27, ?_⟩
        exact ⟨_, rfl, hfail _ he _ (hs.sub (List.sublist_append_right _ _))⟩
      (try simp at hc10)
      refine Z.g266 ?_
      obtain rfl : i = 0 := by omega
      obtain rfl : r = [] := List.eq_nil_of_length_eq_zero hrl
      exact Z.meet () Z.b12 ⟨rfl, hs⟩
    clear hs
    rintro _ w10 ⟨hv, hs⟩
    refine Z.only [0, 1, 2, 3, 8, 9, 10] rfl ?_
    refine Z.g0 ?_
    refine Z.g310 ?_
    refine Z.ZO.callB rfl rfl (by rfl) rfl rfl Tryz.call41 rfl (mx_must _ 4 _) ?_ ?_
    · skip
      rintro v12_3 w12_3 ⟨hm12, rfl, hy⟩
      replace hs := Z.w1 (hs.call hy); clear hy
      have hok : okBu m now n r := ⟨hrd, hkn, hv⟩
      have hle : buN r ≤ n := by simpa using hm12
      have hnn := buN_nn r
      have hn1 := hrd.1
      refine Z.g348 ?_
      refine Z.only [0, 1, 2, 3, 8, 9, 10] rfl ?_
      refine Z.g305 ?_
      refine Z.g226 ?_
      refine Z.g348 ?_
      refine Z.only [0, 1, 2, 3, 8, 9, 10, 15, 56] rfl ?_
      refine Z.g347 ?_
      refine Z.cond rfl (fun hc14 => ?_) (fun h => absurd h Z.b22)
      refine Z.g188 ?_
      refine Z.g12 ?_
      refine Z.g21 ?_
      refine Z.l rfl rfl (by rfl) (Z.keepS hs) Z.b45 ?_
      refine Z.g3 ?_
      refine Z.ZO.call rfl rfl (by rfl) rfl rfl Tryz.call46 rfl (rp_Copy gr m.r _ (hs.celOf Z.b0)) ?_
      rintro v15_4 w15_4 ⟨g2, rfl, hy⟩
      replace hs := Z.w1 (hs.call hy); clear hy
      refine Z.g105 ?_
      refine Z.g17 ?_
      refine Z.g3 ?_
      refine Z.ZO.call rfl rfl (by rfl) rfl rfl Tryz.call47 rfl (rp_elements g2 _ m.r now (n - buN r) _ (hs.lend (L1 := [_])) hm.r Z.b10) ?_
      rintro v15_9 w15_9 ⟨sve, qs, rfl, hqs, hz⟩
      replace hs := hs.regain (L1 := [_]) hz
      have hel := els_ok (r := m.r) (now := now) (n := n - buN r) ⟨by have := hm.rn; have := hrd.2.1; omega, hrd.2.2⟩ Z.b10
      rw [hel] at hs hqs ⊢
      simp only [ptsL, List.cons_append, List.nil_append] at hs hqs
      obtain ⟨Be, ce, rfl, hce, -, -⟩ := SX.row_slv hs (j := 1) rfl
      replace hs := SX.St.rot (L1 := SX.Ent.row _ 77 2 qs.length (qs.flatMap PtV.cells) :: qs.map PtV.row) hs.tl
      replace hs := Z.w2 hs
      have hbe : (buE m now n r).2.1 = elP m.r (n - buN r) ∧ (buE m now n r).1 = elM m.r now (n - buN r) := by unfold buE; rw [hup, hel]; exact ⟨rfl, rfl⟩
      refine Z.g92 ?_
      refine Z.ZO.call rfl rfl (by rfl) rfl rfl Tryz.call45 rfl (got_ok (mx_gotPt _ 0 _) rfl) ?_
      rintro v15_12 w15_12 ⟨rfl, hy⟩
      replace hs := Z.w1 (hs.call hy); clear hy
      have hbl : (buE m now n r).2.1.length = qs.length := by rw [hbe.1, ← hqs, List.length_map]
      have hpl : (qs.map PtV.mp ++ ps).map MpV.plain = (buE m now n r).2.1 ++ r := by rw [List.map_append, hr, hbe.1, ← hqs, List.map_map]; rfl
      have hql : qs.length ≤ 2 := by have h7 := congrArg List.length hqs; rw [List.length_map] at h7; have := elP_len m.r (n - buN r); omega
      refine Z.g1 ?_
      refine Z.only [0, 1, 2, 3, 8, 9, 10, 15] rfl ?_
      refine Z.g258 ?_
      refine Z.g24 ?_
      refine Z.g93 ?_
      refine Z.g24 ?_
      refine Z.g5 ?_
      refine Z.g32 ?_
      refine Z.ZO.callB rfl rfl (by rfl) rfl rfl Tryz.call41 rfl (mx_must _ 10 _) ?_ ?_
      · skip
        rintro v16_6 w16_6 ⟨hm16, rfl, hy⟩
        replace hs := Z.w1 (hs.call hy); clear hy
        have hPn : (buE m now n r).2.1 ++ r ≠ [] := fun h => by
          have h7 := congrArg List.length h
          rw [List.length_append, hbl, List.length_nil] at h7
          simp at hm16
          omega
        refine Z.g348 ?_
        refine Z.g226 ?_
        refine Z.g348 ?_
        refine Z.only [0, 1, 2, 3, 8, 9, 10, 15, 81] rfl ?_
        refine Z.g347 ?_
        refine Z.cond rfl (fun hc17 => ?_) (fun h => absurd h Z.b22)
        refine Z.g188 ?_
        refine Z.g12 ?_
        refine Z.g21 ?_
        refine Z.l rfl rfl (by rfl) (Z.keepS hs) Z.b45 ?_
        refine Z.g105 ?_
        refine Z.g17 ?_
        replace hs : SX.St w M _ ([_] ++ _) := hs.selT (L1 := [_, _, _, _, _, _, _]) [6, 0, 1, 2, 3, 4, 5] Z.b13
        refine Z.g3 ?_
        refine Z.ZO.call rfl rfl (by rfl) rfl rfl Tryz.call47 rfl (rp_elements gr _ m.r now (n - buN r) _ (hs.lend (L1 := [_])) hm.r Z.b10) ?_
        rintro v18_8 w18_8 ⟨sv2, qs2, rfl, hqs2, hz⟩
        replace hs := hs.regain (L1 := [_]) hz
        rw [hel] at hs
        simp only [ptsL, List.cons_append, List.nil_append] at hs
        replace hs := hs.sub (((List.sublist_append_right _ _).cons _).cons_cons _)
        refine Z.g348 ?_
        refine Z.only [0, 1, 2, 3, 8, 9, 15] rfl ?_
        refine Z.g30 ?_
        refine Z.g192 ?_
        refine Z.g47 ?_
        refine Z.g183 ?_
        clear hs; intro ws hs
        replace hs := Z.w0 hs
        refine Z.g348 ?_
        refine Z.only [2, 3, 8, 9, 15] rfl ?_
        refine Z.g272 ?_
        refine Z.g24 ?_
        refine Z.g93 ?_
        refine Z.g24 ?_
        refine Z.l rfl rfl (by rfl) (Z.keepS hs) (Z.Yd.cut3 0 qs.length qs.length rfl rfl rfl rfl Tryz.underlying47 Tryz.sizeOf77 (fun hG => ⟨Z.b3, Z.b3, Z.b3, Z.b3, Z.b3⟩)) ?_
        refine Z.g93 ?_
        rw [slA_zero]
        refine Z.g3 ?_
        refine Z.ZO.appendC (i0 := Tryz.t77) (size := 2) (bytes := 32) (olds := qs.flatMap PtV.cells) (news := ps.flatMap MpV.cells) rfl rfl (by rfl) hs Tryz.underlying47 Z.b4 rfl rfl rfl rfl Z.b13 rfl rfl (fun h => SX.row_none hs (j := 7) rfl h) (by rw [Z.flat_length pt_sz]; rfl) (by exact hs.slm (A := Be) Z.b0) (by rw [fl_len mp_len, hl]) (hx.st hs) (flat_one mp_one ps) Z.b23 Z.b10 ?_
        intro Bz cz w8 hs8 _ hSl
        clear hs
        have hs := hs8
        refine Z.g3 ?_
        refine Z.ZO.call rfl rfl (by rfl) rfl rfl Tryz.call68 rfl (mc_Build n Bz _ cz (qs.map PtV.mp ++ ps) _ (by rw [List.flatMap_append, pt_mp]; exact hSl) Z.b48 Z.b10 (comb (P := fun q ↦ q.l.length ≤ 100000) (fun q hq ↦ by have h7 := elP_l3 m.r (n - buN r) q.plain (by rw [← hqs]; exact List.mem_map_of_mem hq); exact Nat.le_trans h7 Z.b10) hf) (comb (P := fun q ↦ Sl _ q.B (ints .u8 q.l)) (fun q hq ↦ hs.slm (A := q.B) (List.mem_append_right [_, _, _, _, _, _, _, _] (List.mem_map_of_mem (f := PtV.row) hq))) (fun q hq ↦ (hB q hq).st hs)) (comb (P := fun q ↦ ∀ y ∈ q.l, 0 ≤ y ∧ y < 256) (fun q hq ↦ elP_byts m.r hm.r (n - buN r) q.plain (by rw [← hqs]; exact List.mem_map_of_mem hq)) hby)) ?_
        rintro v20_9 w20_9 ⟨svb, rfl, hy⟩
        replace hs := Z.w1 (hs.call hy); clear hy
        have hz0 := bu_fits hm hok hle hPn
        rw [hpl, hz0]
        rw [hpl] at hs
        obtain ⟨Bb, cb, rfl, -, -, -⟩ := SX.row_slv hs (j := 0) rfl
        refine Z.g92 ?_
        refine Z.ZO.call rfl rfl (by rfl) rfl rfl Tryz.call67 rfl (got_ok (mx_gotBy _ 0 _) rfl) ?_
        rintro v20_12 w20_12 ⟨rfl, hy⟩
        replace hs := Z.w1 (hs.call hy); clear hy
        refine Z.g302 ?_
        clear hs; intro ws hs
        replace hs := Z.w0 hs
        refine Z.g261 ?_
        clear hs; intro ws hs
        replace hs := Z.w0 hs
        refine Z.g348 ?_
        refine Z.only [8, 9] rfl ?_
        refine Z.g6 ?_
        refine Z.outDr Tryz.call26 (mx_caught_ret g9 _ _ _) ?_
        rintro vD wD ⟨rfl, hy⟩
        replace hs := hs.call hy
        refine ⟨[_, _], Z.b27, ?_⟩
        refine ⟨_, rfl, .slice Bb (bldV n ((buE m now n r).2.1 ++ r)).1.length cb, ?_⟩
        rw [bu_main hok hle hPn]
        exact ⟨rfl, by simpa [maE, bkE, rvP, rpE, hup, hbe.2] using hs.sel [0, 4, 5, 6, 7, 1] Z.b13⟩
      skip
      rintro c16_6 w16_6 ⟨hm16, rfl, hy⟩
      replace hs := Z.w1 (hs.call hy); clear hy
      have he := bu_none hok hle (by
        have h7 : ((buE m now n r).2.1 ++ r).length = 0 := by rw [List.length_append, hbl]; simp at hm16; omega
        exact List.eq_nil_of_length_eq_zero h7)
      replace hs := hs.sel [0, 1, 2, 3, 4, 5, 6] Z.b13
      repeat (first | refine Z.pthen ?_ | refine Z.pblock ?_ | refine Z.pscope ?_)
      refine Z.g23 ?_
      rintro vD wD ⟨rfl, hz⟩
      replace hs := hs.regain hz
      refine ⟨[_, _], Z.b27, ?_⟩
      exact ⟨_, rfl, hfail _ he _ (hs.sub (List.sublist_append_right _ _))⟩
    skip
    rintro c12_3 w12_3 ⟨hm12, rfl, hy⟩
    replace hs := Z.w1 (hs.call hy); clear hy
    have hok : okBu m now n r := ⟨hrd, hkn, hv⟩
    have he := bu_long hok (by simpa using hm12)
    repeat (first | refine Z.pthen ?_ | refine Z.pblock ?_ | refine Z.pscope ?_)
    refine Z.g23 ?_
    rintro vD wD ⟨rfl, hz⟩
    replace hs := hs.regain hz
    refine ⟨[_, _], Z.b27, ?_⟩
    exact ⟨_, rfl, hfail _ he _ (hs.sub (List.sublist_append_right _ _))⟩
  skip
  rintro c2_3 w2_3 ⟨hrd, rfl, hy⟩
  replace hs := Z.w1 (hs.call hy); clear hy
  have he := bu_arg (r := r) (n := n) (now := now) (m := m) (fun h => hrd h.1)
  repeat (first | refine Z.pthen ?_ | refine Z.pblock ?_ | refine Z.pscope ?_)
  refine Z.g23 ?_
  rintro vD wD ⟨rfl, hz⟩
  replace hs := hs.regain hz
  refine ⟨[_, _], Z.b27, ?_⟩
  exact ⟨_, rfl, hfail _ he _ (hs.sub (List.sublist_append_right _ _))⟩
set_option maxHeartbeats 4000000 in
set_option maxRecDepth 100000 in
theorem mx_build_dn (g gb gr : Nat) (C : Option Addr) (kc : Nat) (sv so : Value) (m : MaV) (now n : Int) (A : Option Addr) (nn c : Nat) (ps : List MpV) (w : World) (hs : SX.St w (SX.idsOf (maE g gb gr C kc sv so m)) w (maE g gb gr C kc sv so m)) (hm : m.ok) (hup : m.up = false)
    (hx : Sx w (SX.idsOf (maE g gb gr C kc sv so m)) A (ps.flatMap MpV.cells)) (hB : ∀ q ∈ ps, Sx w (SX.idsOf (maE g gb gr C kc sv so m)) q.B (ints .u8 q.l)) (hby : ∀ q ∈ ps, ∀ y ∈ q.l, 0 ≤ y ∧ y < 256) (hl : ps.length = nn) (hn : nn ≤ 90) (hf : ∀ q ∈ ps, q.l.length ≤ 100000) :
    Calls Tryz.prog 23 #[.pointer (some ⟨g, 0, none⟩), .int .i64 now, .int .i64 n, .slice A nn c] w (SX.Ret fun v w' => BuR g gb gr C kc sv so (buildV m now n (ps.map MpV.plain)) (SX.idsOf (maE g gb gr C kc sv so m)) w v w') := by
  generalize hM : SX.idsOf (maE g gb gr C kc sv so m) = M at *
  have hpos := hm.b.pos
  obtain ⟨r, hr⟩ : ∃ r, ps.map MpV.plain = r := ⟨_, rfl⟩
  have hrl : r.length = nn := by rw [← hr, List.length_map, hl]
  rw [hr]
  replace hs : SX.St w M w (SX.Ent.blk g 55 #[.pointer (some ⟨gb, 0, none⟩), .slice C m.b.l.length kc, .pointer none, .int .i64 m.last] :: SX.Ent.blk gb 147 #[sv, so, .int .i64 m.b.now] :: SX.Ent.row sv 149 6 m.b.l.length (m.b.chs.flatMap chC) :: SX.Ent.row so 3 1 m.b.l.length (ints .i64 (natI (ordL m.b.l))) :: []) := by simpa [maE, bkE, rvP, rpE, hup] using hs
  have hfail : ∀ e : Int, buildV m now n r = (m, [], e) → ∀ w', SX.St w M w' (SX.Ent.blk g 55 #[.pointer (some ⟨gb, 0, none⟩), .slice C m.b.l.length kc, .pointer none, .int .i64 m.last] :: SX.Ent.blk gb 147 #[sv, so, .int .i64 m.b.now] :: SX.Ent.row sv 149 6 m.b.l.length (m.b.chs.flatMap chC) :: SX.Ent.row so 3 1 m.b.l.length (ints .i64 (natI (ordL m.b.l))) :: []) → BuR g gb gr C kc sv so (buildV m now n r) M w (.tuple #[.slice none 0 0, .int .i64 e]) w' := fun e he w' h => by
    rw [he]
    exact ⟨_, rfl, SX.St.nil Z.b85 _ 1⟩
  refine Z.enterD Tryz.func23 rfl Tryz.ntmps23 rfl rfl ?_
  refine Z.g242 ?_
  refine Z.g199 ?_
  clear hs; intro g8 w8 hs
  refine Z.g214 ?_
  clear hs; intro g9 w9 hs
  refine Z.g348 ?_
  refine Z.g202 ?_
  refine Z.g30 ?_
  refine Z.g97 ?_
  refine Z.g202 ?_
  refine Z.g272 ?_
  refine Z.g3 ?_
  refine Z.ZO.callB rfl rfl (by rfl) rfl rfl Tryz.call40 rfl (mx_ready g gb _ _ m now n _ (hs.celOf (cs := [_, _, _, _]) Z.b0)) ?_ ?_
  · skip
    rintro v2_3 w2_3 ⟨hrd, rfl, hy⟩
    replace hs := Z.w1 (hs.call hy); clear hy
    skip
    refine Z.g348 ?_
    refine Z.g202 ?_
    refine Z.g305 ?_
    refine Z.only [0, 1, 2, 3, 8, 9, 10] rfl ?_
    refine Z.g124 ?_
    refine Z.g262 ?_
    refine Z.g195 ?_
    refine Z.g180 ?_
    refine Z.loopk (ι := Nat) [0, 1, 2, 3, 8, 9, 10, 21, 22] rfl (fun i => [(23, [], .int .i64 (i : Int))]) (fun i wr => (i ≤ nn ∧ ∀ p ∈ r.take i, knowB m p.1 = true) ∧ SX.St w M wr (SX.Ent.blk g9 31 #[.int .i64 0] :: SX.Ent.blk g8 48 #[.slice none 0 0] :: SX.Ent.blk g 55 #[.pointer (some ⟨gb, 0, none⟩), .slice C m.b.l.length kc, .pointer none, .int .i64 m.last] :: SX.Ent.blk gb 147 #[sv, so, .int .i64 m.b.now] :: SX.Ent.row sv 149 6 m.b.l.length (m.b.chs.flatMap chC) :: SX.Ent.row so 3 1 m.b.l.length (ints .i64 (natI (ordL m.b.l))) :: [])) (fun i => nn - i) 0 Z.b6 ⟨⟨Nat.zero_le _, by simp⟩, hs⟩ ?_
    clear hs
    rintro i w5 ⟨⟨hi, hkn⟩, hs⟩
    refine Z.g195 ?_
    refine Z.g90 ?_
    refine Z.only [0, 1, 2, 3, 8, 9, 10, 21, 22, 23, 24] rfl ?_
    refine Z.g150 ?_
    refine Z.cond rfl (fun hc5 => ?_) (fun hc5 => ?_)
    · (try simp at hc5)
      obtain ⟨bA, oA, rfl, hx2⟩ := hx.some Z.b74
      obtain ⟨q, hqi⟩ : ∃ q, ps[i]? = some q := ⟨_, List.getElem?_eq_getElem Z.b10⟩
      have hone := mp_one q
      have htk : r.take (i + 1) = r.take i ++ [q.plain] := by rw [← hr, plain_take hqi]
      refine Z.g213 ?_
      refine Z.g166 ?_
      refine Z.l rfl rfl (by rfl) (Z.keepS hs) (Z.Yd.loadA _ rfl Tryz.isAgg77 (fun _ W hK j u hu => Z.cellXq (enc := MpV.cells) hx2 mp_len hqi hu W hK) Z.b18) ?_
      refine Z.g286 ?_
      clear hs; intro g12 w12 hs
      refine Z.g123 ?_
      clear hs; intro ws hs
      replace hs := Z.w0 hs
      replace hs := Z.w3 hs
      refine Z.g348 ?_
      refine Z.only [0, 1, 2, 3, 8, 9, 10, 12, 21, 22, 23] rfl ?_
      refine Z.g150 ?_
      refine Z.drawL [SX.Ent.blk g12 77 q.cells.toArray, SX.Ent.blk g 55 #[.pointer (some ⟨gb, 0, none⟩), .slice C m.b.l.length kc, .pointer none, .int .i64 m.last]] (fun _ => true) mixed hs ?_
      clear hs; intro wd7 hs
      refine Z.g54 ?_
      refine Z.t 3 rfl rfl rfl (by rfl) Z.b4 ⟨_, hs, Z.b2⟩ Z.b38 ?_
      refine Z.g136 ?_
      refine Z.t 5 rfl rfl rfl (by rfl) Z.b4 ⟨_, hs, Z.b2⟩ (Z.Yd.load rfl Tryz.isAgg3 (fun _ => Z.cellB (cs := q.cells.toArray) Z.b0 rfl)) ?_
      refine Z.g225 ?_
      refine Z.ZO.call rfl rfl (by rfl) rfl rfl Tryz.call64 rfl (bk_level gb m.b q.lc _ (hs.bkR (sv := sv) (so := so) (m := m.b) (by simp [bkE])) hm.b) ?_
      rintro v7_6 w7_6 ⟨rfl, hy⟩
      replace hs := Z.w1 (hs.call hy); clear hy
      refine Z.g76 ?_
      refine Z.tb [7, 8, 9, 10, 11] Z.b4 rfl ⟨_, hs, Z.b2⟩ rfl ?_
      refine Z.g67 ?_
      refine Z.only [0, 1, 2, 3, 8, 9, 10, 14, 21, 22, 23] rfl ?_
      refine Z.g240 ?_
      refine Z.g32 ?_
      refine Z.ZO.callB rfl rfl (by rfl) rfl rfl Tryz.call41 rfl (mx_must _ 2 _) ?_ ?_
      · skip
        rintro v8_1 w8_1 ⟨hm8, rfl, hy⟩
        replace hs := Z.w1 (hs.call hy); clear hy
        skip
        refine Z.g348 ?_
        refine Z.g195 ?_
        refine Z.g210 ?_
        refine Z.g195 ?_
        refine Z.g347 ?_
        exact Z.again (i + 1) Z.b24 ⟨⟨by omega, by rw [htk]; intro p hp; rcases List.mem_append.1 hp with h | h; exact hkn p h; (obtain rfl : p = _ := by simpa using h); exact hm8⟩, hs.tl⟩ Z.b10
      skip
      rintro c8_1 w8_1 ⟨hm8, rfl, hy⟩
      replace hs := Z.w1 (hs.call hy); clear hy
      have he := bu_arg (r := r) (n := n) (now := now) (m := m) (fun h => by have h1 := h.2.1 q.plain (by rw [← hr]; exact List.mem_map_of_mem (List.mem_of_getElem? hqi)); have h2 : (lvV m.b q.lc).2 = true := h1; rw [hm8] at h2; cases h2)
      replace hs := hs.tl
      repeat (first | refine Z.pthen ?_ | refine Z.pblock ?_ | refine Z.pscope ?_)
      refine Z.g23 ?_
      rintro vD wD ⟨rfl, hz⟩
      replace hs := hs.regain hz
      refine ⟨[_, _], Z.b27, ?_⟩
      exact ⟨_, rfl, hfail _ he _ (hs.sub (List.sublist_append_right _ _))⟩
    (try simp at hc5)
    refine Z.g10 ?_
    refine Z.g60 ?_
    obtain rfl : i = nn := by omega
    rw [List.take_of_length_le Z.b10] at hkn
    refine Z.g18 ?_
    refine Z.g262 ?_
    refine Z.only [0, 1, 2, 3, 8, 9, 10, 42] rfl ?_
    refine Z.g347 ?_
    refine Z.cutt (ι := Unit) [0, 1, 2, 3, 8, 9] rfl (fun _ => [(10, [], .int .i64 (buN r))]) (fun _ wr => vldP false r = true ∧ SX.St w M wr (SX.Ent.blk g9 31 #[.int .i64 0] :: SX.Ent.blk g8 48 #[.slice none 0 0] :: SX.Ent.blk g 55 #[.pointer (some ⟨gb, 0, none⟩), .slice C m.b.l.length kc, .pointer none, .int .i64 m.last] :: SX.Ent.blk gb 147 #[sv, so, .int .i64 m.b.now] :: SX.Ent.row sv 149 6 m.b.l.length (m.b.chs.flatMap chC) :: SX.Ent.row so 3 1 m.b.l.length (ints .i64 (natI (ordL m.b.l))) :: [])) ?_ ?_
    · skip
      refine Z.cond rfl (fun hc10 => ?_) (fun hc10 => ?_)
      · (try simp at hc10)
        refine Z.g230 ?_
        refine Z.g32 ?_
        refine Z.ZO.call rfl rfl (by rfl) rfl rfl Tryz.call66 rfl (mc_Need A i c ps _ (hx.st hs) hl Z.b10 hf) ?_
        rintro v11_1 w11_1 ⟨rfl, hy⟩
        replace hs := Z.w1 (hs.call hy); clear hy
        rw [hr]
        have hrn : r ≠ [] := fun h => by rw [h] at hrl; simp at hrl; omega
        refine Z.g92 ?_
        refine Z.ZO.callB rfl rfl (by rfl) rfl rfl Tryz.call65 rfl (mx_gotI _ _ _) ?_ ?_
        · skip
          rintro v11_4 w11_4 ⟨hE, rfl, hy⟩
          replace hs := Z.w1 (hs.call hy); clear hy
          have hno : okN r := by
            by_cases h : okN r
            · exact h
            rw [needV, if_neg h] at hE; cases hE
          have hbn : buN r = needP r := if_neg hrn
          have hnv : needV r = (needP r, 0) := if_pos hno
          rw [hnv]
          refine Z.g1 ?_
          refine Z.only [0, 1, 2, 3, 8, 9, 10] rfl ?_
          refine Z.g347 ?_
          exact Z.meet () (by refine ⟨?_, ?_, ?_, ?_, ?_, ?_, ?_, trivial⟩ <;> first | rfl | (rw [hbn] ; rfl)) ⟨hno.2, hs⟩
        skip
        rintro c11_4 w11_4 ⟨hE, rfl, hy⟩
        replace hs := Z.w1 (hs.call hy); clear hy
        have hno : ¬ okN r := fun h => hE (by rw [needV, if_pos h])
        have he : buildV m now n r = (m, [], (needV r).2) := by rw [needV, if_neg hno]; exact bu_arg (fun h => hno ⟨hrn, h.2.2⟩)
        repeat (first | refine Z.pthen ?_ | refine Z.pblock ?_ | refine Z.pscope ?_)
        refine Z.g23 ?_
        rintro vD wD ⟨rfl, hz⟩
        replace hs := hs.regain hz
        refine ⟨[_, _], Z.b27, ?_⟩
        exact ⟨_, rfl, hfail _ he _ (hs.sub (List.sublist_append_right _ _))⟩
      (try simp at hc10)
      refine Z.g266 ?_
      obtain rfl : i = 0 := by omega
      obtain rfl : r = [] := List.eq_nil_of_length_eq_zero hrl
      exact Z.meet () Z.b12 ⟨rfl, hs⟩
    clear hs
    rintro _ w10 ⟨hv, hs⟩
    refine Z.only [0, 1, 2, 3, 8, 9, 10] rfl ?_
    refine Z.g0 ?_
    refine Z.g310 ?_
    refine Z.ZO.callB rfl rfl (by rfl) rfl rfl Tryz.call41 rfl (mx_must _ 4 _) ?_ ?_
    · skip
      rintro v12_3 w12_3 ⟨hm12, rfl, hy⟩
      replace hs := Z.w1 (hs.call hy); clear hy
      have hok : okBu m now n r := ⟨hrd, hkn, hv⟩
      have hle : buN r ≤ n := by simpa using hm12
      have hnn := buN_nn r
      have hn1 := hrd.1
      refine Z.g348 ?_
      refine Z.only [0, 1, 2, 3, 8, 9, 10] rfl ?_
      refine Z.g305 ?_
      refine Z.g226 ?_
      refine Z.g348 ?_
      refine Z.only [0, 1, 2, 3, 8, 9, 10, 15, 56] rfl ?_
      refine Z.g347 ?_
      refine Z.cond rfl (fun h => absurd h Z.b22) (fun hc14 => ?_)
      refine Z.g122 ?_
      obtain ⟨qs, hq0⟩ : ∃ qs : List PtV, qs = [] := ⟨_, rfl⟩
      have hqs : qs.map PtV.plain = [] := by rw [hq0]; rfl
      have hbe : (buE m now n r).2.1 = [] ∧ (buE m now n r).1 = m.r := by unfold buE; rw [hup]; exact ⟨rfl, rfl⟩
      have hbl : (buE m now n r).2.1.length = qs.length := by rw [hbe.1, hq0]; rfl
      have hpl : (qs.map PtV.mp ++ ps).map MpV.plain = (buE m now n r).2.1 ++ r := by rw [List.map_append, hr, hbe.1, hq0]; rfl
      have hql : qs.length = 0 := by rw [hq0]; rfl
      refine Z.g18 ?_
      refine Z.g24 ?_
      refine Z.g93 ?_
      refine Z.g24 ?_
      refine Z.g5 ?_
      refine Z.g32 ?_
      refine Z.ZO.callB rfl rfl (by rfl) rfl rfl Tryz.call41 rfl (mx_must _ 10 _) ?_ ?_
      · skip
        rintro v16_6 w16_6 ⟨hm16, rfl, hy⟩
        replace hs := Z.w1 (hs.call hy); clear hy
        have hPn : (buE m now n r).2.1 ++ r ≠ [] := fun h => by
          have h7 := congrArg List.length h
          rw [List.length_append, hbl, List.length_nil] at h7
          simp at hm16
          omega
        refine Z.g348 ?_
        refine Z.g226 ?_
        refine Z.g348 ?_
        refine Z.only [0, 1, 2, 3, 8, 9, 10, 15, 81] rfl ?_
        refine Z.g347 ?_
        refine Z.cond rfl (fun h => absurd h Z.b22) (fun hc17 => ?_)
        refine Z.g122 ?_
        refine Z.g192 ?_
        refine Z.g47 ?_
        refine Z.g183 ?_
        clear hs; intro ws hs
        replace hs := Z.w0 hs
        refine Z.g348 ?_
        refine Z.only [2, 3, 8, 9, 15] rfl ?_
        refine Z.g272 ?_
        refine Z.g24 ?_
        refine Z.g93 ?_
        refine Z.g24 ?_
        refine Z.l rfl rfl (by rfl) (Z.keepS hs) (Z.Yd.cut3 0 0 0 rfl rfl rfl rfl Tryz.underlying47 Tryz.sizeOf77 (fun hG => ⟨Z.b3, Z.b3, Z.b3, Z.b3, Z.b3⟩)) ?_
        refine Z.g93 ?_
        rw [slA_zero]
        refine Z.g3 ?_
        refine Z.ZO.appendC (i0 := Tryz.t77) (size := 2) (bytes := 32) (olds := qs.flatMap PtV.cells) (news := ps.flatMap MpV.cells) rfl rfl (by rfl) hs Tryz.underlying47 Z.b4 rfl rfl rfl rfl Z.b13 rfl rfl (fun _ => rfl) (by rw [hq0]; rfl) (by rw [hq0]; exact sl_nil) (by rw [fl_len mp_len, hl]) (hx.st hs) (flat_one mp_one ps) Z.b23 Z.b10 ?_
        intro Bz cz w8 hs8 _ hSl
        clear hs
        have hs := hs8
        refine Z.g3 ?_
        refine Z.ZO.call rfl rfl (by rfl) rfl rfl Tryz.call68 rfl (mc_Build n Bz _ cz (qs.map PtV.mp ++ ps) _ (by rw [List.flatMap_append, pt_mp]; exact hSl) Z.b48 Z.b10 (comb (P := fun q ↦ q.l.length ≤ 100000) (fun q hq ↦ by rw [hq0] at hq; cases hq) hf) (comb (P := fun q ↦ Sl _ q.B (ints .u8 q.l)) (fun q hq ↦ by rw [hq0] at hq; cases hq) (fun q hq ↦ (hB q hq).st hs)) (comb (P := fun q ↦ ∀ y ∈ q.l, 0 ≤ y ∧ y < 256) (fun q hq ↦ by rw [hq0] at hq; cases hq) hby)) ?_
        rintro v20_9 w20_9 ⟨svb, rfl, hy⟩
        replace hs := Z.w1 (hs.call hy); clear hy
        have hz0 := bu_fits hm hok hle hPn
        rw [hpl, hz0]
        rw [hpl] at hs
        obtain ⟨Bb, cb, rfl, -, -, -⟩ := SX.row_slv hs (j := 0) rfl
        refine Z.g92 ?_
        refine Z.ZO.call rfl rfl (by rfl) rfl rfl Tryz.call67 rfl (got_ok (mx_gotBy _ 0 _) rfl) ?_
        rintro v20_12 w20_12 ⟨rfl, hy⟩
        replace hs := Z.w1 (hs.call hy); clear hy
        refine Z.g302 ?_
        clear hs; intro ws hs
        replace hs := Z.w0 hs
        refine Z.g261 ?_
        clear hs; intro ws hs
        replace hs := Z.w0 hs
        refine Z.g348 ?_
        refine Z.only [8, 9] rfl ?_
        refine Z.g6 ?_
        refine Z.outDr Tryz.call26 (mx_caught_ret g9 _ _ _) ?_
        rintro vD wD ⟨rfl, hy⟩
        replace hs := hs.call hy
        refine ⟨[_, _], Z.b27, ?_⟩
        refine ⟨_, rfl, .slice Bb (bldV n ((buE m now n r).2.1 ++ r)).1.length cb, ?_⟩
        rw [bu_main hok hle hPn]
        exact ⟨rfl, by simpa [maE, bkE, rvP, rpE, hup, hbe.2] using hs.sel [0, 3, 4, 5, 6] Z.b13⟩
      skip
      rintro c16_6 w16_6 ⟨hm16, rfl, hy⟩
      replace hs := Z.w1 (hs.call hy); clear hy
      have he := bu_none hok hle (by
        have h7 : ((buE m now n r).2.1 ++ r).length = 0 := by rw [List.length_append, hbl]; simp at hm16; omega
        exact List.eq_nil_of_length_eq_zero h7)
      skip
      repeat (first | refine Z.pthen ?_ | refine Z.pblock ?_ | refine Z.pscope ?_)
      refine Z.g23 ?_
      rintro vD wD ⟨rfl, hz⟩
      replace hs := hs.regain hz
      refine ⟨[_, _], Z.b27, ?_⟩
      exact ⟨_, rfl, hfail _ he _ (hs.sub (List.sublist_append_right _ _))⟩
    skip
    rintro c12_3 w12_3 ⟨hm12, rfl, hy⟩
    replace hs := Z.w1 (hs.call hy); clear hy
    have hok : okBu m now n r := ⟨hrd, hkn, hv⟩
    have he := bu_long hok (by simpa using hm12)
    repeat (first | refine Z.pthen ?_ | refine Z.pblock ?_ | refine Z.pscope ?_)
    refine Z.g23 ?_
    rintro vD wD ⟨rfl, hz⟩
    replace hs := hs.regain hz
    refine ⟨[_, _], Z.b27, ?_⟩
    exact ⟨_, rfl, hfail _ he _ (hs.sub (List.sublist_append_right _ _))⟩
  skip
  rintro c2_3 w2_3 ⟨hrd, rfl, hy⟩
  replace hs := Z.w1 (hs.call hy); clear hy
  have he := bu_arg (r := r) (n := n) (now := now) (m := m) (fun h => hrd h.1)
  repeat (first | refine Z.pthen ?_ | refine Z.pblock ?_ | refine Z.pscope ?_)
  refine Z.g23 ?_
  rintro vD wD ⟨rfl, hz⟩
  replace hs := hs.regain hz
  refine ⟨[_, _], Z.b27, ?_⟩
  exact ⟨_, rfl, hfail _ he _ (hs.sub (List.sublist_append_right _ _))⟩
end Go.Proofs.YtbojkoiopkaciaaGreat

/- The MAC entity: the contents of a block. -/
namespace Go.Proofs.YtbojkoiopkaciaaGreat
open Go.RowKit
set_option linter.unusedSimpArgs false
set_option linter.unusedVariables false
--newlaws

def EnX (w : World) (M : List Nat) (g gb : Nat) (m : MaV) : Prop := ∃ ch rv lv A c B d, Sx w M (some ⟨g, 0, none⟩) [.pointer (some ⟨gb, 0, none⟩), ch, rv, lv] ∧ Sx w M (some ⟨gb, 0, none⟩) [.slice A m.b.l.length c, .slice B m.b.l.length d, .int .i64 m.b.now] ∧ Sx w M A (m.b.chs.flatMap chC) ∧ Sx w M B (ints .i64 (natI (ordL m.b.l)))
theorem cel_sl {w : World} {g : Nat} {cs : List Value} (h : Sl w (some ⟨g, 0, none⟩) cs) (hp : 0 < cs.length) : Cel w g cs := by
  obtain ⟨b, off, e, hb, hc⟩ := h hp
  simp only [Option.some.injEq, Addr.mk.injEq, and_true] at e
  obtain ⟨rfl, rfl⟩ := e
  exact ⟨hb, fun i u hu => by have := hc i u hu; rwa [Nat.zero_add] at this⟩
theorem EnX.bk {w W : World} {M : List Nat} {L : List SX.Ent} {g gb : Nat} {m : MaV} (h : EnX w M g gb m) (hW : SX.St w M W L) : BkR W gb m.b := by
  obtain ⟨ch, rv, lv, A, c, B, d, h1, h2, h3, h4⟩ := h
  exact ⟨A, c, B, d, cel_sl (h2.st hW) Z.b22, h3.st hW, h4.st hW⟩
theorem EnX.cel {w W : World} {M : List Nat} {L : List SX.Ent} {g gb : Nat} {m : MaV} (h : EnX w M g gb m) (hW : SX.St w M W L) : ∃ ch rv lv, Cel W g [.pointer (some ⟨gb, 0, none⟩), ch, rv, lv] := by
  obtain ⟨ch, rv, lv, A, c, B, d, h1, h2, h3, h4⟩ := h
  exact ⟨ch, rv, lv, cel_sl (h1.st hW) Z.b22⟩
theorem EnX.lent {w W : World} {M : List Nat} {L1 L2 : List SX.Ent} {g gb : Nat} {m : MaV} (h : EnX w M g gb m) (hW : SX.St w M W (L1 ++ L2)) : EnX W (SX.idsOf L1) g gb m := by
  obtain ⟨ch, rv, lv, A, c, B, d, h1, h2, h3, h4⟩ := h
  exact ⟨ch, rv, lv, A, c, B, d, h1.lent hW, h2.lent hW, h3.lent hW, h4.lent hW⟩
def ctE (gc g : Nat) (s0 s1 s2 s3 : Value) (xs : List MpV) (x : CtV) : List SX.Ent := [SX.Ent.blk gc 117 #[.pointer (some ⟨g, 0, none⟩), s0, s1, s2, s3], SX.Ent.row s0 77 2 xs.length (xs.flatMap MpV.cells), SX.Ent.row s1 86 6 x.rp.length (x.rp.flatMap RepV.cells), SX.Ent.row s2 3 1 x.pw.length (ints .i64 x.pw), SX.Ent.row s3 123 1 x.id.length (ints .u64 x.id)]
set_option maxHeartbeats 1000000 in
set_option maxRecDepth 100000 in
theorem mx_power (gc g : Nat) (s0 s1 s2 s3 : Value) (xs : List MpV) (x : CtV) (q : MpV) (w : World) (hs : SX.St w (SX.idsOf (ctE gc g s0 s1 s2 s3 xs x)) w (ctE gc g s0 s1 s2 s3 xs x)) (hq : Sx w (SX.idsOf (ctE gc g s0 s1 s2 s3 xs x)) q.B (ints .u8 q.l)) (hqb : Byts q.l) (hql : q.l.length ≤ 1000000) (hxl : x.pw.length ≤ 100000) :
    Calls Tryz.prog 51 #[.pointer (some ⟨gc, 0, none⟩), .agg q.cells.toArray] w (Z.Bo (fun v w' => powE q.lc q.l = 0 ∧ v = .tuple #[] ∧ ∃ s', SX.St w (SX.idsOf (ctE gc g s0 s1 s2 s3 xs x)) w' (ctE gc g s0 s1 s' s3 xs { x with pw := x.pw ++ [powV q.lc q.l] })) fun c w' => powE q.lc q.l ≠ 0 ∧ c = mperr (powE q.lc q.l) ∧ SX.St w (SX.idsOf (ctE gc g s0 s1 s2 s3 xs x)) w' (ctE gc g s0 s1 s2 s3 xs x)) := by
  generalize hM : SX.idsOf (ctE gc g s0 s1 s2 s3 xs x) = M at *
  unfold ctE at hs
  obtain ⟨A3, c3, rfl, -, -, -⟩ := SX.row_slv hs (j := 3) rfl
  have hone := mp_one q
  refine Z.enter Tryz.func51 rfl Tryz.ntmps51 rfl rfl ?_
  refine Z.g121 ?_
  clear hs; intro g3 w3 hs
  refine Z.g348 ?_
  refine Z.only [0, 3] rfl ?_
  refine Z.g347 ?_
  refine Z.drawP [SX.Ent.blk g3 77 q.cells.toArray, SX.Ent.blk gc 117 #[.pointer (some ⟨g, 0, none⟩), s0, s1, .slice A3 x.pw.length c3, s3]] (fun j => j != 16) mixed hs ?_
  clear hs; intro wd1 hs
  refine Z.g46 ?_
  refine Z.tXP 4 [4, 5, 12, 13, 14, 15, 16] (fun _ _ _ _ _ h => h) rfl rfl rfl (by rfl) Z.b4 ⟨_, hs, Z.b2⟩ (Z.Yd.fieldA (m := 2) rfl Z.b4) ?_
  refine Z.tXP 5 [5, 12, 13, 14, 15, 16] (fun _ _ _ _ _ h => h) rfl rfl rfl (by rfl) Z.b4 ⟨_, hs, Z.b2⟩ Z.b30 ?_
  refine Z.g109 ?_
  refine Z.ZO.call rfl rfl (by rfl) rfl rfl Tryz.call102 rfl (decpow_any q.lc q.B _ q.c q.l _ (hq.st hs).sx rfl hql hqb) ?_
  rintro v1_7 w1_7 ⟨rfl, hy⟩
  replace hs := Z.w1 (hs.call hy); clear hy
  refine Z.g69 ?_
  refine Z.ZO.callB rfl rfl (by rfl) rfl rfl Tryz.call65 rfl (mx_gotI _ _ _) ?_ ?_
  · skip
    rintro v1_10 w1_10 ⟨hE, rfl, hy⟩
    replace hs := Z.w1 (hs.call hy); clear hy
    skip
    refine Z.g228 ?_
    refine Z.g55 ?_
    clear hs; intro g15 w15 hs
    refine Z.g229 ?_
    refine Z.g38 ?_
    clear hs; intro g16 cap16 w16 hs
    simp only [List.set_cons_zero, List.set_cons_succ, List.eraseIdx_cons_zero, List.eraseIdx_cons_succ] at hs
    refine Z.g65 ?_
    refine Z.tXP 15 [15, 16] (fun _ _ _ _ _ h => h) rfl rfl rfl (by rfl) Z.b4 ⟨_, hs, Z.b2⟩ (Z.Yd.fieldA (m := 2) rfl Z.b4) ?_
    refine Z.tnP 16 rfl rfl Z.b4 rfl trivial ?_
    refine Z.g111 ?_
    clear hs; intro ws hs
    replace hs := Z.w0 hs
    refine Z.g222 ?_
    refine Z.g147 ?_
    exact .inl ⟨_, rfl, hE, rfl, _, by simpa [ctE, ints, RepV.cells] using hs.tl⟩
  skip
  rintro c1_10 w1_10 ⟨hE, rfl, hy⟩
  replace hs := Z.w1 (hs.call hy); clear hy
  skip
  refine Z.outp ?_
  exact .inr ⟨_, rfl, hE, rfl, hs.tl⟩
set_option maxHeartbeats 1000000 in
set_option maxRecDepth 100000 in
theorem mx_ident (gc g : Nat) (s0 s1 s2 s3 : Value) (xs : List MpV) (x : CtV) (q : MpV) (w : World) (hs : SX.St w (SX.idsOf (ctE gc g s0 s1 s2 s3 xs x)) w (ctE gc g s0 s1 s2 s3 xs x)) (hq : Sx w (SX.idsOf (ctE gc g s0 s1 s2 s3 xs x)) q.B (ints .u8 q.l)) (hqb : Byts q.l) (hql : q.l.length ≤ 1000000) (hxl : x.id.length ≤ 100000) :
    Calls Tryz.prog 52 #[.pointer (some ⟨gc, 0, none⟩), .agg q.cells.toArray] w (Z.Bo (fun v w' => idE q.lc q.l = 0 ∧ v = .tuple #[] ∧ ∃ s', SX.St w (SX.idsOf (ctE gc g s0 s1 s2 s3 xs x)) w' (ctE gc g s0 s1 s2 s' xs { x with id := x.id ++ [idV q.lc q.l] })) fun c w' => idE q.lc q.l ≠ 0 ∧ c = mperr (idE q.lc q.l) ∧ SX.St w (SX.idsOf (ctE gc g s0 s1 s2 s3 xs x)) w' (ctE gc g s0 s1 s2 s3 xs x)) := by
  generalize hM : SX.idsOf (ctE gc g s0 s1 s2 s3 xs x) = M at *
  unfold ctE at hs
  obtain ⟨A4, c4, rfl, -, -, -⟩ := SX.row_slv hs (j := 4) rfl
  have hone := mp_one q
  refine Z.enter Tryz.func52 rfl Tryz.ntmps52 rfl rfl ?_
  refine Z.g121 ?_
  clear hs; intro g3 w3 hs
  refine Z.g348 ?_
  refine Z.only [0, 3] rfl ?_
  refine Z.g347 ?_
  refine Z.drawP [SX.Ent.blk g3 77 q.cells.toArray, SX.Ent.blk gc 117 #[.pointer (some ⟨g, 0, none⟩), s0, s1, s2, .slice A4 x.id.length c4]] (fun j => j != 16) mixed hs ?_
  clear hs; intro wd1 hs
  refine Z.g46 ?_
  refine Z.tXP 4 [4, 5, 12, 13, 14, 15, 16] (fun _ _ _ _ _ h => h) rfl rfl rfl (by rfl) Z.b4 ⟨_, hs, Z.b2⟩ (Z.Yd.fieldA (m := 3) rfl Z.b4) ?_
  refine Z.tXP 5 [5, 12, 13, 14, 15, 16] (fun _ _ _ _ _ h => h) rfl rfl rfl (by rfl) Z.b4 ⟨_, hs, Z.b2⟩ Z.b55 ?_
  refine Z.g109 ?_
  refine Z.ZO.call rfl rfl (by rfl) rfl rfl Tryz.call104 rfl (decid_any q.lc q.B _ q.c q.l _ (hq.st hs).sx rfl Z.b10 hqb) ?_
  rintro v1_7 w1_7 ⟨rfl, hy⟩
  replace hs := Z.w1 (hs.call hy); clear hy
  refine Z.g69 ?_
  refine Z.ZO.callB rfl rfl (by rfl) rfl rfl Tryz.call103 rfl (mx_gotU _ _ _) ?_ ?_
  · skip
    rintro v1_10 w1_10 ⟨hE, rfl, hy⟩
    replace hs := Z.w1 (hs.call hy); clear hy
    skip
    refine Z.g228 ?_
    refine Z.ZO.litL (T' := 123) [(0, 1)] [.int .u64 0] rfl rfl (by rfl) rfl rfl Z.b20 hs ?_
    clear hs; intro g15 w15 hs
    refine Z.g229 ?_
    refine Z.g167 ?_
    clear hs; intro g16 cap16 w16 hs
    simp only [List.set_cons_zero, List.set_cons_succ, List.eraseIdx_cons_zero, List.eraseIdx_cons_succ] at hs
    refine Z.g65 ?_
    refine Z.tXP 15 [15, 16] (fun _ _ _ _ _ h => h) rfl rfl rfl (by rfl) Z.b4 ⟨_, hs, Z.b2⟩ (Z.Yd.fieldA (m := 3) rfl Z.b4) ?_
    refine Z.tnP 16 rfl rfl Z.b4 rfl trivial ?_
    refine Z.ZO.store rfl rfl hs Tryz.sizeOf59 rfl rfl rfl Z.b1 Z.b8 ?_
    clear hs; intro ws hs
    replace hs := Z.w0 hs
    refine Z.g222 ?_
    refine Z.g147 ?_
    exact .inl ⟨_, rfl, hE, rfl, _, by simpa [ctE, ints, RepV.cells] using hs.tl⟩
  skip
  rintro c1_10 w1_10 ⟨hE, rfl, hy⟩
  replace hs := Z.w1 (hs.call hy); clear hy
  skip
  refine Z.outp ?_
  exact .inr ⟨_, rfl, hE, rfl, hs.tl⟩
set_option maxHeartbeats 1000000 in
set_option maxRecDepth 100000 in
theorem mx_status (gc g : Nat) (s0 s1 s2 s3 : Value) (xs : List MpV) (x : CtV) (q : MpV) (w : World) (hs : SX.St w (SX.idsOf (ctE gc g s0 s1 s2 s3 xs x)) w (ctE gc g s0 s1 s2 s3 xs x)) (hq : Sx w (SX.idsOf (ctE gc g s0 s1 s2 s3 xs x)) q.B (ints .u8 q.l)) (hqb : Byts q.l) (hql : q.l.length ≤ 1000000) (hxl : x.rp.length ≤ 100000) :
    Calls Tryz.prog 53 #[.pointer (some ⟨gc, 0, none⟩), .agg q.cells.toArray] w (Z.Bo (fun v w' => repE q.lc q.l = 0 ∧ v = .tuple #[] ∧ ∃ s', SX.St w (SX.idsOf (ctE gc g s0 s1 s2 s3 xs x)) w' (ctE gc g s0 s' s2 s3 xs { x with rp := x.rp ++ [repV q.lc q.l] })) fun c w' => repE q.lc q.l ≠ 0 ∧ c = mperr (repE q.lc q.l) ∧ SX.St w (SX.idsOf (ctE gc g s0 s1 s2 s3 xs x)) w' (ctE gc g s0 s1 s2 s3 xs x)) := by
  generalize hM : SX.idsOf (ctE gc g s0 s1 s2 s3 xs x) = M at *
  unfold ctE at hs
  obtain ⟨A2, c2, rfl, -, -, -⟩ := SX.row_slv hs (j := 2) rfl
  have hone := mp_one q
  refine Z.enter Tryz.func53 rfl Tryz.ntmps53 rfl rfl ?_
  refine Z.g121 ?_
  clear hs; intro g3 w3 hs
  refine Z.g348 ?_
  refine Z.only [0, 3] rfl ?_
  refine Z.g347 ?_
  refine Z.drawP [SX.Ent.blk g3 77 q.cells.toArray, SX.Ent.blk gc 117 #[.pointer (some ⟨g, 0, none⟩), s0, .slice A2 x.rp.length c2, s2, s3]] (fun j => j != 16) mixed hs ?_
  clear hs; intro wd1 hs
  refine Z.g46 ?_
  refine Z.tXP 4 [4, 5, 12, 13, 14, 15, 16] (fun _ _ _ _ _ h => h) rfl rfl rfl (by rfl) Z.b4 ⟨_, hs, Z.b2⟩ (Z.Yd.fieldA (m := 1) rfl Z.b4) ?_
  refine Z.tXP 5 [5, 12, 13, 14, 15, 16] (fun _ _ _ _ _ h => h) rfl rfl rfl (by rfl) Z.b4 ⟨_, hs, Z.b2⟩ Z.b56 ?_
  refine Z.g109 ?_
  refine Z.ZO.call rfl rfl (by rfl) rfl rfl Tryz.call106 rfl (decrep_any q.lc q.B _ q.c q.l _ (hq.st hs).sx rfl hql hqb) ?_
  rintro v1_7 w1_7 ⟨rfl, hy⟩
  replace hs := Z.w1 (hs.call hy); clear hy
  refine Z.g69 ?_
  refine Z.ZO.callB rfl rfl (by rfl) rfl rfl Tryz.call105 rfl (mx_gotBr _ _ _) ?_ ?_
  · skip
    rintro v1_10 w1_10 ⟨hE, rfl, hy⟩
    replace hs := Z.w1 (hs.call hy); clear hy
    skip
    refine Z.g228 ?_
    refine Z.g131 ?_
    clear hs; intro g15 w15 hs
    refine Z.g229 ?_
    refine Z.g168 ?_
    clear hs; intro g16 cap16 w16 hs
    simp only [List.set_cons_zero, List.set_cons_succ, List.eraseIdx_cons_zero, List.eraseIdx_cons_succ] at hs
    refine Z.g65 ?_
    refine Z.tXP 15 [15, 16] (fun _ _ _ _ _ h => h) rfl rfl rfl (by rfl) Z.b4 ⟨_, hs, Z.b2⟩ (Z.Yd.fieldA (m := 1) rfl Z.b4) ?_
    refine Z.tnP 16 rfl rfl Z.b4 rfl trivial ?_
    refine Z.ZO.store rfl rfl hs Tryz.sizeOf58 rfl rfl rfl Z.b1 Z.b8 ?_
    clear hs; intro ws hs
    replace hs := Z.w0 hs
    refine Z.g222 ?_
    refine Z.g147 ?_
    exact .inl ⟨_, rfl, hE, rfl, _, by simpa [ctE, ints, RepV.cells] using hs.tl⟩
  skip
  rintro c1_10 w1_10 ⟨hE, rfl, hy⟩
  replace hs := Z.w1 (hs.call hy); clear hy
  skip
  refine Z.outp ?_
  exact .inr ⟨_, rfl, hE, rfl, hs.tl⟩
set_option maxHeartbeats 1000000 in
set_option maxRecDepth 100000 in
theorem mx_sdu (gc g gb : Nat) (s0 s1 s2 s3 : Value) (m : MaV) (xs : List MpV) (x : CtV) (q : MpV) (w : World) (hs : SX.St w (SX.idsOf (ctE gc g s0 s1 s2 s3 xs x)) w (ctE gc g s0 s1 s2 s3 xs x)) (hE : EnX w (SX.idsOf (ctE gc g s0 s1 s2 s3 xs x)) g gb m) (hm : m.ok) (hxl : xs.length ≤ 100000) :
    Calls Tryz.prog 55 #[.pointer (some ⟨gc, 0, none⟩), .agg q.cells.toArray] w (SX.Ret fun v w' => v = .tuple #[] ∧ ∃ s', SX.St w (SX.idsOf (ctE gc g s0 s1 s2 s3 xs x)) w' (ctE gc g s' s1 s2 s3 (if knowB m q.lc then xs ++ [q] else xs) x)) := by
  generalize hM : SX.idsOf (ctE gc g s0 s1 s2 s3 xs x) = M at *
  have hE2 := hE
  obtain ⟨ch, rv, lv, A, c, B, d, h1, h2, h3, h4⟩ := hE2
  unfold ctE at hs
  obtain ⟨A1, c1, rfl, -, -, -⟩ := SX.row_slv hs (j := 1) rfl
  have hone := mp_one q
  refine Z.enter Tryz.func55 rfl Tryz.ntmps55 rfl rfl ?_
  refine Z.g121 ?_
  clear hs; intro g3 w3 hs
  refine Z.g348 ?_
  refine Z.only [0, 3] rfl ?_
  refine Z.g150 ?_
  refine Z.drawL [SX.Ent.blk g3 77 q.cells.toArray, SX.Ent.blk gc 117 #[.pointer (some ⟨g, 0, none⟩), .slice A1 xs.length c1, s1, s2, s3]] (fun _ => true) mixed hs ?_
  clear hs; intro wd1 hs
  refine Z.g54 ?_
  refine Z.t 3 rfl rfl rfl (by rfl) Z.b4 ⟨_, hs, Z.b2⟩ Z.b81 ?_
  refine Z.t 4 rfl rfl rfl (by rfl) Z.b4 ⟨_, hs, Z.b2⟩ (Z.Yd.nilc rfl rfl) ?_
  refine Z.t 5 rfl rfl rfl (by rfl) Z.b4 ⟨_, hs, Z.b2⟩ (Z.Yd.fieldA (m := 0) rfl Z.b4) ?_
  refine Z.t 6 rfl rfl rfl (by rfl) Z.b4 ⟨_, hs, Z.b2⟩ (Z.Yd.load rfl Tryz.isAgg52 (fun _ => Z.cellX (i := 0) h1 rfl)) ?_
  refine Z.t 7 rfl rfl rfl (by rfl) Z.b4 ⟨_, hs, Z.b2⟩ (Z.Yd.fieldA (m := 0) rfl Z.b4) ?_
  refine Z.t 8 rfl rfl rfl (by rfl) Z.b4 ⟨_, hs, Z.b2⟩ (Z.Yd.load rfl Tryz.isAgg3 (fun _ => Z.cellB (cs := q.cells.toArray) Z.b0 rfl)) ?_
  refine Z.tn 9 rfl rfl Z.b4 rfl trivial ?_
  refine Z.ZO.call rfl rfl (by rfl) rfl rfl Tryz.call64 rfl (bk_level gb m.b q.lc _ (hE.bk hs) hm.b) ?_
  rintro v1_9 w1_9 ⟨rfl, hy⟩
  replace hs := Z.w1 (hs.call hy); clear hy
  refine Z.tk (Dn := fun _ => true) (i := 9) (fun _ => ⟨_, hs, Z.b2⟩) ?_
  refine Z.tb [10, 11, 12, 13, 14] Z.b4 rfl ⟨_, hs, Z.b2⟩ rfl ?_
  refine Z.g67 ?_
  refine Z.only [0, 3, 5] rfl ?_
  refine Z.g305 ?_
  refine Z.only [0, 3, 19] rfl ?_
  refine Z.g347 ?_
  refine Z.cond rfl (fun hc2 => ?_) (fun hc2 => ?_)
  · (try simp at hc2)
    refine Z.drawL [SX.Ent.blk g3 77 q.cells.toArray, SX.Ent.blk gc 117 #[.pointer (some ⟨g, 0, none⟩), .slice A1 xs.length c1, s1, s2, s3]] (fun j => j != 12) mixed hs ?_
    clear hs; intro wd3 hs
    refine Z.tb [0, 1] Z.b4 rfl ⟨_, hs, Z.b2⟩ rfl ?_
    refine Z.t 2 rfl rfl rfl (by rfl) Z.b4 ⟨_, hs, Z.b2⟩ (Z.Yd.nilc rfl rfl) ?_
    refine Z.t 3 rfl rfl rfl (by rfl) Z.b4 ⟨_, hs, Z.b2⟩ (Z.Yd.fieldA (m := 1) rfl Z.b4) ?_
    refine Z.g136 ?_
    refine Z.t 5 rfl rfl rfl (by rfl) Z.b4 ⟨_, hs, Z.b2⟩ Z.b46 ?_
    refine Z.t 6 rfl rfl rfl (by rfl) Z.b4 ⟨_, hs, Z.b2⟩ (Z.Yd.loadA _ rfl Tryz.isAgg77 (fun _ => Z.cellsB (cs := q.cells) Z.b0) Z.b18) ?_
    refine Z.tn 7 rfl rfl Z.b4 rfl trivial ?_
    refine Z.g59 ?_
    clear hs; intro g27 w27 hs
    refine Z.tk (Dn := fun j => j != 12) (i := 7) (fun _ => ⟨_, hs, Z.b2⟩) ?_
    refine Z.tn 8 rfl rfl Z.b4 rfl trivial ?_
    refine Z.g82 ?_
    clear hs; intro g28 cap28 w28 hs
    simp only [List.set_cons_zero, List.set_cons_succ, List.eraseIdx_cons_zero, List.eraseIdx_cons_succ] at hs
    refine Z.tk (Dn := fun j => j != 12) (i := 8) (fun _ => ⟨_, hs, Z.b2⟩) ?_
    refine Z.tn 9 rfl rfl Z.b4 rfl trivial ?_
    refine Z.g99 ?_
    refine Z.tk (Dn := fun j => j != 12) (i := 9) (fun _ => ⟨_, hs, Z.b2⟩) ?_
    refine Z.tn 10 rfl rfl Z.b4 rfl trivial ?_
    refine Z.ZO.quiet rfl (by rfl) (Z.keepS hs) (Z.Yd.fieldA (m := 1) rfl Z.b4) ?_
    refine Z.tk (Dn := fun j => j != 12) (i := 10) (fun _ => ⟨_, hs, Z.b2⟩) ?_
    refine Z.t 11 rfl rfl rfl (by rfl) Z.b4 ⟨_, hs, Z.b2⟩ (Z.Yd.fieldA (m := 0) rfl Z.b4) ?_
    refine Z.tn 12 rfl rfl Z.b4 rfl trivial ?_
    refine Z.g118 ?_
    clear hs; intro ws hs
    replace hs := Z.w0 hs
    refine Z.tk (Dn := fun j => j != 12) (i := 12) (fun h => absurd h Z.b13) ?_
    refine Z.g67 ?_
    refine Z.g206 ?_
    refine Z.g147 ?_
    exact ⟨_, rfl, rfl, _, by simpa [ctE, knowB, hc2, MpV.cells] using hs.tl⟩
  (try simp at hc2)
  refine Z.skip ?_
  refine Z.g147 ?_
  exact ⟨_, rfl, rfl, _, by simpa [ctE, knowB, hc2, MpV.cells] using hs.tl⟩
end Go.Proofs.YtbojkoiopkaciaaGreat

/- The MAC entity: Receive. -/
namespace Go.Proofs.YtbojkoiopkaciaaGreat
open Go.RowKit
set_option linter.unusedSimpArgs false
set_option linter.unusedVariables false
--newlaws

theorem hGo_cnt {l : List Int} : ∀ (F p : Nat) (acc : List (Int × Int)) (d pt : Bool), (hGo l F p acc d pt).2.1.length ≤ acc.length + F
  | 0, _, _, _, _ => by simp [hGo]
  | F + 1, p, acc, d, pt => by
    rw [hGo]
    split
    · simp
    split
    · simp
    split
    · split
      · split
        · simp
        refine Nat.le_trans (hGo_cnt F _ _ _ _) ?_
        simp; omega
      refine Nat.le_trans (hGo_cnt F _ _ _ _) ?_
      simp; omega
    simp
theorem ptGo_cnt {l : List Int} : ∀ (hs : List (Int × Int)) (p : Nat) (acc : List Prt), (ptGo l hs p acc).2.length ≤ acc.length + hs.length
  | [], p, acc => by
    unfold ptGo
    split <;> simp
  | z :: hs, p, acc => by
    rw [ptGo]
    split
    · refine Nat.le_trans (ptGo_cnt hs _ _) ?_
      simp
    split
    · simp
    split
    · simp
    refine Nat.le_trans (ptGo_cnt hs _ _) ?_
    simp; omega
theorem par_cnt (l : List Int) : (parV l).2.length ≤ 16385 := by
  unfold parV
  split
  · simp
  split
  · simp
  have h1 := ptGo_cnt (l := l) (hdV l).2.1 (hdV l).2.2 []
  have h2 := hGo_cnt (l := l) (l.length + 1) 0 [] false false
  unfold hdV at h1 ⊢
  simp only [List.length_nil] at h1 h2
  omega
theorem ptGo_mem {l : List Int} : ∀ (hs : List (Int × Int)) (p : Nat) (acc : List Prt), (∀ x ∈ acc, ∀ y ∈ x.2, y ∈ l) → ∀ x ∈ (ptGo l hs p acc).2, ∀ y ∈ x.2, y ∈ l
  | [], p, acc, h => by
    unfold ptGo
    split
    · intro x hx; cases hx
    exact h
  | z :: hs, p, acc, h => by
    rw [ptGo]
    split
    · exact ptGo_mem hs p acc h
    split
    · intro x hx; cases hx
    split
    · intro x hx; cases hx
    refine ptGo_mem hs _ _ ?_
    intro x hx
    rcases List.mem_append.1 hx with h1 | h1
    · exact h x h1
    obtain rfl : x = _ := by simpa using h1
    intro y hy
    exact List.mem_of_mem_drop (List.mem_of_mem_take hy)
theorem par_mem (l : List Int) : ∀ x ∈ (parV l).2, ∀ y ∈ x.2, y ∈ l := by
  unfold parV
  split
  · intro x hx; cases hx
  split
  · intro x hx; cases hx
  exact ptGo_mem _ _ _ Z.b22
def fnK (x : Int) : Nat := if x = 26 then 51 else if x = 27 ∨ x = 28 then 52 else 53
theorem fnK_call (x : Int) : ∀ args w, (callFunc (fnK x) args).run Tryz.prog w = .ok (.enter (fnK x) args) w := by
  unfold fnK
  split
  · exact Tryz.call51
  split
  · exact Tryz.call52
  exact Tryz.call53
def mapL (gc : Nat) : List (Int × Value) := [(26, .func (.func (fnK 26)) #[.pointer (some ⟨gc, 0, none⟩)] #[]), (27, .func (.func (fnK 27)) #[.pointer (some ⟨gc, 0, none⟩)] #[]), (28, .func (.func (fnK 28)) #[.pointer (some ⟨gc, 0, none⟩)] #[]), (29, .func (.func (fnK 29)) #[.pointer (some ⟨gc, 0, none⟩)] #[]), (30, .func (.func (fnK 30)) #[.pointer (some ⟨gc, 0, none⟩)] #[])]
theorem map_mlk (gc : Nat) (x : Int) : (ctlN x ≠ 0 → mlk (mapL gc) x = some (.func (.func (fnK x)) #[.pointer (some ⟨gc, 0, none⟩)] #[])) ∧ (ctlN x = 0 → mlk (mapL gc) x = none) := by
  unfold mlk mapL ctlN
  by_cases h1 : x = 26
  · subst h1; exact ⟨fun _ => rfl, by simp⟩
  by_cases h2 : x = 27
  · subst h2; exact ⟨fun _ => rfl, by simp⟩
  by_cases h3 : x = 28
  · subst h3; exact ⟨fun _ => rfl, by simp⟩
  by_cases h4 : x = 29
  · subst h4; exact ⟨fun _ => rfl, by simp⟩
  by_cases h5 : x = 30
  · subst h5; exact ⟨fun _ => rfl, by simp⟩
  have e1 : ((26 : Int) == x) = false := by simp; omega
  have e2 : ((27 : Int) == x) = false := by simp; omega
  have e3 : ((28 : Int) == x) = false := by simp; omega
  have e4 : ((29 : Int) == x) = false := by simp; omega
  have e5 : ((30 : Int) == x) = false := by simp; omega
  simp [List.find?_cons, e1, e2, e3, e4, e5, h1, h2, h3, h4, h5]
theorem map_get (gc : Nat) (x : Int) : ((mlk (mapL gc) x).getD .nilFunc = if ctlN x ≠ 0 then .func (.func (fnK x)) #[.pointer (some ⟨gc, 0, none⟩)] #[] else .nilFunc) ∧ (mlk (mapL gc) x).isSome = decide (ctlN x ≠ 0) := by
  obtain ⟨h1, h2⟩ := map_mlk gc x
  by_cases h : ctlN x = 0
  · rw [h2 h, if_neg (fun k => k h)]; exact ⟨rfl, by simp [h]⟩
  rw [h1 h, if_pos h]; exact ⟨rfl, by simp [h]⟩
theorem mx_store (gc g : Nat) (s0 s1 s2 s3 : Value) (xs : List MpV) (x : CtV) (m : MaV) (q : MpV) (w : World) (hc : ctlN q.lc ≠ 0) (hs : SX.St w (SX.idsOf (ctE gc g s0 s1 s2 s3 xs x)) w (ctE gc g s0 s1 s2 s3 xs x)) (hq : Sx w (SX.idsOf (ctE gc g s0 s1 s2 s3 xs x)) q.B (ints .u8 q.l)) (hqb : Byts q.l) (hql : q.l.length ≤ 1000000) (hx1 : x.pw.length ≤ 100000) (hx2 : x.id.length ≤ 100000) (hx3 : x.rp.length ≤ 100000) :
    Calls Tryz.prog (fnK q.lc) #[.pointer (some ⟨gc, 0, none⟩), .agg q.cells.toArray] w (Z.Bo (fun v w' => (recS m x q.plain).1 = 0 ∧ v = .tuple #[] ∧ ∃ s1' s2' s3', SX.St w (SX.idsOf (ctE gc g s0 s1 s2 s3 xs x)) w' (ctE gc g s0 s1' s2' s3' xs (recS m x q.plain).2)) fun c w' => (recS m x q.plain).1 ≠ 0 ∧ c = mperr (recS m x q.plain).1 ∧ ∃ s1' s2' s3', SX.St w (SX.idsOf (ctE gc g s0 s1 s2 s3 xs x)) w' (ctE gc g s0 s1' s2' s3' xs x)) := by
  have hcl : q.lc = 26 ∨ (q.lc = 27 ∨ q.lc = 28) ∨ (q.lc = 29 ∨ q.lc = 30) := by
    unfold ctlN at hc
    split at hc
    · omega
    split at hc
    · omega
    split at hc
    · omega
    split at hc <;> omega
  by_cases h1 : q.lc = 26
  · have e1 : fnK q.lc = 51 := if_pos h1
    have e2 : recS m x q.plain = (powE q.lc q.l, { x with pw := x.pw ++ [powV q.lc q.l] }) := by unfold recS; rw [if_pos (by exact h1)]; rw [h1]; rfl
    rw [e1, e2]
    refine (mx_power gc g s0 s1 s2 s3 xs x q w hs hq hqb hql hx1).mono ?_
    rintro e w' (⟨v, rfl, h2, h3, s', h4⟩ | ⟨c, rfl, h2, h3, h4⟩)
    · exact .inl ⟨v, rfl, h2, h3, _, _, _, h4⟩
    exact .inr ⟨c, rfl, h2, h3, _, _, _, h4⟩
  by_cases h2 : q.lc = 27 ∨ q.lc = 28
  · have e1 : fnK q.lc = 52 := by unfold fnK; rw [if_neg h1, if_pos h2]
    have e2 : recS m x q.plain = (idE q.lc q.l, { x with id := x.id ++ [idV q.lc q.l] }) := by unfold recS; rw [if_neg (by exact h1), if_pos (by exact h2)]; rfl
    rw [e1, e2]
    refine (mx_ident gc g s0 s1 s2 s3 xs x q w hs hq hqb hql hx2).mono ?_
    rintro e w' (⟨v, rfl, h2, h3, s', h4⟩ | ⟨c, rfl, h2, h3, h4⟩)
    · exact .inl ⟨v, rfl, h2, h3, _, _, _, h4⟩
    exact .inr ⟨c, rfl, h2, h3, _, _, _, h4⟩
  have h3 : q.lc = 29 ∨ q.lc = 30 := by omega
  have e1 : fnK q.lc = 53 := by unfold fnK; rw [if_neg h1, if_neg h2]
  have e2 : recS m x q.plain = (repE q.lc q.l, { x with rp := x.rp ++ [repV q.lc q.l] }) := by unfold recS; rw [if_neg (by exact h1), if_neg (by exact h2), if_pos (by exact h3)]; rfl
  rw [e1, e2]
  refine (mx_status gc g s0 s1 s2 s3 xs x q w hs hq hqb hql hx3).mono ?_
  rintro e w' (⟨v, rfl, h2, h3, s', h4⟩ | ⟨c, rfl, h2, h3, h4⟩)
  · exact .inl ⟨v, rfl, h2, h3, _, _, _, h4⟩
  exact .inr ⟨c, rfl, h2, h3, _, _, _, h4⟩
theorem recS_ctl {m : MaV} {x : CtV} {p : Prt} (h : ctlN p.1 ≠ 0) : (recS m x p).2.sd = x.sd ∧ (recS m x p).2.pw.length ≤ x.pw.length + 1 ∧ (recS m x p).2.id.length ≤ x.id.length + 1 ∧ (recS m x p).2.rp.length ≤ x.rp.length + 1 := by
  have hcl : p.1 = 26 ∨ (p.1 = 27 ∨ p.1 = 28) ∨ (p.1 = 29 ∨ p.1 = 30) := by
    unfold ctlN at h
    split at h
    · omega
    split at h
    · omega
    split at h
    · omega
    split at h <;> omega
  unfold recS
  split
  · simp
  split
  · simp
  rw [if_pos Z.b10]; simp
theorem recS_no {m : MaV} {x : CtV} {p : Prt} (h : ctlN p.1 = 0) : recS m x p = if knowB m p.1 then (0, { x with sd := x.sd ++ [p] }) else (0, x) := by
  unfold ctlN at h
  unfold recS
  rw [if_neg (fun k => by rw [if_pos (.inl k)] at h; omega), if_neg (fun k => by revert h; split <;> (try split) <;> (try split) <;> (try split) <;> omega), if_neg (fun k => by revert h; split <;> (try split) <;> (try split) <;> (try split) <;> omega)]
def ReR (R : Int × CtV) (v : Value) (w w' : World) : Prop := ∃ (s0 s1 s2 s3 : Value) (xs : List MpV) (qs : List (MpV × Nat)), v = .tuple #[.agg #[s0, s1, s2, s3], .int .i64 R.1] ∧ xs.map MpV.plain = R.2.sd ∧ (∀ q ∈ xs, q ∈ qs.map Prod.fst) ∧ SX.St w [] w' ([SX.Ent.row s0 77 2 xs.length (xs.flatMap MpV.cells), SX.Ent.row s1 86 6 R.2.rp.length (R.2.rp.flatMap RepV.cells), SX.Ent.row s2 3 1 R.2.pw.length (ints .i64 R.2.pw), SX.Ent.row s3 123 1 R.2.id.length (ints .u64 R.2.id)] ++ rowsQ qs)
theorem ReR.fail {e : Int} {w w' : World} (hs : SX.St w [] w' []) : ReR (e, CtV.nil) (.tuple #[.agg #[.slice none 0 0, .slice none 0 0, .slice none 0 0, .slice none 0 0], .int .i64 e]) w w' := ⟨_, _, _, _, [], [], rfl, rfl, by simp, (((hs.nil _ 1).nil _ 1).nil _ 6).nil _ 2⟩
theorem sl_cel {w : World} {g : Nat} {cs : List Value} (h : Cel w g cs) : Sl w (some ⟨g, 0, none⟩) cs := fun _ => ⟨g, 0, rfl, h.1, fun i u hu => by rw [Nat.zero_add]; exact h.2 i u hu⟩
theorem bkX {w : World} {g gb : Nat} {m : MaV} {ch rv lv : Value} (h : BkR w gb m.b) (hc : Cel w g [.pointer (some ⟨gb, 0, none⟩), ch, rv, lv]) : EnX w [] g gb m := by
  obtain ⟨A, c, B, d, h1, h2, h3⟩ := h
  exact ⟨ch, rv, lv, A, c, B, d, (sl_cel hc).sx, (sl_cel h1).sx, h2.sx, h3.sx⟩
set_option maxHeartbeats 4000000 in
set_option maxRecDepth 100000 in
theorem mx_receive (g gb : Nat) (m : MaV) (A : Option Addr) (n c : Nat) (l : List Int) (w : World) (hE : EnX w [] g gb m) (hm : m.ok) (hx : Sl w A (ints .u8 l)) (hl : l.length = n) (hn : n ≤ 100000) (hb : ∀ x ∈ l, 0 ≤ x ∧ x < 256) :
    Calls Tryz.prog 17 #[.pointer (some ⟨g, 0, none⟩), .slice A n c] w (SX.Ret fun v w' => ReR (recV m l) v w w') := by
  have hs := SX.St.start w
  obtain ⟨ch, rv, lv, hcel⟩ := hE.cel hs
  obtain ⟨R, hR⟩ : ∃ R, recV m l = R := ⟨_, rfl⟩
  rw [hR]
  have hcnt := par_cnt l
  have hgood := par_good hb
  have hmem := par_mem l
  have hlen := par_len l
  unfold recV at hR
  refine Z.enterD Tryz.func17 rfl Tryz.ntmps17 rfl rfl ?_
  refine Z.g242 ?_
  refine Z.g227 ?_
  clear hs; intro g4 w4 hs
  refine Z.g214 ?_
  clear hs; intro g5 w5 hs
  refine Z.g348 ?_
  refine Z.g177 ?_
  refine Z.g30 ?_
  refine Z.g97 ?_
  refine Z.g177 ?_
  refine Z.g301 ?_
  refine Z.ZO.call rfl rfl (by rfl) rfl rfl Tryz.call37 rfl (mx_none g gb ch rv lv _ (hcel.st (hs.sub (List.nil_sublist _)))) ?_
  rintro v2_1 w2_1 ⟨rfl, hy⟩
  replace hs := Z.w1 (hs.call hy); clear hy
  refine Z.g32 ?_
  refine Z.ZO.call rfl rfl (by rfl) rfl rfl Tryz.call41 rfl (mx_must_ok _ 1 _ rfl) ?_
  rintro v2_3 w2_3 ⟨rfl, hy⟩
  replace hs := Z.w1 (hs.call hy); clear hy
  refine Z.g348 ?_
  refine Z.g177 ?_
  refine Z.g258 ?_
  refine Z.l rfl rfl (by rfl) (Z.keepS hs) (Z.Yd.buildL [(0, 1), (1, 4)] [.pointer none, .slice none 0 0, .slice none 0 0, .slice none 0 0, .slice none 0 0] rfl rfl Z.b17) ?_
  refine Z.g64 ?_
  clear hs; intro g19 w19 hs
  refine Z.g1 ?_
  refine Z.only [1, 4, 5, 6] rfl ?_
  refine Z.g30 ?_
  refine Z.g3 ?_
  refine Z.ZO.mkMap rfl rfl (by rfl) hs .i64 ?_
  clear hs; intro g20 w20 hs
  refine Z.g133 ?_
  clear hs; intro ws hs
  simp only [List.set_cons_zero, List.set_cons_succ, List.cons_append, List.nil_append] at hs
  refine Z.g133 ?_
  clear hs; intro ws hs
  simp only [List.set_cons_zero, List.set_cons_succ, List.cons_append, List.nil_append] at hs
  refine Z.g133 ?_
  clear hs; intro ws hs
  simp only [List.set_cons_zero, List.set_cons_succ, List.cons_append, List.nil_append] at hs
  refine Z.g133 ?_
  clear hs; intro ws hs
  simp only [List.set_cons_zero, List.set_cons_succ, List.cons_append, List.nil_append] at hs
  refine Z.g133 ?_
  clear hs; intro ws hs
  simp only [List.set_cons_zero, List.set_cons_succ, List.cons_append, List.nil_append] at hs
  refine Z.g31 ?_
  refine Z.only [1, 4, 5, 6, 7] rfl ?_
  refine Z.g269 ?_
  refine Z.ZO.call rfl rfl (by rfl) rfl rfl Tryz.call54 rfl (mc_Parse A n c l _ (hx.st (hs.sub (List.nil_sublist _))) hl hn hb) ?_
  rintro v5_1 w5_1 ⟨qs, svp, rfl, hqp, hy⟩
  replace hs := Z.w1 (hs.call hy); clear hy
  refine Z.g92 ?_
  refine Z.ZO.callB rfl rfl (by rfl) rfl rfl Tryz.call45 rfl (mx_gotPt _ _ _) ?_ ?_
  · skip
    rintro v5_4 w5_4 ⟨hE5, rfl, hy⟩
    replace hs := Z.w1 (hs.call hy); clear hy
    rw [if_neg (fun k => k hE5)] at hR
    replace hs := SX.St.rot (L1 := _ :: rowsQ qs) hs
    replace hs := Z.w2 hs
    obtain ⟨Ap, cp, rfl, -, -, -⟩ := SX.row_slv hs (j := 4) rfl
    replace hs := ((((hs.nil 123 1).nil 3 1).nil 86 6).nil 77 2)
    replace hs : SX.St w [] _ (ctE g19 g (.slice none 0 0) (.slice none 0 0) (.slice none 0 0) (.slice none 0 0) [] CtV.nil ++ ([SX.Ent.row (.slice Ap qs.length cp) 77 2 qs.length (cellsQ qs), SX.Ent.mp g20 .i64 (mapL g19), SX.Ent.blk g5 31 #[.int .i64 0], SX.Ent.blk g4 61 #[.slice none 0 0, .slice none 0 0, .slice none 0 0, .slice none 0 0]] ++ rowsQ qs)) := hs.selT (L1 := [_, _, _, _, _, _, _, _, _]) [5, 0, 1, 2, 3, 8, 4, 6, 7] Z.b13
    have hql : qs.length ≤ 16385 := by have h7 := congrArg List.length hqp; rw [plainQ, List.length_map] at h7; omega
    have hqm : ∀ x ∈ qs, x.1.plain ∈ (parV l).2 := fun x hx => by rw [← hqp]; exact List.mem_map_of_mem hx
    refine Z.g262 ?_
    refine Z.only [4, 5, 6, 7, 36, 37, 38] rfl ?_
    refine Z.g180 ?_
    refine Z.loopk (ι := Nat × CtV × List MpV × Value × Value × Value × Value) [4, 5, 6, 7, 36, 37] rfl (fun z => [(38, [], .int .i64 (z.1 : Int))]) (fun z wr => (z.1 ≤ qs.length ∧ recGo m ((plainQ qs).drop z.1) z.2.1 = R ∧ z.2.2.1.map MpV.plain = z.2.1.sd ∧ (∀ q ∈ z.2.2.1, q ∈ qs.map Prod.fst) ∧ z.2.2.1.length ≤ z.1 ∧ z.2.1.pw.length ≤ z.1 ∧ z.2.1.id.length ≤ z.1 ∧ z.2.1.rp.length ≤ z.1) ∧ SX.St w [] wr (ctE g19 g z.2.2.2.1 z.2.2.2.2.1 z.2.2.2.2.2.1 z.2.2.2.2.2.2 z.2.2.1 z.2.1 ++ ([SX.Ent.row (.slice Ap qs.length cp) 77 2 qs.length (cellsQ qs), SX.Ent.mp g20 .i64 (mapL g19), SX.Ent.blk g5 31 #[.int .i64 0], SX.Ent.blk g4 61 #[.slice none 0 0, .slice none 0 0, .slice none 0 0, .slice none 0 0]] ++ rowsQ qs))) (fun z => qs.length - z.1) (0, CtV.nil, [], .slice none 0 0, .slice none 0 0, .slice none 0 0, .slice none 0 0) Z.b6 ⟨⟨Nat.zero_le _, by rw [List.drop_zero, hqp]; exact hR, rfl, by simp, Nat.le_refl _, Nat.le_refl _, Nat.le_refl _, Nat.le_refl _⟩, hs⟩ ?_
    clear hs
    rintro ⟨i, x, xs, s0, s1, s2, s3⟩ w6 ⟨⟨hi, hgo, hxp, hxm, hk0, hk1, hk2, hk3⟩, hs⟩
    refine Z.only [4, 5, 6, 7, 36, 37, 38] rfl ?_
    (try dsimp only at hs)
    dsimp only at hi hgo hxp hxm hk0 hk1 hk2 hk3
    simp only [ctE, List.cons_append, List.nil_append] at hs
    refine Z.g90 ?_
    refine Z.only [4, 5, 6, 7, 36, 37, 38, 39] rfl ?_
    refine Z.g150 ?_
    refine Z.cond rfl (fun hc6 => ?_) (fun hc6 => ?_)
    · (try simp at hc6)
      obtain ⟨z, hz⟩ : ∃ z, qs[i]? = some z := ⟨_, List.getElem?_eq_getElem Z.b10⟩
      obtain ⟨q, kq⟩ := z
      have hqi : (q, kq) ∈ qs := List.mem_of_getElem? hz
      have hpg := hgood _ (hqm _ hqi)
      have hpl := hlen _ (hqm _ hqi)
      have hpm := hmem _ (hqm _ hqi)
      have hone := mp_one q
      have hdr : (plainQ qs).drop i = q.plain :: (plainQ qs).drop (i + 1) := drop_at (by rw [plainQ, List.getElem?_map, hz]; rfl)
      rw [hdr, recGo] at hgo
      obtain ⟨gp, cp', e9, -, -⟩ := row_form (j := 5) hs rfl Z.b10
      cases e9
      refine Z.g213 ?_
      refine Z.g166 ?_
      refine Z.l rfl rfl (by rfl) (Z.keepS hs) (Z.Yd.loadA _ rfl Tryz.isAgg77 (fun _ => Z.cellsRf (enc := fun x : MpV × Nat => x.1.cells) Z.b0 (fun _ => rfl) hz rfl) Z.b18) ?_
      refine Z.g286 ?_
      clear hs; intro g9 w9 hs
      refine Z.g123 ?_
      clear hs; intro ws hs
      replace hs := Z.w0 hs
      replace hs := Z.w3 hs
      refine Z.g348 ?_
      refine Z.only [4, 5, 6, 7, 9, 36, 37, 38] rfl ?_
      refine Z.g124 ?_
      refine Z.g35 ?_
      refine Z.l rfl rfl (by rfl) (Z.keepS hs) (Z.Yd.lookupT rfl rfl Tryz.underlying119 Tryz.underlying3 Tryz.zeroValue118 Z.b0) ?_
      refine Z.g125 ?_
      refine Z.only [4, 5, 6, 7, 9, 10, 11, 36, 37, 38] rfl ?_
      refine Z.g30 ?_
      obtain ⟨em1, em2⟩ := map_get g19 q.lc
      rw [em1, em2]
      refine Z.g292 ?_
      refine Z.only [4, 5, 6, 7, 9, 10, 36, 37, 38, 49] rfl ?_
      refine Z.g347 ?_
      refine Z.cond rfl (fun hc9 => ?_) (fun hc9 => ?_)
      · (try simp at hc9)
        refine Z.g0 ?_
        refine Z.g93 ?_
        refine Z.g74 ?_
        have hcn : ctlN q.lc ≠ 0 := by simpa using hc9
        rw [if_pos hcn]
        replace hs : SX.St w [] _ (ctE g19 g s0 s1 s2 s3 xs x ++ ([_, _, _, _, _] ++ rowsQ qs)) := hs.selT (L1 := [_, _, _, _, _, _, _, _, _, _]) [1, 2, 3, 4, 5, 0, 6, 7, 8, 9] Z.b13
        obtain ⟨jq, hjq⟩ := List.getElem?_of_mem (List.mem_append_right [_, _, _, _, _] (List.mem_map_of_mem (f := fun x : MpV × Nat => SX.Ent.row (.slice x.1.B x.1.l.length x.2) 5 1 x.1.l.length (ints .u8 x.1.l)) hqi))
        have hqx := Z.row_lentv hs hjq
        have hfk := fnK_call q.lc
        refine Z.g3 ?_
        refine Z.ZO.callB rfl rfl (by rfl) rfl rfl hfk Z.b37 (mx_store g19 g s0 s1 s2 s3 xs x m q _ hcn hs.lend hqx (fun y hy ↦ hb y (hpm y hy)) Z.b83 Z.b10 Z.b10 Z.b10) ?_ ?_
        · skip
          rintro v10_2 w10_2 ⟨he, rfl, s1', s2', s3', hz⟩
          replace hs := hs.regain hz
          rw [if_neg (fun k => k he)] at hgo
          refine Z.g348 ?_
          refine Z.only [4, 5, 6, 7, 36, 37, 38] rfl ?_
          refine Z.g347 ?_
          refine Z.exit ?_
          refine Z.xthen ?_
          refine Z.xblock ?_
          refine Z.g347 ?_
          refine Z.g34 ?_
          refine Z.only [4, 5, 6, 7, 36, 37, 38] rfl ?_
          refine Z.g347 ?_
          have hrc := recS_ctl (m := m) (x := x) (p := q.plain) hcn
          have hs2 : SX.St w [] _ (ctE g19 g s0 s1' s2' s3' xs (recS m x q.plain).2 ++ ([_, _, _, _] ++ rowsQ qs)) := hs.selT (L1 := [_, _, _, _, _, _, _, _, _, _]) [0, 1, 2, 3, 4, 6, 7, 8, 9] Z.b13
          exact Z.again (i + 1, (recS m x q.plain).2, xs, s0, s1', s2', s3') Z.b12 ⟨⟨by simp only; omega, hgo, by rw [hrc.1]; exact hxp, hxm, by simp only; omega, by simp only; omega, by simp only; omega, by simp only; omega⟩, hs2⟩ Z.b21
        skip
        rintro c10_2 w10_2 ⟨he, rfl, s1', s2', s3', hz⟩
        replace hs := hs.regain hz
        rw [if_pos he] at hgo
        subst hgo
        replace hs := hs.sel [8, 9] Z.b13
        repeat (first | refine Z.pthen ?_ | refine Z.pblock ?_ | refine Z.pscope ?_)
        refine Z.outDp Tryz.call26 (mx_caught_pan g5 _ _ _ _ _ [SX.Ent.blk g4 _ _] _ _ (hs.lend (L2 := [])) Tryz.call50 (fun W hW ↦ mx_clearRec g4 _ _ _ _ _ W hW)) ?_
        rintro vD wD ⟨rfl, hz⟩
        replace hs := hs.regain (L2 := []) hz
        refine ⟨[_, _], Z.b67, ?_⟩
        exact ⟨_, rfl, ReR.fail (hs.sub (List.nil_sublist _))⟩
      (try simp at hc9)
      refine Z.g266 ?_
      refine Z.g188 ?_
      refine Z.g74 ?_
      have hcn : ctlN q.lc = 0 := by simpa using hc9
      replace hs : SX.St w [] _ (ctE g19 g s0 s1 s2 s3 xs x ++ ([_, _, _, _, _] ++ rowsQ qs)) := hs.selT (L1 := [_, _, _, _, _, _, _, _, _, _]) [1, 2, 3, 4, 5, 0, 6, 7, 8, 9] Z.b13
      refine Z.g3 ?_
      refine Z.ZO.call rfl rfl (by rfl) rfl rfl Tryz.call55 rfl (mx_sdu g19 g gb s0 s1 s2 s3 m xs x q _ hs.lend (hE.lent hs) hm Z.b10) ?_
      rintro v11_2 w11_2 ⟨rfl, s0', hz⟩
      replace hs := hs.regain hz
      rw [recS_no hcn] at hgo
      refine Z.g348 ?_
      refine Z.only [4, 5, 6, 7, 36, 37, 38] rfl ?_
      refine Z.g210 ?_
      refine Z.only [4, 5, 6, 7, 36, 37, 38] rfl ?_
      refine Z.g347 ?_
      by_cases hkn : knowB m q.lc = true
      · rw [if_pos hkn] at hs
        rw [if_pos (c := knowB m q.plain.1 = true) hkn] at hgo
        simp only [ne_eq, not_true_eq_false, ↓reduceIte] at hgo
        have hs2 : SX.St w [] _ (ctE g19 g s0' s1 s2 s3 (xs ++ [q]) { x with sd := x.sd ++ [q.plain] } ++ ([_, _, _, _] ++ rowsQ qs)) := hs.selT (L1 := [_, _, _, _, _, _, _, _, _, _]) [0, 1, 2, 3, 4, 6, 7, 8, 9] Z.b13
        exact Z.again (i + 1, { x with sd := x.sd ++ [q.plain] }, xs ++ [q], s0', s1, s2, s3) Z.b12 ⟨⟨by simp only; omega, hgo, by rw [List.map_append, hxp]; rfl, by intro z hz9; rcases List.mem_append.1 hz9 with h | h; exact hxm z h; (obtain rfl : z = _ := by simpa using h); exact List.mem_map_of_mem (f := Prod.fst) hqi, by simp; omega, by simp only; omega, by simp only; omega, by simp only; omega⟩, hs2⟩ Z.b21
      rw [if_neg hkn] at hs
      rw [if_neg (c := knowB m q.plain.1 = true) hkn] at hgo
      simp only [ne_eq, not_true_eq_false, ↓reduceIte] at hgo
      have hs2 : SX.St w [] _ (ctE g19 g s0' s1 s2 s3 xs x ++ ([_, _, _, _] ++ rowsQ qs)) := hs.selT (L1 := [_, _, _, _, _, _, _, _, _, _]) [0, 1, 2, 3, 4, 6, 7, 8, 9] Z.b13
      exact Z.again (i + 1, x, xs, s0', s1, s2, s3) Z.b12 ⟨⟨by simp only; omega, hgo, hxp, hxm, by simp only; omega, by simp only; omega, by simp only; omega, by simp only; omega⟩, hs2⟩ Z.b21
    (try simp at hc6)
    refine Z.g211 ?_
    obtain ⟨B0, d0, rfl, -, -, -⟩ := SX.row_slv hs (j := 1) rfl
    obtain ⟨B1, d1, rfl, -, -, -⟩ := SX.row_slv hs (j := 2) rfl
    obtain ⟨B2, d2, rfl, -, -, -⟩ := SX.row_slv hs (j := 3) rfl
    obtain ⟨B3, d3, rfl, -, -, -⟩ := SX.row_slv hs (j := 4) rfl
    refine Z.g18 ?_
    refine Z.g12 ?_
    refine Z.g8 ?_
    refine Z.l rfl rfl (by rfl) (Z.keepS hs) (Z.Yd.loadA _ rfl Tryz.isAgg61 (fun _ => Z.cellsBo (cs := [.pointer (some ⟨g, 0, none⟩), .slice B0 _ d0, .slice B1 _ d1, .slice B2 _ d2, .slice B3 _ d3]) [.slice B0 _ d0, .slice B1 _ d1, .slice B2 _ d2, .slice B3 _ d3] Z.b0 ⟨[], rfl⟩) (by exact Tryz.sizeOf61)) ?_
    refine Z.g123 ?_
    clear hs; intro ws hs
    replace hs := Z.w0 hs
    replace hs := Z.w3 hs
    refine Z.g261 ?_
    clear hs; intro ws hs
    replace hs := Z.w0 hs
    refine Z.g348 ?_
    refine Z.g154 ?_
    refine Z.outDr Tryz.call26 (mx_caught_ret g5 _ _ _) ?_
    rintro vD wD ⟨rfl, hy⟩
    replace hs := hs.call hy
    refine ⟨[_, _], Z.b67, ?_⟩
    obtain rfl : i = qs.length := by omega
    rw [List.drop_of_length_le (by rw [plainQ, List.length_map]; exact Nat.le_refl _)] at hgo
    subst hgo
    exact ⟨_, rfl, _, _, _, _, xs, qs, rfl, hxp, hxm, hs.selT (L1 := [_, _, _, _, _, _, _, _, _]) [1, 2, 3, 4] Z.b13⟩
  skip
  rintro c5_4 w5_4 ⟨hE5, rfl, hy⟩
  replace hs := Z.w1 (hs.call hy); clear hy
  rw [if_pos hE5] at hR
  subst hR
  replace hs := (SX.St.rot (L1 := _ :: rowsQ qs) hs).sel [2, 3] Z.b13
  repeat (first | refine Z.pthen ?_ | refine Z.pblock ?_ | refine Z.pscope ?_)
  refine Z.outDp Tryz.call26 (mx_caught_pan g5 _ _ _ _ _ [SX.Ent.blk g4 _ _] _ _ (hs.lend (L2 := [])) Tryz.call50 (fun W hW ↦ mx_clearRec g4 _ _ _ _ _ W hW)) ?_
  rintro vD wD ⟨rfl, hz⟩
  replace hs := hs.regain (L2 := []) hz
  refine ⟨[_, _], Z.b67, ?_⟩
  exact ⟨_, rfl, ReR.fail (hs.sub (List.nil_sublist _))⟩
end Go.Proofs.YtbojkoiopkaciaaGreat

/- The MAC entity: Request, Channels, Copy. -/
namespace Go.Proofs.YtbojkoiopkaciaaGreat
open Go.RowKit
set_option linter.unusedSimpArgs false
set_option linter.unusedVariables false
--newlaws

end Go.Proofs.YtbojkoiopkaciaaGreat

/- The MAC entity: contents compared, the law's small functions. -/
namespace Go.Proofs.YtbojkoiopkaciaaGreat
open Go.RowKit
set_option linter.unusedSimpArgs false
set_option linter.unusedVariables false
--newlaws

def CtQ (w : World) (vs : List Value) (xs : List MpV) (x : CtV) : Prop := ∃ A0 c0 A1 c1 A2 c2 A3 c3, vs = [.slice A0 xs.length c0, .slice A1 x.rp.length c1, .slice A2 x.pw.length c2, .slice A3 x.id.length c3] ∧ xs.map MpV.plain = x.sd ∧ Sl w A0 (xs.flatMap MpV.cells) ∧ Sl w A1 (x.rp.flatMap RepV.cells) ∧ Sl w A2 (ints .i64 x.pw) ∧ Sl w A3 (ints .u64 x.id) ∧ (∀ q ∈ xs, Sl w q.B (ints .u8 q.l)) ∧ (∀ q ∈ xs, ∀ z ∈ q.l, 0 ≤ z ∧ z < 256)
theorem repv_ext {a b : RepV} (h : a.long = b.long ∧ a.group = b.group ∧ a.a = b.a ∧ a.b = b.b ∧ a.c = b.c ∧ a.d = b.d) : a = b := by
  cases a; cases b; simp_all
instance : DecidableEq RepV := fun a b => decidable_of_iff (a.long = b.long ∧ a.group = b.group ∧ a.a = b.a ∧ a.b = b.b ∧ a.c = b.c ∧ a.d = b.d) ⟨repv_ext, fun h => by subst h; exact ⟨rfl, rfl, rfl, rfl, rfl, rfl⟩⟩
def sameC (x y : CtV) : Prop := x.sd = y.sd ∧ x.rp = y.rp ∧ x.pw = y.pw ∧ x.id = y.id
instance (x y : CtV) : Decidable (sameC x y) := by unfold sameC; infer_instance
theorem rep_len (r : RepV) : r.cells.length = 6 := rfl
theorem at_ne {α : Type} {l k : List α} {i : Nat} {x y : α} (hx : l[i]? = some x) (hy : k[i]? = some y) (h : x ≠ y) : l ≠ k := fun e => by
  subst e
  rw [hx] at hy
  exact h (Option.some.inj hy)
theorem tk_eq {α : Type} {l k : List α} {i : Nat} {x y : α} (ht : l.take i = k.take i) (hx : l[i]? = some x) (hy : k[i]? = some y) (h : x = y) : l.take (i + 1) = k.take (i + 1) := by
  rw [List.take_add_one, List.take_add_one, ht, hx, hy, h]
set_option maxHeartbeats 1000000 in
set_option maxRecDepth 100000 in
theorem ct_same (vs us : List Value) (xs ys : List MpV) (x y : CtV) (w : World) (hX : CtQ w vs xs x) (hY : CtQ w us ys y) (hn : xs.length ≤ 9223372036854775807 ∧ x.rp.length ≤ 1000000 ∧ x.pw.length ≤ 1000000 ∧ x.id.length ≤ 1000000) :
    Calls Tryz.prog 20 #[.agg vs.toArray, .agg us.toArray] w (SX.Ret fun v w' => v = .bool (decide (sameC x y)) ∧ SX.St w [] w' []) := by
  have hs := SX.St.start w
  obtain ⟨A0, c0, A1, c1, A2, c2, A3, c3, rfl, hp, h0, h1, h2, h3, h4, h5⟩ := hX
  obtain ⟨B0, d0, B1, d1, B2, d2, B3, d3, rfl, kp, k0, k1, k2, k3, k4, k5⟩ := hY
  refine Z.enter Tryz.func20 rfl Tryz.ntmps20 rfl rfl ?_
  refine Z.g121 ?_
  clear hs; intro g2 w2 hs
  refine Z.g64 ?_
  clear hs; intro g3 w3 hs
  refine Z.g1 ?_
  refine Z.only [2, 3] rfl ?_
  refine Z.g60 ?_
  refine Z.g2 ?_
  refine Z.g224 ?_
  refine Z.g2 ?_
  refine Z.g224 ?_
  refine Z.g3 ?_
  refine Z.ZO.call rfl rfl (by rfl) rfl rfl Tryz.call24 rfl (mr_Same A0 B0 _ c0 _ d0 xs ys _ (h0.st (hs.sub (List.nil_sublist _))) (k0.st (hs.sub (List.nil_sublist _))) rfl rfl hn.1 (fun q hq ↦ (h4 q hq).st (hs.sub (List.nil_sublist _))) (fun q hq ↦ (k4 q hq).st (hs.sub (List.nil_sublist _))) h5 k5) ?_
  rintro v1_4 w1_4 ⟨rfl, hy⟩
  replace hs := Z.w1 (hs.call hy); clear hy
  rw [hp, kp]
  refine Z.g19 ?_
  refine Z.g196 ?_
  refine Z.g196 ?_
  refine Z.g105 ?_
  refine Z.g21 ?_
  refine Z.g160 ?_
  refine Z.g26 ?_
  refine Z.g21 ?_
  refine Z.g160 ?_
  refine Z.g26 ?_
  refine Z.g105 ?_
  refine Z.g194 ?_
  refine Z.g194 ?_
  refine Z.g31 ?_
  refine Z.only [2, 3, 40] rfl ?_
  refine Z.g347 ?_
  refine Z.cond rfl (fun hc1 => ?_) (fun hc1 => ?_)
  · (try simp at hc1)
    refine Z.g265 ?_
    repeat (first | refine Z.rthen ?_ | refine Z.rblock ?_ | refine Z.rscope ?_)
    refine Z.g52 ?_
    refine ⟨_, rfl, congrArg Value.bool ?_, hs.sub (List.nil_sublist _)⟩
    first
    | exact (decide_eq_true ⟨hq.1, hq.2.1, hq.2.2.1, by rwa [List.take_of_length_le Z.b10, List.take_of_length_le Z.b10] at ht⟩).symm
    | exact (decide_eq_false fun h ↦ at_ne hxi hyi hc16 h.2.2.2).symm
    | exact (decide_eq_false fun h ↦ at_ne hxi hyi hc11 h.2.2.1).symm
    | exact (decide_eq_false fun h ↦ at_ne hpi hqi (fun e ↦ by subst e; simp at hc6) h.2.1).symm
    | exact (decide_eq_false fun h ↦ by
        rcases hc1 with ((e | e) | e) | e
        · exact e h.1
        · exact e (by rw [h.2.1])
        · exact e (by rw [h.2.2.1])
        exact e (by rw [h.2.2.2])).symm
  (try simp at hc1)
  refine Z.g215 ?_
  have hq : x.sd = y.sd ∧ x.rp.length = y.rp.length ∧ x.pw.length = y.pw.length ∧ x.id.length = y.id.length := by obtain ⟨⟨⟨e0, e1⟩, e2⟩, e3⟩ := hc1; exact ⟨e0, by omega, by omega, by omega⟩
  refine Z.g292 ?_
  refine Z.only [2, 3, 5] rfl ?_
  refine Z.g180 ?_
  refine Z.loopk (ι := Nat) [2, 3] rfl (fun i => [(5, [], .int .i64 (i : Int))]) (fun i wr => (i ≤ x.rp.length ∧ (x.sd = y.sd ∧ x.rp.length = y.rp.length ∧ x.pw.length = y.pw.length ∧ x.id.length = y.id.length) ∧ x.rp.take i = y.rp.take i) ∧ SX.St w [] wr [SX.Ent.blk g3 61 #[.slice B0 ys.length d0, .slice B1 y.rp.length d1, .slice B2 y.pw.length d2, .slice B3 y.id.length d3], SX.Ent.blk g2 61 #[.slice A0 xs.length c0, .slice A1 x.rp.length c1, .slice A2 x.pw.length c2, .slice A3 x.id.length c3]]) (fun i => x.rp.length - i) 0 Z.b6 ⟨⟨Nat.zero_le _, hq, rfl⟩, hs⟩ ?_
  clear hs
  rintro i w4 ⟨⟨hi, hq, ht⟩, hs⟩
  refine Z.only [2, 3, 5] rfl ?_
  refine Z.g259 ?_
  refine Z.g93 ?_
  refine Z.g196 ?_
  refine Z.g1 ?_
  refine Z.only [2, 3, 5, 45] rfl ?_
  refine Z.g347 ?_
  refine Z.cond rfl (fun hc4 => ?_) (fun hc4 => ?_)
  · (try simp at hc4)
    obtain ⟨p, hpi⟩ : ∃ f, x.rp[i]? = some f := ⟨_, List.getElem?_eq_getElem Z.b10⟩
    obtain ⟨q, hqi⟩ : ∃ f, y.rp[i]? = some f := ⟨_, List.getElem?_eq_getElem Z.b10⟩
    obtain ⟨b, off, rfl, hb1, hx2⟩ := Z.Sl.some h1 (by rw [fl_len rep_len]; omega)
    obtain ⟨b', off', rfl, hb2, hy2⟩ := Z.Sl.some k1 (by rw [fl_len rep_len]; omega)
    refine Z.g91 ?_
    refine Z.g98 ?_
    clear hs; intro wd6 hs
    refine Z.g101 ?_
    refine Z.t 1 rfl rfl rfl (by rfl) Z.b4 ⟨_, hs, Z.b2⟩ Z.b56 ?_
    refine Z.tb [2] Z.b4 rfl ⟨_, hs, Z.b2⟩ rfl ?_
    refine Z.t 3 rfl rfl rfl (by rfl) Z.b4 ⟨_, hs, Z.b2⟩ (Z.Yd.elem rfl rfl Tryz.underlying58 Tryz.sizeOf86 (fun hG => ⟨Z.b3, Z.b3⟩)) ?_
    refine Z.t 4 rfl rfl rfl (by rfl) Z.b4 ⟨_, hs, Z.b2⟩ (Z.Yd.loadA _ rfl Tryz.isAgg86 (fun _ W hK j u hu => Z.cellXf hx2.sx rep_len hpi hu W hK) (by exact Tryz.sizeOf86)) ?_
    refine Z.t 5 rfl rfl rfl (by rfl) Z.b4 ⟨_, hs, Z.b2⟩ (Z.Yd.fieldA (m := 1) rfl Z.b4) ?_
    refine Z.t 6 rfl rfl rfl (by rfl) Z.b4 ⟨_, hs, Z.b2⟩ Z.b56 ?_
    refine Z.tb [7] Z.b4 rfl ⟨_, hs, Z.b2⟩ rfl ?_
    refine Z.t 8 rfl rfl rfl (by rfl) Z.b4 ⟨_, hs, Z.b2⟩ (Z.Yd.elem rfl rfl Tryz.underlying58 Tryz.sizeOf86 (fun hG => ⟨Z.b3, Z.b3⟩)) ?_
    refine Z.t 9 rfl rfl rfl (by rfl) Z.b4 ⟨_, hs, Z.b2⟩ (Z.Yd.loadA _ rfl Tryz.isAgg86 (fun _ W hK j u hu => Z.cellXf hy2.sx rep_len hqi hu W hK) (by exact Tryz.sizeOf86)) ?_
    refine Z.t 10 rfl rfl rfl (by rfl) Z.b4 ⟨_, hs, Z.b2⟩ (Z.Yd.neA (.st (.fc 0 1 (.b) (.fc 1 1 (.i) (.fc 2 4 (.ar 4 1 (.i)) (.fn))))) rfl rfl rfl rfl Z.b4 Z.b4 rfl) ?_
    refine Z.g67 ?_
    refine Z.only [2, 3, 5, 58] rfl ?_
    refine Z.g347 ?_
    refine Z.cond rfl (fun hc6 => ?_) (fun hc6 => ?_)
    · (try simp at hc6)
      refine Z.g265 ?_
      repeat (first | refine Z.rthen ?_ | refine Z.rblock ?_ | refine Z.rscope ?_)
      refine Z.g52 ?_
      refine ⟨_, rfl, congrArg Value.bool ?_, hs.sub (List.nil_sublist _)⟩
      first
      | exact (decide_eq_true ⟨hq.1, hq.2.1, hq.2.2.1, by rwa [List.take_of_length_le Z.b10, List.take_of_length_le Z.b10] at ht⟩).symm
      | exact (decide_eq_false fun h ↦ at_ne hxi hyi hc16 h.2.2.2).symm
      | exact (decide_eq_false fun h ↦ at_ne hxi hyi hc11 h.2.2.1).symm
      | exact (decide_eq_false fun h ↦ at_ne hpi hqi (fun e ↦ by subst e; simp at hc6) h.2.1).symm
      | exact (decide_eq_false fun h ↦ by
          rcases hc1 with ((e | e) | e) | e
          · exact e h.1
          · exact e (by rw [h.2.1])
          · exact e (by rw [h.2.2.1])
          exact e (by rw [h.2.2.2])).symm
    (try simp at hc6)
    refine Z.g73 ?_
    refine Z.g347 ?_
    refine Z.g62 ?_
    refine Z.only [2, 3, 5] rfl ?_
    refine Z.g347 ?_
    exact Z.again (i + 1) Z.b16 ⟨⟨by omega, hq, tk_eq ht hpi hqi (repv_ext hc6)⟩, hs⟩ Z.b10
  (try simp at hc4)
  refine Z.g10 ?_
  refine Z.g60 ?_
  replace hq : x.sd = y.sd ∧ x.rp = y.rp ∧ x.pw.length = y.pw.length ∧ x.id.length = y.id.length := ⟨hq.1, by rwa [List.take_of_length_le Z.b10, List.take_of_length_le Z.b10] at ht, hq.2.2.1, hq.2.2.2⟩
  refine Z.g292 ?_
  refine Z.only [2, 3, 6] rfl ?_
  refine Z.g180 ?_
  refine Z.loopk (ι := Nat) [2, 3] rfl (fun i => [(6, [], .int .i64 (i : Int))]) (fun i wr => (i ≤ x.pw.length ∧ (x.sd = y.sd ∧ x.rp = y.rp ∧ x.pw.length = y.pw.length ∧ x.id.length = y.id.length) ∧ x.pw.take i = y.pw.take i) ∧ SX.St w [] wr [SX.Ent.blk g3 61 #[.slice B0 ys.length d0, .slice B1 y.rp.length d1, .slice B2 y.pw.length d2, .slice B3 y.id.length d3], SX.Ent.blk g2 61 #[.slice A0 xs.length c0, .slice A1 x.rp.length c1, .slice A2 x.pw.length c2, .slice A3 x.id.length c3]]) (fun i => x.pw.length - i) 0 Z.b6 ⟨⟨Nat.zero_le _, hq, rfl⟩, hs⟩ ?_
  clear hs
  rintro i w9 ⟨⟨hi, hq, ht⟩, hs⟩
  refine Z.only [2, 3, 6] rfl ?_
  refine Z.g259 ?_
  refine Z.g93 ?_
  refine Z.g21 ?_
  refine Z.g160 ?_
  refine Z.g246 ?_
  refine Z.only [2, 3, 6, 63] rfl ?_
  refine Z.g347 ?_
  refine Z.cond rfl (fun hc9 => ?_) (fun hc9 => ?_)
  · (try simp at hc9)
    have hxi : x.pw[i]? = some (elt x.pw (i : Int)) := by rw [elt_get Z.b10]; exact List.getElem?_eq_getElem Z.b10
    have hyi : y.pw[i]? = some (elt y.pw (i : Int)) := by rw [elt_get Z.b10]; exact List.getElem?_eq_getElem Z.b10
    obtain ⟨b, off, rfl, hb1, hx2⟩ := Z.Sl.some h2 Z.b73
    obtain ⟨b', off', rfl, hb2, hy2⟩ := Z.Sl.some k2 Z.b73
    refine Z.g91 ?_
    refine Z.g98 ?_
    clear hs; intro wd11 hs
    refine Z.t 0 rfl rfl rfl (by rfl) Z.b4 ⟨_, hs, Z.b2⟩ (Z.Yd.fieldA (m := 2) rfl Z.b4) ?_
    refine Z.t 1 rfl rfl rfl (by rfl) Z.b4 ⟨_, hs, Z.b2⟩ Z.b30 ?_
    refine Z.tb [2] Z.b4 rfl ⟨_, hs, Z.b2⟩ rfl ?_
    refine Z.t 3 rfl rfl rfl (by rfl) Z.b4 ⟨_, hs, Z.b2⟩ (Z.Yd.elem rfl rfl Tryz.underlying34 Tryz.sizeOf3 (fun hG => ⟨Z.b3, Z.b3⟩)) ?_
    refine Z.t 4 rfl rfl rfl (by rfl) Z.b4 ⟨_, hs, Z.b2⟩ (Z.Yd.load rfl Tryz.isAgg3 (fun _ => Z.cellS hx2 rfl Z.b10 Z.b10)) ?_
    refine Z.t 5 rfl rfl rfl (by rfl) Z.b4 ⟨_, hs, Z.b2⟩ (Z.Yd.fieldA (m := 2) rfl Z.b4) ?_
    refine Z.t 6 rfl rfl rfl (by rfl) Z.b4 ⟨_, hs, Z.b2⟩ Z.b30 ?_
    refine Z.tb [7] Z.b4 rfl ⟨_, hs, Z.b2⟩ rfl ?_
    refine Z.t 8 rfl rfl rfl (by rfl) Z.b4 ⟨_, hs, Z.b2⟩ (Z.Yd.elem rfl rfl Tryz.underlying34 Tryz.sizeOf3 (fun hG => ⟨Z.b3, Z.b3⟩)) ?_
    refine Z.t 9 rfl rfl rfl (by rfl) Z.b4 ⟨_, hs, Z.b2⟩ (Z.Yd.load rfl Tryz.isAgg3 (fun _ => Z.cellS hy2 rfl Z.b10 Z.b10)) ?_
    refine Z.tb [10] Z.b4 rfl ⟨_, hs, Z.b2⟩ rfl ?_
    refine Z.g67 ?_
    refine Z.only [2, 3, 6, 76] rfl ?_
    refine Z.g347 ?_
    refine Z.cond rfl (fun hc11 => ?_) (fun hc11 => ?_)
    · (try simp at hc11)
      refine Z.g265 ?_
      repeat (first | refine Z.rthen ?_ | refine Z.rblock ?_ | refine Z.rscope ?_)
      refine Z.g52 ?_
      refine ⟨_, rfl, congrArg Value.bool ?_, hs.sub (List.nil_sublist _)⟩
      first
      | exact (decide_eq_true ⟨hq.1, hq.2.1, hq.2.2.1, by rwa [List.take_of_length_le Z.b10, List.take_of_length_le Z.b10] at ht⟩).symm
      | exact (decide_eq_false fun h ↦ at_ne hxi hyi hc16 h.2.2.2).symm
      | exact (decide_eq_false fun h ↦ at_ne hxi hyi hc11 h.2.2.1).symm
      | exact (decide_eq_false fun h ↦ at_ne hpi hqi (fun e ↦ by subst e; simp at hc6) h.2.1).symm
      | exact (decide_eq_false fun h ↦ by
          rcases hc1 with ((e | e) | e) | e
          · exact e h.1
          · exact e (by rw [h.2.1])
          · exact e (by rw [h.2.2.1])
          exact e (by rw [h.2.2.2])).symm
    (try simp at hc11)
    refine Z.g73 ?_
    refine Z.g347 ?_
    refine Z.g62 ?_
    refine Z.only [2, 3, 6] rfl ?_
    refine Z.g347 ?_
    exact Z.again (i + 1) Z.b16 ⟨⟨by omega, hq, tk_eq ht hxi hyi hc11⟩, hs⟩ Z.b10
  (try simp at hc9)
  refine Z.g10 ?_
  refine Z.g60 ?_
  replace hq : x.sd = y.sd ∧ x.rp = y.rp ∧ x.pw = y.pw ∧ x.id.length = y.id.length := ⟨hq.1, hq.2.1, by rwa [List.take_of_length_le Z.b10, List.take_of_length_le Z.b10] at ht, hq.2.2.2⟩
  refine Z.g292 ?_
  refine Z.only [2, 3, 7] rfl ?_
  refine Z.g180 ?_
  refine Z.loopk (ι := Nat) [2, 3] rfl (fun i => [(7, [], .int .i64 (i : Int))]) (fun i wr => (i ≤ x.id.length ∧ (x.sd = y.sd ∧ x.rp = y.rp ∧ x.pw = y.pw ∧ x.id.length = y.id.length) ∧ x.id.take i = y.id.take i) ∧ SX.St w [] wr [SX.Ent.blk g3 61 #[.slice B0 ys.length d0, .slice B1 y.rp.length d1, .slice B2 y.pw.length d2, .slice B3 y.id.length d3], SX.Ent.blk g2 61 #[.slice A0 xs.length c0, .slice A1 x.rp.length c1, .slice A2 x.pw.length c2, .slice A3 x.id.length c3]]) (fun i => x.id.length - i) 0 Z.b6 ⟨⟨Nat.zero_le _, hq, rfl⟩, hs⟩ ?_
  clear hs
  rintro i w14 ⟨⟨hi, hq, ht⟩, hs⟩
  refine Z.only [2, 3, 7] rfl ?_
  refine Z.g259 ?_
  refine Z.g93 ?_
  refine Z.g194 ?_
  refine Z.g1 ?_
  refine Z.only [2, 3, 7, 81] rfl ?_
  refine Z.g347 ?_
  refine Z.cond rfl (fun hc14 => ?_) (fun hc14 => ?_)
  · (try simp at hc14)
    have hxi : x.id[i]? = some (elt x.id (i : Int)) := by rw [elt_get Z.b10]; exact List.getElem?_eq_getElem Z.b10
    have hyi : y.id[i]? = some (elt y.id (i : Int)) := by rw [elt_get Z.b10]; exact List.getElem?_eq_getElem Z.b10
    obtain ⟨b, off, rfl, hb1, hx2⟩ := Z.Sl.some h3 Z.b73
    obtain ⟨b', off', rfl, hb2, hy2⟩ := Z.Sl.some k3 Z.b73
    refine Z.g91 ?_
    refine Z.g98 ?_
    clear hs; intro wd16 hs
    refine Z.t 0 rfl rfl rfl (by rfl) Z.b4 ⟨_, hs, Z.b2⟩ (Z.Yd.fieldA (m := 3) rfl Z.b4) ?_
    refine Z.t 1 rfl rfl rfl (by rfl) Z.b4 ⟨_, hs, Z.b2⟩ Z.b55 ?_
    refine Z.tb [2] Z.b4 rfl ⟨_, hs, Z.b2⟩ rfl ?_
    refine Z.t 3 rfl rfl rfl (by rfl) Z.b4 ⟨_, hs, Z.b2⟩ (Z.Yd.elem rfl rfl Tryz.underlying59 Tryz.sizeOf123 (fun hG => ⟨Z.b3, Z.b3⟩)) ?_
    refine Z.t 4 rfl rfl rfl (by rfl) Z.b4 ⟨_, hs, Z.b2⟩ (Z.Yd.load rfl Tryz.isAgg123 (fun _ => Z.cellS hx2 rfl Z.b10 Z.b10)) ?_
    refine Z.t 5 rfl rfl rfl (by rfl) Z.b4 ⟨_, hs, Z.b2⟩ (Z.Yd.fieldA (m := 3) rfl Z.b4) ?_
    refine Z.t 6 rfl rfl rfl (by rfl) Z.b4 ⟨_, hs, Z.b2⟩ Z.b55 ?_
    refine Z.tb [7] Z.b4 rfl ⟨_, hs, Z.b2⟩ rfl ?_
    refine Z.t 8 rfl rfl rfl (by rfl) Z.b4 ⟨_, hs, Z.b2⟩ (Z.Yd.elem rfl rfl Tryz.underlying59 Tryz.sizeOf123 (fun hG => ⟨Z.b3, Z.b3⟩)) ?_
    refine Z.t 9 rfl rfl rfl (by rfl) Z.b4 ⟨_, hs, Z.b2⟩ (Z.Yd.load rfl Tryz.isAgg123 (fun _ => Z.cellS hy2 rfl Z.b10 Z.b10)) ?_
    refine Z.tb [10] Z.b4 rfl ⟨_, hs, Z.b2⟩ rfl ?_
    refine Z.g67 ?_
    refine Z.only [2, 3, 7, 94] rfl ?_
    refine Z.g347 ?_
    refine Z.cond rfl (fun hc16 => ?_) (fun hc16 => ?_)
    · (try simp at hc16)
      refine Z.g265 ?_
      repeat (first | refine Z.rthen ?_ | refine Z.rblock ?_ | refine Z.rscope ?_)
      refine Z.g52 ?_
      refine ⟨_, rfl, congrArg Value.bool ?_, hs.sub (List.nil_sublist _)⟩
      first
      | exact (decide_eq_true ⟨hq.1, hq.2.1, hq.2.2.1, by rwa [List.take_of_length_le Z.b10, List.take_of_length_le Z.b10] at ht⟩).symm
      | exact (decide_eq_false fun h ↦ at_ne hxi hyi hc16 h.2.2.2).symm
      | exact (decide_eq_false fun h ↦ at_ne hxi hyi hc11 h.2.2.1).symm
      | exact (decide_eq_false fun h ↦ at_ne hpi hqi (fun e ↦ by subst e; simp at hc6) h.2.1).symm
      | exact (decide_eq_false fun h ↦ by
          rcases hc1 with ((e | e) | e) | e
          · exact e h.1
          · exact e (by rw [h.2.1])
          · exact e (by rw [h.2.2.1])
          exact e (by rw [h.2.2.2])).symm
    (try simp at hc16)
    refine Z.g73 ?_
    refine Z.g347 ?_
    refine Z.g62 ?_
    refine Z.only [2, 3, 7] rfl ?_
    refine Z.g347 ?_
    exact Z.again (i + 1) Z.b16 ⟨⟨by omega, hq, tk_eq ht hxi hyi hc16⟩, hs⟩ Z.b10
  (try simp at hc14)
  refine Z.g211 ?_
  refine Z.g217 ?_
  refine Z.g52 ?_
  refine ⟨_, rfl, congrArg Value.bool ?_, hs.sub (List.nil_sublist _)⟩
  first
  | exact (decide_eq_true ⟨hq.1, hq.2.1, hq.2.2.1, by rwa [List.take_of_length_le Z.b10, List.take_of_length_le Z.b10] at ht⟩).symm
  | exact (decide_eq_false fun h ↦ at_ne hxi hyi hc16 h.2.2.2).symm
  | exact (decide_eq_false fun h ↦ at_ne hxi hyi hc11 h.2.2.1).symm
  | exact (decide_eq_false fun h ↦ at_ne hpi hqi (fun e ↦ by subst e; simp at hc6) h.2.1).symm
  | exact (decide_eq_false fun h ↦ by
      rcases hc1 with ((e | e) | e) | e
      · exact e h.1
      · exact e (by rw [h.2.1])
      · exact e (by rw [h.2.2.1])
      exact e (by rw [h.2.2.2])).symm
end Go.Proofs.YtbojkoiopkaciaaGreat

/- The MAC entity: the law's small functions. -/
namespace Go.Proofs.YtbojkoiopkaciaaGreat
open Go.RowKit
set_option linter.unusedSimpArgs false
set_option linter.unusedVariables false
--newlaws

theorem build_ok {m : MaV} (hm : m.ok) {now n : Int} {sd : List Prt} : (buildV m now n sd).1.ok := by
  unfold buildV
  split
  · exact hm
  rename_i h1
  have h1 : okBu m now n sd := Classical.not_not.1 h1
  split
  · exact hm
  split
  · exact hm
  have hr : (buE m now n sd).1.ok ∧ (buE m now n sd).1.now ≤ now := by
    unfold buE
    split
    · refine ⟨hm.r.elsV _ _, ?_⟩
      have h3 := hm.rn
      have h4 := h1.1.2
      unfold elsV
      split
      · show (elM m.r now (n - buN sd)).now ≤ now
        unfold elM
        split
        · exact Int.le_of_eq elM1_now.1
        exact Int.le_of_eq elM1_now.1
      show m.r.now ≤ now
      omega
    exact ⟨hm.r, by have := hm.rn; have := h1.1.2.1; show m.r.now ≤ now; omega⟩
  exact ⟨hm.b, hr.1, by have := hm.bn; have := h1.1.2.1; show m.b.now ≤ now; omega, hr.2, by have := hm.ln; have := h1.1.2.1; show 0 ≤ now; omega, h1.1.2.2⟩
theorem plan_l (m : MaV) (now n head : Int) (dem : List Int) : (planV m now n head dem).1.b.l = m.b.l ∧ (planV m now n head dem).1.up = m.up := by
  unfold planV
  split
  · refine ⟨?_, rfl⟩
    show (plD m now n head dem).1.l = m.b.l
    unfold plD
    rw [(divV_l _ _ _).1]
    unfold tickV
    split <;> rfl
  exact ⟨rfl, rfl⟩
theorem plan_len {m : MaV} (hm : m.ok) {now n head : Int} {dem : List Int} : (planV m now n head dem).2.1.length ≤ 1000 := by
  unfold planV
  split
  · rename_i h
    show (List.map _ _).length ≤ 1000
    rw [List.length_map, (plan_out hm h).1]
    have := hm.b.pos
    omega
  exact Nat.zero_le _
theorem mx_plan (g gb gr : Nat) (C : Option Addr) (kc : Nat) (sv so : Value) (m : MaV) (now n head : Int) (D : Option Addr) (nd cd : Nat) (dem : List Int) (w : World) (hs : SX.St w (SX.idsOf (maE g gb gr C kc sv so m)) w (maE g gb gr C kc sv so m)) (hm : m.ok)
    (hC : Sx w (SX.idsOf (maE g gb gr C kc sv so m)) C (m.b.l.flatMap LgV.cells)) (hD : Sx w (SX.idsOf (maE g gb gr C kc sv so m)) D (ints .i64 dem)) (hdl : dem.length = nd) (hnd : nd ≤ 1000) :
    Calls Tryz.prog 16 #[.pointer (some ⟨g, 0, none⟩), .int .i64 now, .int .i64 n, .int .i64 head, .slice D nd cd] w (SX.Ret fun v w' => PlR g gb gr C kc sv so (planV m now n head dem) (SX.idsOf (maE g gb gr C kc sv so m)) w v w') := by
  cases hup : m.up with
  | true => exact mx_plan_up g gb gr C kc sv so m now n head D nd cd dem w hs hm hup hC hD hdl hnd
  | false => exact mx_plan_dn g gb gr C kc sv so m now n head D nd cd dem w hs hm hup hC hD hdl hnd
theorem mx_build (g gb gr : Nat) (C : Option Addr) (kc : Nat) (sv so : Value) (m : MaV) (now n : Int) (A : Option Addr) (nn c : Nat) (ps : List MpV) (w : World) (hs : SX.St w (SX.idsOf (maE g gb gr C kc sv so m)) w (maE g gb gr C kc sv so m)) (hm : m.ok)
    (hx : Sx w (SX.idsOf (maE g gb gr C kc sv so m)) A (ps.flatMap MpV.cells)) (hB : ∀ q ∈ ps, Sx w (SX.idsOf (maE g gb gr C kc sv so m)) q.B (ints .u8 q.l)) (hby : ∀ q ∈ ps, ∀ y ∈ q.l, 0 ≤ y ∧ y < 256) (hl : ps.length = nn) (hn : nn ≤ 90) (hf : ∀ q ∈ ps, q.l.length ≤ 100000) :
    Calls Tryz.prog 23 #[.pointer (some ⟨g, 0, none⟩), .int .i64 now, .int .i64 n, .slice A nn c] w (SX.Ret fun v w' => BuR g gb gr C kc sv so (buildV m now n (ps.map MpV.plain)) (SX.idsOf (maE g gb gr C kc sv so m)) w v w') := by
  cases hup : m.up with
  | true => exact mx_build_up g gb gr C kc sv so m now n A nn c ps w hs hm hup hx hB hby hl hn hf
  | false => exact mx_build_dn g gb gr C kc sv so m now n A nn c ps w hs hm hup hx hB hby hl hn hf
theorem num29 (e : Int) (w : World) : Calls Tryz.prog 13 #[.int .i64 e] w (SX.Ret fun v w' => v = .int .i64 e ∧ SX.St w [] w' []) := by
  have hs := SX.St.start w
  refine Z.enter Tryz.func13 rfl Tryz.ntmps13 rfl rfl ?_
  refine Z.g184 ?_
  refine Z.g291 ?_
  refine Z.g33 ?_
  refine Z.g52 ?_
  exact ⟨_, rfl, rfl, hs⟩
theorem same29 (A B : Option Addr) (n c k d : Nat) (xs ys : List Int) (w : World) (hA : Sl w A (ints .i64 xs)) (hB : Sl w B (ints .i64 ys)) (hl : xs.length = n) (hk : ys.length = k) (hn : n ≤ 1000) :
    Calls Tryz.prog 35 #[.slice A n c, .slice B k d] w (SX.Ret fun v w' => v = .bool (decide (xs = ys)) ∧ SX.St w [] w' []) := by
  have hs := SX.St.start w
  refine Z.enter Tryz.func35 rfl Tryz.ntmps35 rfl rfl ?_
  refine Z.g245 ?_
  refine Z.g124 ?_
  refine Z.g26 ?_
  refine Z.g93 ?_
  refine Z.g246 ?_
  refine Z.only [0, 1, 10] rfl ?_
  refine Z.g347 ?_
  refine Z.cond rfl (fun hc1 => ?_) (fun hc1 => ?_)
  · (try simp at hc1)
    have hne : ¬ xs = ys := fun h => by subst h; omega
    refine Z.g265 ?_
    repeat (first | refine Z.rthen ?_ | refine Z.rblock ?_ | refine Z.rscope ?_)
    refine Z.g52 ?_
    exact ⟨_, rfl, by rw [decide_eq_false hne], hs⟩
  (try simp at hc1)
  have hnk : n = k := by omega
  refine Z.g215 ?_
  refine Z.g1 ?_
  refine Z.only [0, 1, 5] rfl ?_
  refine Z.g180 ?_
  refine Z.loopk (ι := Nat) [0, 1] rfl (fun i => [(5, [], .int .i64 (i : Int))]) (fun i wr => (i ≤ n ∧ xs.take i = ys.take i) ∧ SX.St w [] wr []) (fun i => n - i) 0 Z.b6 ⟨⟨by omega, rfl⟩, hs⟩ ?_
  clear hs
  rintro i w4 ⟨⟨hi, ht⟩, hs⟩
  refine Z.only [0, 1, 5] rfl ?_
  refine Z.g259 ?_
  refine Z.g19 ?_
  refine Z.g246 ?_
  refine Z.only [0, 1, 5, 14] rfl ?_
  refine Z.g347 ?_
  refine Z.cond rfl (fun hc4 => ?_) (fun hc4 => ?_)
  · (try simp at hc4)
    have hxi : xs[i]? = some (elt xs (i : Int)) := by rw [elt_get Z.b10]; exact List.getElem?_eq_getElem Z.b10
    have hyi : ys[i]? = some (elt ys (i : Int)) := by rw [elt_get Z.b10]; exact List.getElem?_eq_getElem Z.b10
    obtain ⟨b, off, rfl, hb1, hx2⟩ := Z.Sl.some hA Z.b73
    obtain ⟨b', off', rfl, hb2, hy2⟩ := Z.Sl.some hB Z.b73
    refine Z.g91 ?_
    refine Z.g98 ?_
    clear hs; intro wd6 hs
    refine Z.tb [0, 1] Z.b4 rfl ⟨_, hs, Z.b2⟩ rfl ?_
    refine Z.t 2 rfl rfl rfl (by rfl) Z.b4 ⟨_, hs, Z.b2⟩ (Z.Yd.elem rfl rfl Tryz.underlying34 Tryz.sizeOf3 (fun hG => ⟨Z.b3, Z.b3⟩)) ?_
    refine Z.t 3 rfl rfl rfl (by rfl) Z.b4 ⟨_, hs, Z.b2⟩ (Z.Yd.load rfl Tryz.isAgg3 (fun _ => Z.cellS hx2 rfl Z.b10 Z.b10)) ?_
    refine Z.tb [4, 5] Z.b4 rfl ⟨_, hs, Z.b2⟩ rfl ?_
    refine Z.t 6 rfl rfl rfl (by rfl) Z.b4 ⟨_, hs, Z.b2⟩ (Z.Yd.elem rfl rfl Tryz.underlying34 Tryz.sizeOf3 (fun hG => ⟨Z.b3, Z.b3⟩)) ?_
    refine Z.t 7 rfl rfl rfl (by rfl) Z.b4 ⟨_, hs, Z.b2⟩ (Z.Yd.load rfl Tryz.isAgg3 (fun _ => Z.cellS hy2 rfl Z.b10 Z.b10)) ?_
    refine Z.tb [8] Z.b4 rfl ⟨_, hs, Z.b2⟩ rfl ?_
    refine Z.g67 ?_
    refine Z.only [0, 1, 5, 25] rfl ?_
    refine Z.g347 ?_
    refine Z.cond rfl (fun hc6 => ?_) (fun hc6 => ?_)
    · (try simp at hc6)
      have hne : ¬ xs = ys := fun h => by
        rw [h] at hc6
        simp at hc6
      refine Z.g265 ?_
      repeat (first | refine Z.rthen ?_ | refine Z.rblock ?_ | refine Z.rscope ?_)
      refine Z.g52 ?_
      exact ⟨_, rfl, by rw [decide_eq_false hne], hs⟩
    (try simp at hc6)
    refine Z.g73 ?_
    refine Z.g347 ?_
    refine Z.g62 ?_
    refine Z.only [0, 1, 5] rfl ?_
    refine Z.g347 ?_
    refine Z.again (i + 1) Z.b16 ⟨⟨by omega, ?_⟩, hs⟩ Z.b10
    rw [List.take_add_one, List.take_add_one, hxi, hyi, ht]
    simp_all
  (try simp at hc4)
  refine Z.g211 ?_
  refine Z.g217 ?_
  refine Z.g52 ?_
  rw [List.take_of_length_le Z.b10, List.take_of_length_le Z.b10] at ht
  exact ⟨_, rfl, by rw [decide_eq_true ht], hs⟩
set_option maxHeartbeats 1000000 in
set_option maxRecDepth 100000 in
theorem plans29 (g gb gr : Nat) (C : Option Addr) (kc : Nat) (sv so : Value) (m : MaV) (now n head dm want no : Int) (w : World) (hs : SX.St w (SX.idsOf (maE g gb gr C kc sv so m)) w (maE g gb gr C kc sv so m)) (hm : m.ok)
    (hC : Sx w (SX.idsOf (maE g gb gr C kc sv so m)) C (m.b.l.flatMap LgV.cells)) :
    Calls Tryz.prog 25 #[.pointer (some ⟨g, 0, none⟩), .int .i64 now, .int .i64 n, .int .i64 head, .int .i64 dm, .int .i64 want, .int .i64 no] w (SX.Ret fun v w' => v = .bool (decide ((planV m now n head [dm]).2 = (if no ≠ 0 then [] else [want], no))) ∧ SX.St w (SX.idsOf (maE g gb gr C kc sv so m)) w' (maE g gb gr C kc sv so (planV m now n head [dm]).1)) := by
  obtain ⟨R, hR⟩ : ∃ R, planV m now n head [dm] = R := ⟨_, rfl⟩
  have hlen : R.2.1.length ≤ 1000 := by rw [← hR]; exact plan_len hm
  refine Z.enter Tryz.func25 rfl Tryz.ntmps25 rfl rfl ?_
  refine Z.g90 ?_
  refine Z.only [0, 1, 2, 3, 4, 5, 6] rfl ?_
  refine Z.g30 ?_
  refine Z.lb 5 rfl ?_
  refine Z.g3 ?_
  refine Z.g55 ?_
  clear hs; intro g23 w23 hs
  replace hs : SX.St w _ _ (maE g gb gr C kc sv so m ++ [SX.Ent.blk g23 3 #[.int .i64 dm]]) := SX.St.rot (L1 := [_]) hs
  refine Z.g3 ?_
  refine Z.ZO.call rfl rfl (by rfl) rfl rfl Tryz.call16 rfl (mx_plan g gb gr C kc sv so m now n head (some ⟨g23, 0, none⟩) 1 1 [dm] _ hs.lend hm (hC.lent hs) (Z.blk_lentj hs (j := 0) rfl) rfl Z.b13) ?_
  rintro v1_6 w1_6 ⟨ov, rfl, hz⟩
  rw [hR] at hz
  rw [hR]
  replace hs := hs.regain hz
  obtain ⟨Ao, co, rfl, -, -, -⟩ := SX.row_slv hs (j := 0) rfl
  refine Z.g125 ?_
  refine Z.only [5, 6, 15, 16] rfl ?_
  refine Z.g95 ?_
  refine Z.only [5, 6, 15, 16, 28] rfl ?_
  refine Z.g347 ?_
  refine Z.cond rfl (fun hc2 => ?_) (fun hc2 => ?_)
  · (try simp at hc2)
    refine Z.g0 ?_
    refine Z.g93 ?_
    refine Z.g26 ?_
    refine Z.g19 ?_
    refine Z.split (s := 32) rfl (fun hsp32 => ?_) (fun hsp32 => ?_)
    · refine Z.yes (s := 32) (b := true) rfl hsp32 rfl ?_
      (try simp at hsp32)
      refine Z.g93 ?_
      refine Z.yes (s := 32) (b := true) rfl rfl rfl ?_
      refine Z.g142 ?_
      refine Z.g149 ?_
      rintro v3_5 w3_5 ⟨rfl, hy⟩
      replace hs := Z.w1 (hs.call hy); clear hy
      refine Z.g19 ?_
      refine Z.yes (s := 32) (b := true) rfl rfl rfl ?_
      refine Z.g16 ?_
      refine Z.g1 ?_
      refine Z.only [14] rfl ?_
      refine Z.g6 ?_
      repeat (first | refine Z.rthen ?_ | refine Z.rblock ?_ | refine Z.rscope ?_)
      refine Z.g52 ?_
      exact ⟨_, rfl, by congr 1; rw [Bool.eq_iff_iff]; simp [Prod.ext_iff, hc2, hsp32], hs.sub ((List.sublist_append_left _ _).cons _)⟩
    refine Z.yes (s := 32) (b := false) rfl hsp32 rfl ?_
    (try simp at hsp32)
    refine Z.g4 ?_
    refine Z.g66 ?_
    refine Z.g14 ?_
    refine Z.g1 ?_
    refine Z.only [14] rfl ?_
    refine Z.g6 ?_
    repeat (first | refine Z.rthen ?_ | refine Z.rblock ?_ | refine Z.rscope ?_)
    refine Z.g52 ?_
    exact ⟨_, rfl, by congr 1; rw [Bool.eq_iff_iff]; simp [Prod.ext_iff, hc2, hsp32], hs.sub ((List.sublist_append_left _ _).cons _)⟩
  (try simp at hc2)
  refine Z.g122 ?_
  refine Z.g92 ?_
  refine Z.g55 ?_
  clear hs; intro g40 w40 hs
  refine Z.g3 ?_
  refine Z.ZO.call rfl rfl (by rfl) rfl rfl Tryz.call35 rfl (same29 Ao (some ⟨g40, 0, none⟩) _ co 1 1 R.2.1 [want] _ (hs.slm Z.b0) (hs.blkSl Z.b0) rfl rfl hlen) ?_
  rintro v4_3 w4_3 ⟨rfl, hy⟩
  replace hs := Z.w1 (hs.call hy); clear hy
  refine Z.g93 ?_
  refine Z.split (s := 42) rfl (fun hsp42 => ?_) (fun hsp42 => ?_)
  · refine Z.yes (s := 42) (b := true) rfl hsp42 rfl ?_
    (try simp at hsp42)
    refine Z.g93 ?_
    refine Z.yes (s := 42) (b := true) rfl rfl rfl ?_
    refine Z.g142 ?_
    refine Z.g149 ?_
    rintro v4_6 w4_6 ⟨rfl, hy⟩
    replace hs := Z.w1 (hs.call hy); clear hy
    refine Z.g93 ?_
    refine Z.yes (s := 42) (b := true) rfl rfl rfl ?_
    refine Z.g16 ?_
    refine Z.g1 ?_
    refine Z.only [14] rfl ?_
    refine Z.g6 ?_
    refine Z.g52 ?_
    exact ⟨_, rfl, by congr 1; rw [Bool.eq_iff_iff]; simp [Prod.ext_iff, hc2, hsp42], hs.sub (((List.sublist_append_left _ _).cons _).cons _)⟩
  refine Z.yes (s := 42) (b := false) rfl hsp42 rfl ?_
  (try simp at hsp42)
  refine Z.g4 ?_
  refine Z.g14 ?_
  refine Z.g1 ?_
  refine Z.only [14] rfl ?_
  refine Z.g6 ?_
  refine Z.g52 ?_
  exact ⟨_, rfl, by congr 1; rw [Bool.eq_iff_iff]; simp [Prod.ext_iff, hc2, hsp42], hs.sub (((List.sublist_append_left _ _).cons _).cons _)⟩
set_option maxHeartbeats 1000000 in
set_option maxRecDepth 100000 in
theorem builds29 (g gb gr : Nat) (C : Option Addr) (kc : Nat) (sv so : Value) (m : MaV) (now n : Int) (s : ByteArray) (no : Int) (A : Option Addr) (nn c : Nat) (ps : List MpV) (w : World) (hs : SX.St w (SX.idsOf (maE g gb gr C kc sv so m)) w (maE g gb gr C kc sv so m)) (hm : m.ok)
    (hx : Sx w (SX.idsOf (maE g gb gr C kc sv so m)) A (ps.flatMap MpV.cells)) (hB : ∀ q ∈ ps, Sx w (SX.idsOf (maE g gb gr C kc sv so m)) q.B (ints .u8 q.l)) (hby : ∀ q ∈ ps, ∀ y ∈ q.l, 0 ≤ y ∧ y < 256) (hl : ps.length = nn) (hn : nn ≤ 90) (hf : ∀ q ∈ ps, q.l.length ≤ 100000) :
    Calls Tryz.prog 19 #[.pointer (some ⟨g, 0, none⟩), .int .i64 now, .int .i64 n, .string s, .int .i64 no, .slice A nn c] w (SX.Ret fun v w' => v = .bool (((Z.strOf (buildV m now n (ps.map MpV.plain)).2.1).toList == s.toList) && decide ((buildV m now n (ps.map MpV.plain)).2.2 = no)) ∧ SX.St w (SX.idsOf (maE g gb gr C kc sv so m)) w' (maE g gb gr C kc sv so (buildV m now n (ps.map MpV.plain)).1)) := by
  obtain ⟨R, hR⟩ : ∃ R, buildV m now n (ps.map MpV.plain) = R := ⟨_, rfl⟩
  refine Z.enter Tryz.func19 rfl Tryz.ntmps19 rfl rfl ?_
  refine Z.g90 ?_
  refine Z.only [0, 1, 2, 3, 4, 5] rfl ?_
  refine Z.g30 ?_
  refine Z.lb 4 rfl ?_
  refine Z.g3 ?_
  refine Z.ZO.call rfl rfl (by rfl) rfl rfl Tryz.call23 rfl (mx_build g gb gr C kc sv so m now n A nn c ps _ hs hm hx hB hby hl hn hf) ?_
  rintro v1_4 w1_4 ⟨ov, rfl, hs⟩
  rw [hR] at hs
  rw [hR]
  obtain ⟨Ao, co, rfl, -, -, -⟩ := SX.row_slv hs (j := 0) rfl
  refine Z.g125 ?_
  refine Z.only [3, 4, 13, 14] rfl ?_
  refine Z.g258 ?_
  refine Z.l rfl rfl (by rfl) (Z.keepS hs) (Z.Yd.b2s rfl Tryz.underlying48 Tryz.underlying5 Tryz.underlying9 rfl (fun W hW => by obtain ⟨L', hR', hsub⟩ := hW; exact hR'.slm (hsub _ Z.b0))) ?_
  refine Z.g93 ?_
  refine Z.l rfl rfl (by rfl) (Z.keepS hs) (Z.Yd.strEq rfl rfl) ?_
  refine Z.g93 ?_
  refine Z.split (s := 27) rfl (fun hsp27 => ?_) (fun hsp27 => ?_)
  · refine Z.yes (s := 27) (b := true) rfl hsp27 rfl ?_
    (try simp at hsp27)
    refine Z.g93 ?_
    refine Z.yes (s := 27) (b := true) rfl rfl rfl ?_
    refine Z.g142 ?_
    refine Z.g149 ?_
    rintro v2_6 w2_6 ⟨rfl, hy⟩
    replace hs := Z.w1 (hs.call hy); clear hy
    refine Z.g19 ?_
    refine Z.yes (s := 27) (b := true) rfl rfl rfl ?_
    refine Z.g16 ?_
    refine Z.g1 ?_
    refine Z.only [12] rfl ?_
    refine Z.g6 ?_
    refine Z.g52 ?_
    exact ⟨_, rfl, by congr 1; rw [Bool.eq_iff_iff]; simp [hsp27], hs.tl⟩
  refine Z.yes (s := 27) (b := false) rfl hsp27 rfl ?_
  (try simp at hsp27)
  refine Z.g4 ?_
  refine Z.g66 ?_
  refine Z.g14 ?_
  refine Z.g1 ?_
  refine Z.only [12] rfl ?_
  refine Z.g6 ?_
  refine Z.g52 ?_
  exact ⟨_, rfl, by congr 1; rw [Bool.eq_iff_iff]; simp [hsp27], hs.tl⟩
end Go.Proofs.YtbojkoiopkaciaaGreat

/- The MAC entity: the examples hold. -/
namespace Go.Proofs.YtbojkoiopkaciaaGreat
open Go.RowKit
set_option linter.unusedSimpArgs false
set_option linter.unusedVariables false
--newlaws

def k29l : List LgV := [⟨3, 1, 10, 100, 2⟩]
def k29m0 : MaV := newM k29l 0 0 0 0 false
def k29m1 : MaV := (planV k29m0 1 20 0 [50]).1
def k29m2 : MaV := (planV k29m1 1 2 0 [50]).1
def k29m3 : MaV := (planV k29m2 0 20 0 [50]).1
def k29m4 : MaV := (buildV k29m3 1 5 [(3, [1, 2])]).1
def k29m5 : MaV := (buildV k29m4 1 2 [(3, [1, 2])]).1
def k29m6 : MaV := (buildV k29m5 1 5 []).1
def k29m7 : MaV := (buildV k29m6 1 5 [(4, [1])]).1
def k29u0 : MaV := newM k29l 0 0 0 0 true
def k29u1 : MaV := (planV k29u0 1 20 5 [50]).1
theorem k29s : okSet k29l := by decide +kernel
theorem k29c : okC 0 0 0 0 := by decide +kernel
theorem e29_1 : (planV k29m0 1 20 0 [50]).2 = ([17], 0) := by decide +kernel
theorem e29_2 : (planV k29m1 1 2 0 [50]).2 = ([0], 0) := by decide +kernel
theorem e29_3 : (planV k29m2 0 20 0 [50]).2 = ([], 2) := by decide +kernel
theorem e29_8 : (recV k29m7 [63, 61, 3, 7, 1, 2]).1 = 0 ∧ sameC (recV k29m7 [63, 61, 3, 7, 1, 2]).2 ⟨[(3, [1, 2])], [⟨false, 0, 7, 0, 0, 0⟩], [], []⟩ := by decide +kernel
theorem e29_9 : (planV k29u0 1 20 5 [50]).2 = ([13], 0) := by decide +kernel
theorem blk_lentm {w0 w : World} {M : List Nat} {L1 L2 : List SX.Ent} {g T : Nat} {cs : Array Value} (hs : SX.St w0 M w (L1 ++ L2)) (hm : SX.Ent.blk g T cs ∈ L2) : Sx w (SX.idsOf L1) (some ⟨g, 0, none⟩) cs.toList := by
  obtain ⟨j, hj⟩ := List.getElem?_of_mem hm
  exact Z.blk_lentj hs hj
theorem St.mid {w0 w : World} {M : List Nat} {L1 L2 : List SX.Ent} {e : SX.Ent} (hs : SX.St w0 M w (e :: (L1 ++ L2))) : SX.St w0 M w (L1 ++ (e :: L2)) := hs.perm List.perm_middle
theorem recGo_sd {m : MaV} : ∀ (r : List Prt) (x : CtV), (∀ p ∈ (recGo m r x).2.sd, p ∈ x.sd ∨ p ∈ r) ∧ (recGo m r x).2.rp.length ≤ x.rp.length + r.length ∧ (recGo m r x).2.pw.length ≤ x.pw.length + r.length ∧ (recGo m r x).2.id.length ≤ x.id.length + r.length ∧ (recGo m r x).2.sd.length ≤ x.sd.length + r.length
  | [], x => ⟨fun p hp => .inl hp, Nat.le_refl _, Nat.le_refl _, Nat.le_refl _, Nat.le_refl _⟩
  | p :: r, x => by
    rw [recGo]
    split
    · exact ⟨fun p hp => (by cases hp), Nat.zero_le _, Nat.zero_le _, Nat.zero_le _, Nat.zero_le _⟩
    obtain ⟨h1, h2, h3, h4, h5⟩ := recGo_sd (m := m) r (recS m x p).2
    have key : (∀ q ∈ (recS m x p).2.sd, q ∈ x.sd ∨ q = p) ∧ (recS m x p).2.rp.length ≤ x.rp.length + 1 ∧ (recS m x p).2.pw.length ≤ x.pw.length + 1 ∧ (recS m x p).2.id.length ≤ x.id.length + 1 ∧ (recS m x p).2.sd.length ≤ x.sd.length + 1 := by
      by_cases hc : ctlN p.1 = 0
      · rw [recS_no hc]
        split
        · refine ⟨fun q hq => ?_, by simp, by simp, by simp, by simp⟩
          rcases List.mem_append.1 hq with h | h
          · exact .inl h
          exact .inr (by simpa using h)
        exact ⟨fun q hq => .inl hq, by simp, by simp, by simp, by simp⟩
      obtain ⟨k1, k2, k3, k4⟩ := recS_ctl (m := m) (x := x) hc
      exact ⟨fun q hq => .inl (by rwa [k1] at hq), k4, k2, k3, by rw [k1]; omega⟩
    obtain ⟨k1, k2, k3, k4, k5⟩ := key
    refine ⟨fun q hq => ?_, by simp only [List.length_cons]; omega, by simp only [List.length_cons]; omega, by simp only [List.length_cons]; omega, by simp only [List.length_cons]; omega⟩
    rcases h1 q hq with h | h
    · rcases k1 q h with h' | h'
      · exact .inl h'
      exact .inr (by rw [h']; exact List.mem_cons_self ..)
    exact .inr (List.mem_cons_of_mem _ h)
theorem rec_bd (m : MaV) (l : List Int) : (∀ p ∈ (recV m l).2.sd, p ∈ (parV l).2) ∧ (recV m l).2.rp.length ≤ 16385 ∧ (recV m l).2.pw.length ≤ 16385 ∧ (recV m l).2.id.length ≤ 16385 ∧ (recV m l).2.sd.length ≤ 16385 := by
  have hc := par_cnt l
  unfold recV
  split
  · exact ⟨fun p hp => (by cases hp), Nat.zero_le _, Nat.zero_le _, Nat.zero_le _, Nat.zero_le _⟩
  obtain ⟨h1, h2, h3, h4, h5⟩ := recGo_sd (m := m) (parV l).2 CtV.nil
  have e : CtV.nil.rp.length = 0 ∧ CtV.nil.pw.length = 0 ∧ CtV.nil.id.length = 0 ∧ CtV.nil.sd.length = 0 := ⟨rfl, rfl, rfl, rfl⟩
  refine ⟨fun p hp => ?_, by omega, by omega, by omega, by omega⟩
  rcases h1 p hp with h | h
  · cases h
  exact h
theorem rec_ctq {w0 W : World} {M : List Nat} {L : List SX.Ent} {m : MaV} {l : List Int} {s0 s1 s2 s3 : Value} {xs : List MpV} {qs : List (MpV × Nat)} (hb : ∀ x ∈ l, 0 ≤ x ∧ x < 256) (hs : SX.St w0 M W L) (hp : xs.map MpV.plain = (recV m l).2.sd) (hm : ∀ q ∈ xs, q ∈ qs.map Prod.fst)
    (hL : ∀ e ∈ ([SX.Ent.row s0 77 2 xs.length (xs.flatMap MpV.cells), SX.Ent.row s1 86 6 (recV m l).2.rp.length ((recV m l).2.rp.flatMap RepV.cells), SX.Ent.row s2 3 1 (recV m l).2.pw.length (ints .i64 (recV m l).2.pw), SX.Ent.row s3 123 1 (recV m l).2.id.length (ints .u64 (recV m l).2.id)] ++ rowsQ qs), e ∈ L) : CtQ W [s0, s1, s2, s3] xs (recV m l).2 := by
  obtain ⟨j0, h0⟩ := List.getElem?_of_mem (hL (SX.Ent.row s0 77 2 xs.length (xs.flatMap MpV.cells)) Z.b22)
  obtain ⟨j1, h1⟩ := List.getElem?_of_mem (hL (SX.Ent.row s1 86 6 (recV m l).2.rp.length ((recV m l).2.rp.flatMap RepV.cells)) Z.b22)
  obtain ⟨j2, h2⟩ := List.getElem?_of_mem (hL (SX.Ent.row s2 3 1 (recV m l).2.pw.length (ints .i64 (recV m l).2.pw)) Z.b22)
  obtain ⟨j3, h3⟩ := List.getElem?_of_mem (hL (SX.Ent.row s3 123 1 (recV m l).2.id.length (ints .u64 (recV m l).2.id)) Z.b22)
  obtain ⟨A0, c0, rfl, -, -, -⟩ := SX.row_slv hs h0
  obtain ⟨A1, c1, rfl, -, -, -⟩ := SX.row_slv hs h1
  obtain ⟨A2, c2, rfl, -, -, -⟩ := SX.row_slv hs h2
  obtain ⟨A3, c3, rfl, -, -, -⟩ := SX.row_slv hs h3
  refine ⟨A0, c0, A1, c1, A2, c2, A3, c3, rfl, hp, hs.slm (List.mem_of_getElem? h0), hs.slm (List.mem_of_getElem? h1), hs.slm (List.mem_of_getElem? h2), hs.slm (List.mem_of_getElem? h3), fun q hq => rowsQ_sl hs (fun e he => hL e (List.mem_append_right _ he)) q (hm q hq), fun q hq z hz => ?_⟩
  have h5 : q.plain ∈ (recV m l).2.sd := by rw [← hp]; exact List.mem_map_of_mem hq
  exact hb z (par_mem l _ ((rec_bd m l).1 _ h5) z hz)
theorem en_of {w0 W : World} {M : List Nat} {L : List SX.Ent} {g gb gr : Nat} {C : Option Addr} {kc : Nat} {sv so : Value} {m : MaV} (hs : SX.St w0 M W L) (hL : ∀ e ∈ maE g gb gr C kc sv so m, e ∈ L) : EnX W [] g gb m :=
  bkX (hs.bkR (sv := sv) (so := so) (m := m.b) (fun e he => hL e (List.mem_cons_of_mem _ (List.mem_append_left _ he)))) (hs.celOf (cs := [_, _, _, _]) (hL _ (List.mem_cons_self ..)))
theorem pl29 (g gb gr : Nat) (C : Option Addr) (kc : Nat) (sv so : Value) (m : MaV) (now n head dm want no : Int) (w : World) (hs : SX.St w (SX.idsOf (maE g gb gr C kc sv so m)) w (maE g gb gr C kc sv so m)) (hm : m.ok)
    (hC : Sx w (SX.idsOf (maE g gb gr C kc sv so m)) C (m.b.l.flatMap LgV.cells)) (hv : (planV m now n head [dm]).2 = (if no ≠ 0 then [] else [want], no)) :
    Calls Tryz.prog 25 #[.pointer (some ⟨g, 0, none⟩), .int .i64 now, .int .i64 n, .int .i64 head, .int .i64 dm, .int .i64 want, .int .i64 no] w (SX.Ret fun v w' => v = .bool true ∧ SX.St w (SX.idsOf (maE g gb gr C kc sv so m)) w' (maE g gb gr C kc sv so (planV m now n head [dm]).1)) := by
  have := plans29 g gb gr C kc sv so m now n head dm want no w hs hm hC
  rwa [decide_eq_true hv] at this
theorem bu29 (g gb gr : Nat) (C : Option Addr) (kc : Nat) (sv so : Value) (m : MaV) (now n : Int) (s : ByteArray) (no : Int) (A : Option Addr) (nn c : Nat) (ps : List MpV) (sd : List Prt) (w : World) (hs : SX.St w (SX.idsOf (maE g gb gr C kc sv so m)) w (maE g gb gr C kc sv so m)) (hm : m.ok)
    (hx : Sx w (SX.idsOf (maE g gb gr C kc sv so m)) A (ps.flatMap MpV.cells)) (hB : ∀ q ∈ ps, Sx w (SX.idsOf (maE g gb gr C kc sv so m)) q.B (ints .u8 q.l)) (hby : ∀ q ∈ ps, ∀ y ∈ q.l, 0 ≤ y ∧ y < 256) (hl : ps.length = nn) (hn : nn ≤ 90) (hf : ∀ q ∈ ps, q.l.length ≤ 100000) (hsd : ps.map MpV.plain = sd) (hv : (((Z.strOf (buildV m now n sd).2.1).toList == s.toList) && decide ((buildV m now n sd).2.2 = no)) = true) :
    Calls Tryz.prog 19 #[.pointer (some ⟨g, 0, none⟩), .int .i64 now, .int .i64 n, .string s, .int .i64 no, .slice A nn c] w (SX.Ret fun v w' => v = .bool true ∧ SX.St w (SX.idsOf (maE g gb gr C kc sv so m)) w' (maE g gb gr C kc sv so (buildV m now n sd).1)) := by
  have := builds29 g gb gr C kc sv so m now n s no A nn c ps w hs hm hx hB hby hl hn hf
  rwa [hsd, hv] at this
def ex4 (B : Option Addr) : MpV := ⟨4, B, 1, [1]⟩
theorem ex_b {B : Option Addr} : ∀ y ∈ (exS B).l, 0 ≤ y ∧ y < 256 := by show ∀ y ∈ [(1 : Int), 2], 0 ≤ y ∧ y < 256; decide
theorem ex_n {B : Option Addr} : (exS B).l.length ≤ 100000 := by show 2 ≤ 100000; decide
theorem ex_b4 {B : Option Addr} : ∀ y ∈ (ex4 B).l, 0 ≤ y ∧ y < 256 := by show ∀ y ∈ [(1 : Int)], 0 ≤ y ∧ y < 256; decide
theorem ex_n4 {B : Option Addr} : (ex4 B).l.length ≤ 100000 := by show 1 ≤ 100000; decide
theorem k29o0 : k29m0.ok := newM_ok k29s k29c
theorem k29o1 : k29m1.ok := plan_ok k29o0
theorem k29o2 : k29m2.ok := plan_ok k29o1
theorem k29o3 : k29m3.ok := plan_ok k29o2
theorem k29o4 : k29m4.ok := build_ok k29o3
theorem k29o5 : k29m5.ok := build_ok k29o4
theorem k29o6 : k29m6.ok := build_ok k29o5
theorem k29o7 : k29m7.ok := build_ok k29o6
theorem k29p0 : k29u0.ok := newM_ok k29s k29c
theorem k29p1 : k29u1.ok := plan_ok k29p0
theorem k29l1 : k29m1.b.l = k29l := (plan_l _ _ _ _ _).1
theorem k29l2 : k29m2.b.l = k29l := (plan_l _ _ _ _ _).1.trans k29l1
theorem ex_one4 {B : Option Addr} {P : MpV → Prop} (h : P (ex4 B)) : ∀ q ∈ [ex4 B], P q := fun q hq => by rw [List.mem_singleton.1 hq]; exact h
theorem St.mid2 {w0 w : World} {M : List Nat} {L1 L2 : List SX.Ent} {e f : SX.Ent} (hs : SX.St w0 M w (e :: f :: (L1 ++ L2))) : SX.St w0 M w (L1 ++ (e :: f :: L2)) := hs.perm (List.perm_append_comm_assoc L1 [e, f] L2)
theorem ex_one {B : Option Addr} {P : MpV → Prop} (h : P (exS B)) : ∀ q ∈ [exS B], P q := fun q hq => by rw [List.mem_singleton.1 hq]; exact h
set_option maxHeartbeats 4000000 in
set_option maxRecDepth 100000 in
theorem works29 (w : World) : Calls Tryz.prog 10 #[] w (SX.Ret fun v w' => v = .bool true ∧ SX.St w [] w' []) := by
  have hs := SX.St.start w
  refine Z.enter Tryz.func10 rfl Tryz.ntmps10 rfl rfl ?_
  refine Z.g90 ?_
  refine Z.g206 ?_
  refine Z.g30 ?_
  refine Z.l rfl rfl (by rfl) (Z.keepS hs) (Z.Yd.buildL [(0, 1), (1, 1), (2, 1), (3, 1), (4, 1)] [.int .i64 0, .int .i64 0, .int .i64 0, .int .i64 0, .int .i64 0] rfl rfl Z.b17) ?_
  refine Z.g3 ?_
  refine Z.ZO.litL (T' := 75) [(0, 5)] [.int .i64 0, .int .i64 0, .int .i64 0, .int .i64 0, .int .i64 0] rfl rfl (by rfl) rfl rfl Z.b20 hs ?_
  clear hs; intro g10 w10 hs
  refine Z.l rfl rfl (by rfl) (Z.keepS hs) (Z.Yd.buildL [(0, 1), (1, 4), (5, 1)] [.slice none 0 0, .int .i64 0, .int .i64 0, .int .i64 0, .int .i64 0, .bool false] rfl rfl Z.b17) ?_
  refine Z.g3 ?_
  refine Z.ZO.alloc rfl rfl (by rfl) Tryz.zeroValue26 rfl hs ?_
  clear hs; intro g1 w1 hs
  refine Z.g123 ?_
  clear hs; intro ws hs
  replace hs := Z.w0 hs
  replace hs := Z.w3 hs
  refine Z.g348 ?_
  refine Z.only [1] rfl ?_
  refine Z.g30 ?_
  refine Z.g3 ?_
  refine Z.ZO.litL (T' := 5) [(0, 1), (1, 1)] [.int .u8 0, .int .u8 0] rfl rfl (by rfl) rfl rfl Z.b20 hs ?_
  clear hs; intro g12 w12 hs
  refine Z.g237 ?_
  refine Z.g286 ?_
  clear hs; intro g2 w2 hs
  refine Z.g123 ?_
  clear hs; intro ws hs
  replace hs := Z.w0 hs
  replace hs := Z.w3 hs
  refine Z.g348 ?_
  refine Z.only [1, 2] rfl ?_
  refine Z.g30 ?_
  refine Z.l rfl rfl (by rfl) (Z.keepS hs) (Z.Yd.loadA _ rfl Tryz.isAgg26 (fun _ => Z.cellsB (cs := [.slice (some ⟨g10, 0, none⟩) 1 1, .int .i64 0, .int .i64 0, .int .i64 0, .int .i64 0, .bool false]) Z.b0) (by exact Tryz.sizeOf26)) ?_
  refine Z.g3 ?_
  refine Z.ZO.call rfl rfl (by rfl) rfl rfl Tryz.call11 rfl (mx_new_ok (some ⟨g10, 0, none⟩) 1 1 k29l 0 0 0 0 false _ (by have h0 := hs.blkSl (g := g10) Z.b0; exact h0) rfl Z.b13 Z.b13 k29s k29c) ?_
  rintro v3_1 w3_1 ⟨gm, gb, gr, C, kc, sv, so, rfl, hy⟩
  replace hs := Z.w1 (hs.call hy); clear hy
  simp only [List.append_assoc, List.cons_append, List.nil_append] at hs
  replace hs : SX.St w [] _ (maE gm gb gr C kc sv so k29m0 ++ (_ :: _)) := hs
  refine Z.g125 ?_
  refine Z.only [1, 2, 3, 4] rfl ?_
  refine Z.g269 ?_
  refine Z.g149 ?_
  rintro v4_1 w4_1 ⟨rfl, hy⟩
  replace hs := Z.w1 (hs.call hy); clear hy
  refine Z.g19 ?_
  refine Z.yes (s := 22) (b := false) rfl (Z.b22) rfl ?_
  refine Z.g93 ?_
  refine Z.yes (s := 22) (b := false) rfl rfl rfl ?_
  refine Z.g142 ?_
  refine Z.ZO.call rfl rfl (by rfl) rfl rfl Tryz.call25 rfl (pl29 gm gb gr C kc sv so k29m0 1 20 0 50 17 0 _ hs.lend k29o0 (Z.row_lentv hs (j := 0) rfl) e29_1) ?_
  rintro v4_5 w4_5 ⟨rfl, hz⟩
  replace hs : SX.St w [] _ (maE gm gb gr C kc sv so k29m1 ++ _) := hs.regain hz
  refine Z.g93 ?_
  refine Z.yes (s := 22) (b := false) rfl rfl rfl ?_
  refine Z.g216 ?_
  refine Z.yes (s := 27) (b := false) rfl (Z.b22) rfl ?_
  refine Z.g93 ?_
  refine Z.yes (s := 27) (b := false) rfl rfl rfl ?_
  refine Z.g142 ?_
  refine Z.ZO.call rfl rfl (by rfl) rfl rfl Tryz.call25 rfl (pl29 gm gb gr C kc sv so k29m1 1 2 0 50 0 0 _ hs.lend k29o1 (by rw [k29l1]; exact Z.row_lentv hs (j := 0) rfl) e29_2) ?_
  rintro v4_10 w4_10 ⟨rfl, hz⟩
  replace hs : SX.St w [] _ (maE gm gb gr C kc sv so k29m2 ++ _) := hs.regain hz
  refine Z.g93 ?_
  refine Z.yes (s := 27) (b := false) rfl rfl rfl ?_
  refine Z.g216 ?_
  refine Z.yes (s := 32) (b := false) rfl (Z.b22) rfl ?_
  refine Z.g93 ?_
  refine Z.yes (s := 32) (b := false) rfl rfl rfl ?_
  refine Z.g142 ?_
  refine Z.ZO.call rfl rfl (by rfl) rfl rfl Tryz.call25 rfl (pl29 gm gb gr C kc sv so k29m2 0 20 0 50 0 2 _ hs.lend k29o2 (by rw [k29l2]; exact Z.row_lentv hs (j := 0) rfl) e29_3) ?_
  rintro v4_15 w4_15 ⟨rfl, hz⟩
  replace hs : SX.St w [] _ (maE gm gb gr C kc sv so k29m3 ++ _) := hs.regain hz
  refine Z.g93 ?_
  refine Z.yes (s := 32) (b := false) rfl rfl rfl ?_
  refine Z.g14 ?_
  refine Z.g348 ?_
  refine Z.only [1, 2, 3, 36] rfl ?_
  refine Z.g347 ?_
  refine Z.cond rfl (fun h => absurd h Z.b22) (fun hc4 => ?_)
  refine Z.skip ?_
  refine Z.g124 ?_
  refine Z.g113 ?_
  refine Z.g3 ?_
  refine Z.g59 ?_
  clear hs; intro g39 w39 hs
  replace hs : SX.St w [] _ (maE gm gb gr C kc sv so k29m3 ++ (_ :: _)) := St.mid hs
  refine Z.g3 ?_
  refine Z.ZO.call rfl rfl (by rfl) rfl rfl Tryz.call19 rfl (bu29 gm gb gr C kc sv so k29m3 1 5 _ 0 (some ⟨g39, 0, none⟩) 1 1 [exS (some ⟨g12, 0, none⟩)] [(3, [1, 2])] _ hs.lend k29o3 (blk_lentm hs Z.b0) (ex_one (blk_lentm hs Z.b0)) (ex_one ex_b) rfl Z.b13 (ex_one ex_n) rfl (by decide +kernel)) ?_
  rintro v6_3 w6_3 ⟨rfl, hz⟩
  replace hs : SX.St w [] _ (maE gm gb gr C kc sv so k29m4 ++ _) := hs.regain hz
  refine Z.g19 ?_
  refine Z.yes (s := 42) (b := false) rfl (Z.b22) rfl ?_
  refine Z.g93 ?_
  refine Z.g113 ?_
  refine Z.yes (s := 42) (b := false) rfl rfl rfl ?_
  refine Z.g142 ?_
  refine Z.g59 ?_
  clear hs; intro g45 w45 hs
  replace hs : SX.St w [] _ (maE gm gb gr C kc sv so k29m4 ++ (_ :: _)) := St.mid hs
  refine Z.g142 ?_
  refine Z.ZO.call rfl rfl (by rfl) rfl rfl Tryz.call19 rfl (bu29 gm gb gr C kc sv so k29m4 1 2 _ 4 (some ⟨g45, 0, none⟩) 1 1 [exS (some ⟨g12, 0, none⟩)] [(3, [1, 2])] _ hs.lend k29o4 (blk_lentm hs Z.b0) (ex_one (blk_lentm hs Z.b0)) (ex_one ex_b) rfl Z.b13 (ex_one ex_n) rfl (by decide +kernel)) ?_
  rintro v6_9 w6_9 ⟨rfl, hz⟩
  replace hs : SX.St w [] _ (maE gm gb gr C kc sv so k29m5 ++ _) := hs.regain hz
  refine Z.g93 ?_
  refine Z.yes (s := 42) (b := false) rfl rfl rfl ?_
  refine Z.g216 ?_
  refine Z.yes (s := 49) (b := false) rfl (Z.b22) rfl ?_
  refine Z.g93 ?_
  refine Z.yes (s := 49) (b := false) rfl rfl rfl ?_
  refine Z.g142 ?_
  refine Z.ZO.call rfl rfl (by rfl) rfl rfl Tryz.call19 rfl (bu29 gm gb gr C kc sv so k29m5 1 5 _ 10 none 0 0 [] [] _ hs.lend k29o5 (fun h ↦ absurd h Z.b13) Z.b22 Z.b22 rfl Z.b13 Z.b22 rfl (by decide +kernel)) ?_
  rintro v6_14 w6_14 ⟨rfl, hz⟩
  replace hs : SX.St w [] _ (maE gm gb gr C kc sv so k29m6 ++ _) := hs.regain hz
  refine Z.g93 ?_
  refine Z.yes (s := 49) (b := false) rfl rfl rfl ?_
  refine Z.g216 ?_
  refine Z.yes (s := 54) (b := false) rfl (Z.b22) rfl ?_
  refine Z.g93 ?_
  refine Z.yes (s := 54) (b := false) rfl rfl rfl ?_
  refine Z.g142 ?_
  refine Z.ZO.litL (T' := 5) [(0, 1)] [.int .u8 0] rfl rfl (by rfl) rfl rfl Z.b20 hs ?_
  clear hs; intro g56 w56 hs
  refine Z.g237 ?_
  refine Z.yes (s := 54) (b := false) rfl rfl rfl ?_
  refine Z.g142 ?_
  refine Z.g59 ?_
  clear hs; intro g58 w58 hs
  replace hs : SX.St w [] _ (maE gm gb gr C kc sv so k29m6 ++ (_ :: _)) := St.mid2 hs
  refine Z.g142 ?_
  refine Z.ZO.call rfl rfl (by rfl) rfl rfl Tryz.call19 rfl (bu29 gm gb gr C kc sv so k29m6 1 5 _ 2 (some ⟨g58, 0, none⟩) 1 1 [ex4 (some ⟨g56, 0, none⟩)] [(4, [1])] _ hs.lend k29o6 (blk_lentm hs Z.b0) (ex_one4 (blk_lentm hs Z.b0)) (ex_one4 ex_b4) rfl Z.b13 (ex_one4 ex_n4) rfl (by decide +kernel)) ?_
  rintro v6_22 w6_22 ⟨rfl, hz⟩
  replace hs : SX.St w [] _ (maE gm gb gr C kc sv so k29m7 ++ _) := hs.regain hz
  refine Z.g93 ?_
  refine Z.yes (s := 54) (b := false) rfl rfl rfl ?_
  refine Z.g14 ?_
  refine Z.g348 ?_
  refine Z.only [1, 2, 3, 61] rfl ?_
  refine Z.g347 ?_
  refine Z.cond rfl (fun h => absurd h Z.b22) (fun hc6 => ?_)
  refine Z.g122 ?_
  refine Z.g32 ?_
  refine Z.ZO.litL (T' := 5) [(0, 1), (1, 1), (2, 1), (3, 1), (4, 1), (5, 1)] [.int .u8 0, .int .u8 0, .int .u8 0, .int .u8 0, .int .u8 0, .int .u8 0] rfl rfl (by rfl) rfl rfl Z.b20 hs ?_
  clear hs; intro g64 w64 hs
  refine Z.g3 ?_
  refine Z.ZO.convB rfl rfl (by rfl) hs rfl Tryz.underlying48 Tryz.underlying5 Z.b1 ?_
  clear hs; intro w65 hs hsl
  simp only [List.eraseIdx_cons_zero, List.eraseIdx_cons_succ] at hs
  refine Z.g3 ?_
  refine Z.ZO.call rfl rfl (by rfl) rfl rfl Tryz.call17 rfl (mx_receive gm gb k29m7 (some ⟨g64, 0, none⟩) 6 6 [63, 61, 3, 7, 1, 2] _ (en_of (gr := gr) (C := C) (kc := kc) (sv := sv) (so := so) hs (fun e he ↦ by simp [he])) k29o7 hsl rfl Z.b13 Z.b13) ?_
  rintro v8_3 w8_3 ⟨s0, s1, s2, s3, xs, qs, rfl, hxp, hxm, hy⟩
  replace hs := Z.w1 (hs.call hy); clear hy
  have hbd := rec_bd k29m7 [63, 61, 3, 7, 1, 2]
  have hxl := congrArg List.length hxp
  rw [List.length_map] at hxl
  replace hbd : xs.length ≤ 9223372036854775807 ∧ (recV k29m7 [63, 61, 3, 7, 1, 2]).2.rp.length ≤ 1000000 ∧ (recV k29m7 [63, 61, 3, 7, 1, 2]).2.pw.length ≤ 1000000 ∧ (recV k29m7 [63, 61, 3, 7, 1, 2]).2.id.length ≤ 1000000 := by omega
  rw [e29_8.1]
  obtain ⟨B0, d0, rfl, -, -, -⟩ := SX.row_slv hs (j := 0) rfl
  obtain ⟨B1, d1, rfl, -, -, -⟩ := SX.row_slv hs (j := 1) rfl
  obtain ⟨B2, d2, rfl, -, -, -⟩ := SX.row_slv hs (j := 2) rfl
  obtain ⟨B3, d3, rfl, -, -, -⟩ := SX.row_slv hs (j := 3) rfl
  refine Z.g310 ?_
  refine Z.g227 ?_
  clear hs; intro g5 w5 hs
  refine Z.g123 ?_
  clear hs; intro ws hs
  replace hs := Z.w0 hs
  replace hs := Z.w3 hs
  refine Z.g1 ?_
  refine Z.only [1, 2, 5, 6] rfl ?_
  refine Z.g269 ?_
  refine Z.g149 ?_
  rintro v9_1 w9_1 ⟨rfl, hy⟩
  replace hs := Z.w1 (hs.call hy); clear hy
  refine Z.g19 ?_
  refine Z.yes (s := 72) (b := false) rfl (Z.b22) rfl ?_
  refine Z.l rfl rfl (by rfl) (Z.keepS hs) (Z.Yd.loadA _ rfl Tryz.isAgg61 (fun _ => Z.cellsB (cs := [.slice B0 _ d0, .slice B1 _ d1, .slice B2 _ d2, .slice B3 _ d3]) Z.b0) (by exact Tryz.sizeOf61)) ?_
  refine Z.g113 ?_
  refine Z.yes (s := 72) (b := false) rfl rfl rfl ?_
  refine Z.g142 ?_
  refine Z.g59 ?_
  clear hs; intro g75 w75 hs
  refine Z.l rfl rfl (by rfl) (Z.keepS hs) (Z.Yd.buildL [(0, 1), (1, 1), (2, 1), (3, 1)] [.int .i64 0, .int .i64 0, .int .i64 0, .int .i64 0] rfl rfl Z.b17) ?_
  refine Z.g171 ?_
  refine Z.yes (s := 72) (b := false) rfl rfl rfl ?_
  refine Z.g142 ?_
  refine Z.g131 ?_
  clear hs; intro g78 w78 hs
  refine Z.g110 ?_
  have hct := rec_ctq (s0 := .slice B0 xs.length d0) (s1 := .slice B1 (recV k29m7 [63, 61, 3, 7, 1, 2]).2.rp.length d1) (s2 := .slice B2 (recV k29m7 [63, 61, 3, 7, 1, 2]).2.pw.length d2) (s3 := .slice B3 (recV k29m7 [63, 61, 3, 7, 1, 2]).2.id.length d3) Z.b13 hs hxp hxm (fun e he ↦ by simp only [List.cons_append, List.nil_append, List.mem_cons] at he; rcases he with h | h | h | h | h <;> simp [h])
  refine Z.yes (s := 72) (b := false) rfl rfl rfl ?_
  refine Z.g142 ?_
  refine Z.ZO.call rfl rfl (by rfl) rfl rfl Tryz.call20 rfl (ct_same _ [.slice (some ⟨g75, 0, none⟩) 1 1, .slice (some ⟨g78, 0, none⟩) 1 1, .slice none 0 0, .slice none 0 0] xs [exS (some ⟨g12, 0, none⟩)] _ ⟨[(3, [1, 2])], [⟨false, 0, 7, 0, 0, 0⟩], [], []⟩ _ hct ⟨_, _, _, _, _, _, _, _, rfl, rfl, by have h0 := hs.blkSl (g := g75) Z.b0; exact h0, by have h0 := hs.blkSl (g := g78) Z.b0; exact h0, sl_nil23, sl_nil23, ex_one (by have h0 := hs.blkSl (g := g12) Z.b0; exact h0), ex_one ex_b⟩ hbd) ?_
  rintro v9_11 w9_11 ⟨rfl, hy⟩
  replace hs := Z.w1 (hs.call hy); clear hy
  rw [decide_eq_true e29_8.2]
  refine Z.g93 ?_
  refine Z.yes (s := 72) (b := false) rfl rfl rfl ?_
  refine Z.g14 ?_
  refine Z.g348 ?_
  refine Z.only [1, 2, 82] rfl ?_
  refine Z.g347 ?_
  refine Z.cond rfl (fun h => absurd h Z.b22) (fun hc9 => ?_)
  refine Z.g122 ?_
  replace hs := ((hs.tl.tl.tl.tl.tl.tl.tl).sub (List.sublist_append_right _ _)).sub (List.sublist_append_right _ _)
  refine Z.g143 ?_
  refine Z.g3 ?_
  refine Z.g79 ?_
  clear hs; intro ws hs
  replace hs := Z.w0 hs
  refine Z.g348 ?_
  refine Z.only [1, 2] rfl ?_
  refine Z.g30 ?_
  refine Z.l rfl rfl (by rfl) (Z.keepS hs) (Z.Yd.loadA _ rfl Tryz.isAgg26 (fun _ => Z.cellsB (cs := [.slice (some ⟨g10, 0, none⟩) 1 1, .int .i64 0, .int .i64 0, .int .i64 0, .int .i64 0, .bool true]) Z.b0) (by exact Tryz.sizeOf26)) ?_
  refine Z.g3 ?_
  refine Z.ZO.call rfl rfl (by rfl) rfl rfl Tryz.call11 rfl (mx_new_ok (some ⟨g10, 0, none⟩) 1 1 k29l 0 0 0 0 true _ (by have h0 := hs.blkSl (g := g10) Z.b0; exact h0) rfl Z.b13 Z.b13 k29s k29c) ?_
  rintro v12_1 w12_1 ⟨gn, gc, gs, C2, kc2, sv2, so2, rfl, hy⟩
  replace hs := Z.w1 (hs.call hy); clear hy
  simp only [List.append_assoc, List.cons_append, List.nil_append] at hs
  replace hs : SX.St w [] _ (maE gn gc gs C2 kc2 sv2 so2 k29u0 ++ (_ :: _)) := hs
  refine Z.g125 ?_
  refine Z.only [2, 7, 8] rfl ?_
  refine Z.g301 ?_
  refine Z.g149 ?_
  rintro v13_1 w13_1 ⟨rfl, hy⟩
  replace hs := Z.w1 (hs.call hy); clear hy
  refine Z.g19 ?_
  refine Z.yes (s := 92) (b := true) rfl (Z.b22) rfl ?_
  refine Z.g93 ?_
  refine Z.yes (s := 92) (b := true) rfl rfl rfl ?_
  refine Z.g142 ?_
  refine Z.ZO.call rfl rfl (by rfl) rfl rfl Tryz.call25 rfl (pl29 gn gc gs C2 kc2 sv2 so2 k29u0 1 20 5 50 13 0 _ hs.lend k29p0 (Z.row_lentv hs (j := 0) rfl) e29_9) ?_
  rintro v13_5 w13_5 ⟨rfl, hz⟩
  replace hs : SX.St w [] _ (maE gn gc gs C2 kc2 sv2 so2 k29u1 ++ _) := hs.regain hz
  refine Z.g275 ?_
  refine Z.yes (s := 96) (b := true) rfl (Z.b22) rfl ?_
  refine Z.g93 ?_
  refine Z.g113 ?_
  refine Z.yes (s := 96) (b := true) rfl rfl rfl ?_
  refine Z.g142 ?_
  refine Z.g59 ?_
  clear hs; intro g99 w99 hs
  replace hs : SX.St w [] _ (maE gn gc gs C2 kc2 sv2 so2 k29u1 ++ (_ :: _)) := St.mid hs
  refine Z.g142 ?_
  refine Z.ZO.call rfl rfl (by rfl) rfl rfl Tryz.call19 rfl (bu29 gn gc gs C2 kc2 sv2 so2 k29u1 1 8 _ 0 (some ⟨g99, 0, none⟩) 1 1 [exS (some ⟨g12, 0, none⟩)] [(3, [1, 2])] _ hs.lend k29p1 (blk_lentm hs Z.b0) (ex_one (blk_lentm hs Z.b0)) (ex_one ex_b) rfl Z.b13 (ex_one ex_n) rfl (by decide +kernel)) ?_
  rintro v13_11 w13_11 ⟨rfl, hz⟩
  replace hs := hs.regain hz
  refine Z.g16 ?_
  refine Z.g1 ?_
  refine Z.g103 ?_
  refine Z.g6 ?_
  refine Z.g52 ?_
  exact ⟨_, rfl, by simp, hs.sub (List.nil_sublist _)⟩
end Go.Proofs.YtbojkoiopkaciaaGreat

/- The MAC entity: calls, entities that New did not make. -/
namespace Go.Proofs.YtbojkoiopkaciaaGreat
open Go.RowKit
set_option linter.unusedSimpArgs false
set_option linter.unusedVariables false
--newlaws

structure Ac9 where
  what : Int
  now : Int
  n : Int
  head : Int
  D : Option Addr
  dc : Nat
  dem : List Int
  P : Option Addr
  pc : Nat
  ps : List MpV
  B : Option Addr
  bc : Nat
  bl : List Int
def Ac9.cells (x : Ac9) : List Value := [.int .i64 x.what, .int .i64 x.now, .int .i64 x.n, .int .i64 x.head, .slice x.D x.dem.length x.dc, .slice x.P x.ps.length x.pc, .slice x.B x.bl.length x.bc]
structure Ac9.good (W : World) (x : Ac9) : Prop where
  d : Sl W x.D (ints .i64 x.dem)
  p : Sl W x.P (x.ps.flatMap MpV.cells)
  q : ∀ q ∈ x.ps, Sl W q.B (ints .u8 q.l)
  y : ∀ q ∈ x.ps, ∀ z ∈ q.l, 0 ≤ z ∧ z < 256
  b : Sl W x.B (ints .u8 x.bl)
  z : ∀ z ∈ x.bl, 0 ≤ z ∧ z < 256
  m : x.ps.length ≤ maxLen
theorem Ac9.good.st {w W : World} {L : List SX.Ent} {x : Ac9} (h : x.good w) (hW : SX.St w [] W L) : x.good W := ⟨h.d.st hW, h.p.st hW, fun q hq => (h.q q hq).st hW, h.y, h.b.st hW, h.z, h.m⟩
def few1 (x : Ac9) : Prop := x.dem.length ≤ 10 ∧ x.ps.length ≤ 6 ∧ x.bl.length ≤ 600 ∧ ∀ q ∈ x.ps, q.l.length ≤ 300
instance (x : Ac9) : Decidable (few1 x) := by unfold few1; infer_instance
def few9 (l : List Ac9) (most : Int) : Prop := (l.length : Int) ≤ most ∧ ∀ x ∈ l, few1 x
instance (l : List Ac9) (most : Int) : Decidable (few9 l most) := by unfold few9; infer_instance
def NoE (w : World) (a : Option Addr) : Prop := a = none ∨ ∃ g ch rv lv, a = some ⟨g, 0, none⟩ ∧ Cel w g [.pointer none, ch, rv, lv]
theorem NoE.st {w W : World} {L : List SX.Ent} {a : Option Addr} (h : NoE w a) (hW : SX.St w [] W L) : NoE W a := by
  rcases h with h | ⟨g, ch, rv, lv, h, hc⟩
  · exact .inl h
  exact .inr ⟨g, ch, rv, lv, h, hc.st hW⟩
end Go.Proofs.YtbojkoiopkaciaaGreat

/- Buckets: any sequence of calls. -/
namespace Go.Proofs.YtbojkoiopkaciaaGreat
open Go.RowKit
set_option linter.unusedSimpArgs false
set_option linter.unusedVariables false
--newlaws

def runB (m : BkV) (l : List AcV) : BkV := l.foldl actBk m
theorem BkV.ok.run {m : BkV} (h : m.ok) (l : List AcV) : (runB m l).ok := by
  unfold runB
  induction l generalizing m with
  | nil => exact h
  | cons x l ih => exact ih (h.act x)
theorem rd_logical {W : World} {cs : List Value} (z : Rd Tryz.prog W 75 cs) : ∃ x : LgV, cs = x.cells ∧ True := by
  obtain ⟨hl, hf⟩ := Rd.field Tryz.underlying75 z
  have c5 : Tryz.prog.cellsOf 75 = 5 := by kernel_rfl
  have c1 : Tryz.prog.cellsOf 3 = 1 := by kernel_rfl
  rw [c5] at hl
  obtain ⟨x0, x1, x2, x3, x4, rfl⟩ := list5 hl
  obtain ⟨a, ha, -⟩ := Rd.int Tryz.underlying3 (hf 0 _ rfl)
  obtain ⟨b, hb, -⟩ := Rd.int Tryz.underlying3 (hf 1 _ rfl)
  obtain ⟨p, hp, -⟩ := Rd.int Tryz.underlying3 (hf 2 _ rfl)
  obtain ⟨q, hq, -⟩ := Rd.int Tryz.underlying3 (hf 3 _ rfl)
  obtain ⟨r, hr, -⟩ := Rd.int Tryz.underlying3 (hf 4 _ rfl)
  simp [c1] at ha hb hp hq hr
  subst ha hb hp hq hr
  exact ⟨⟨a, b, p, q, r⟩, rfl, trivial⟩
theorem rd_logicals {W : World} {A : Option Addr} {n c : Nat} (z : Rd Tryz.prog W 22 [.slice A n c]) : ∃ l : List LgV, l.length = n ∧ n ≤ c ∧ c ≤ maxLen ∧ Sl W A (l.flatMap LgV.cells) := by
  have c8 : Tryz.prog.cellsOf 75 = 5 := by kernel_rfl
  obtain ⟨xs, h1, h2, h3, -, h5⟩ := Rd.rows LgV.cells (fun _ => True) Tryz.underlying22 (by rw [c8]; decide) (fun r hr => rd_logical hr) (fun x => c8.symm) z
  exact ⟨xs, h1, h2, h3, h5⟩
end Go.Proofs.YtbojkoiopkaciaaGreat

/- The MAC entity: nil entities; readers of the arguments. -/
namespace Go.Proofs.YtbojkoiopkaciaaGreat
open Go.RowKit
set_option linter.unusedSimpArgs false
set_option linter.unusedVariables false
--newlaws

theorem sl_of1 {W : World} {T e : TypeId} {x : Value} (ht : Tryz.prog.underlying T = some (.slice e)) (z : Rd Tryz.prog W T [x]) : ∃ A n c, x = .slice A n c := by
  rcases Rd.slice ht z with h1 | ⟨a, len, cap, rows, h1, -⟩
  · exact ⟨none, 0, 0, by simpa using h1⟩
  exact ⟨some a, len, cap, by simpa using h1⟩
end Go.Proofs.YtbojkoiopkaciaaGreat

/- The MAC entity: the iterator over the channels. -/
namespace Go.Proofs.YtbojkoiopkaciaaGreat
open Go.RowKit
set_option linter.unusedSimpArgs false
set_option linter.unusedVariables false
--newlaws

def okN9 (ls : List LgV) (a b c d : Int) : Prop := okSet ls ∧ okC a b c d
instance (ls : List LgV) (a b c d : Int) : Decidable (okN9 ls a b c d) := by unfold okN9; infer_instance
theorem rd_cfg29 {W : World} {cs : List Value} (z : Rd Tryz.prog W 26 cs) : ∃ (A : Option Addr) (n k : Nat) (a b c d : Int) (up : Bool) (ls : List LgV), cs = [.slice A n k, .int .i64 a, .int .i64 b, .int .i64 c, .int .i64 d, .bool up] ∧ ls.length = n ∧ n ≤ k ∧ k ≤ maxLen ∧ Sl W A (ls.flatMap LgV.cells) := by
  obtain ⟨hl, hf⟩ := Rd.field Tryz.underlying26 z
  have c6 : Tryz.prog.cellsOf 26 = 6 := by kernel_rfl
  have c1 : Tryz.prog.cellsOf 3 = 1 := by kernel_rfl
  have cb : Tryz.prog.cellsOf 4 = 1 := by kernel_rfl
  have c2 : Tryz.prog.cellsOf 22 = 1 := by kernel_rfl
  have c4 : Tryz.prog.cellsOf 24 = 4 := by kernel_rfl
  rw [c6] at hl
  obtain ⟨x0, x1, x2, x3, x4, x5, rfl⟩ := list6 hl
  have h0 : Rd Tryz.prog W 22 (([x0, x1, x2, x3, x4, x5].drop 0).take (Tryz.prog.cellsOf 22)) := hf 0 _ rfl
  have h1 : Rd Tryz.prog W 24 (([x0, x1, x2, x3, x4, x5].drop 1).take (Tryz.prog.cellsOf 24)) := hf 1 _ rfl
  obtain ⟨up, hu⟩ := Rd.bool Tryz.underlying4 (hf 2 _ rfl)
  rw [c2] at h0
  rw [c4] at h1
  have h0' : Rd Tryz.prog W 22 [x0] := by simpa using h0
  have h1' : Rd Tryz.prog W 24 [x1, x2, x3, x4] := by simpa using h1
  obtain ⟨A, n, k, rfl⟩ := sl_of1 Tryz.underlying22 h0'
  obtain ⟨ls, l1, l2, l3, l4⟩ := rd_logicals h0'
  obtain ⟨hl2, hf2⟩ := Rd.field Tryz.underlying24 h1'
  obtain ⟨a, ha, -⟩ := Rd.int Tryz.underlying3 (hf2 0 _ rfl)
  obtain ⟨b, hb, -⟩ := Rd.int Tryz.underlying3 (hf2 1 _ rfl)
  obtain ⟨c, hc, -⟩ := Rd.int Tryz.underlying3 (hf2 2 _ rfl)
  obtain ⟨d, hd, -⟩ := Rd.int Tryz.underlying3 (hf2 3 _ rfl)
  simp [c1] at ha hb hc hd
  simp [cb] at hu
  subst ha hb hc hd hu
  exact ⟨A, n, k, a, b, c, d, up, ls, rfl, l1, l2, l3, l4⟩
end Go.Proofs.YtbojkoiopkaciaaGreat

/- The document's entity: New, Receive. -/
namespace Go.Proofs.YtbojkoiopkaciaaGreat
open Go.RowKit
set_option linter.unusedSimpArgs false
set_option linter.unusedVariables false
--newlaws

def meC (A : Option Addr) (c : Nat) (B : Option Addr) (d : Nat) (m : MaV) : List Value := [.slice A m.b.l.length c, .slice B m.b.l.length d, .int .i64 m.b.now, .bool m.up, .int .i64 m.r.c0, .int .i64 m.r.c1, .int .i64 m.r.c2, .int .i64 m.r.c3, .int .i64 m.r.now, .int .i64 m.r.b0, .int .i64 m.r.b1, .int .i64 m.r.b2, .int .i64 m.r.b3, .int .i64 m.r.head, .bool m.r.reg, .bool m.r.per, .bool m.r.pow, .bool m.r.fst, .int .i64 m.r.last, .int .i64 m.r.lastP, .int .i64 m.r.told, .int .i64 m.last]
def zeroE : List Value := [.slice none 0 0, .slice none 0 0, .int .i64 0, .bool false, .int .i64 0, .int .i64 0, .int .i64 0, .int .i64 0, .int .i64 0, .int .i64 0, .int .i64 0, .int .i64 0, .int .i64 0, .int .i64 0, .bool false, .bool false, .bool false, .bool false, .int .i64 0, .int .i64 0, .int .i64 0, .int .i64 0]
theorem rv_newA (A : Option Addr) (n c : Nat) (l : List LgV) (w : World) (hx : Sl w A (l.flatMap LgV.cells)) (hl : l.length = n) :
    Calls Tryz.prog 32 #[.slice A n c] w (SX.Ret fun v w' => ∃ Ra Rb k ca cb e Ln, v = .tuple #[.agg #[.slice Ra k ca, .slice Rb k cb, .int .i64 0], .int .i64 e] ∧ e = (if okSet l then 0 else 2) ∧ SX.St w [] w' Ln ∧ (okSet l → k = n ∧ Ln = [SX.Ent.row (.slice Ra n ca) 75 5 n (l.flatMap LgV.cells), SX.Ent.row (.slice Rb n cb) 3 1 n (ints .i64 (newB l).b)])) := by
  refine (rv_new A n c l w hx hl).mono ?_
  rintro e w' ⟨v, h1, h2⟩
  refine ⟨v, h1, ?_⟩
  by_cases h : okSet l
  · rw [if_pos h] at h2
    obtain ⟨Ra, Rb, ca, cb, rfl, h3⟩ := h2
    exact ⟨Ra, Rb, n, ca, cb, 0, _, rfl, by rw [if_pos h], h3, fun _ => ⟨rfl, rfl⟩⟩
  rw [if_neg h] at h2
  obtain ⟨rfl, h3⟩ := h2
  exact ⟨none, none, 0, 0, 0, 2, _, rfl, by rw [if_neg h], h3, fun k => absurd k h⟩
set_option maxHeartbeats 4000000 in
set_option maxRecDepth 100000 in
theorem rx_new (A : Option Addr) (n k : Nat) (ls : List LgV) (a b c d : Int) (up : Bool) (w : World) (hx : Sl w A (ls.flatMap LgV.cells)) (hl : ls.length = n) :
    Calls Tryz.prog 12 #[cfgV A n k a b c d up] w (SX.Ret fun v w' => ∃ cs e Ln, v = .tuple #[.agg cs, .int .i64 e] ∧ e = (if okN9 ls a b c d then 0 else 2) ∧ SX.St w [] w' Ln ∧ (okN9 ls a b c d → ∃ Ra ca Rb cb, cs = (meC Ra ca Rb cb (newM ls a b c d up)).toArray ∧ Ln = [SX.Ent.row (.slice Ra n ca) 75 5 n (ls.flatMap LgV.cells), SX.Ent.row (.slice Rb n cb) 3 1 n (ints .i64 (newB ls).b)]) ∧ (¬ okN9 ls a b c d → cs = (zeroE).toArray)) := by
  have hs := SX.St.start w
  unfold cfgV
  refine Z.enter Tryz.func12 rfl Tryz.ntmps12 rfl rfl ?_
  refine Z.g121 ?_
  clear hs; intro g1 w1 hs
  refine Z.g3 ?_
  refine Z.ZO.alloc rfl rfl (by rfl) Tryz.zeroValue41 rfl hs ?_
  clear hs; intro g2 w2 hs
  refine Z.g295 ?_
  refine Z.g2 ?_
  refine Z.g138 ?_
  refine Z.g3 ?_
  refine Z.ZO.call rfl rfl (by rfl) rfl rfl Tryz.call32 rfl (rv_newA A n k ls _ (hx.st (hs.sub (List.nil_sublist _))) hl) ?_
  rintro v1_2 w1_2 ⟨Ra, Rb, kk, ca, cb, e1, Ln, rfl, he1, hy, hok1⟩
  replace hs := Z.w1 (hs.call hy); clear hy
  replace hs := SX.St.rot (L1 := Ln) hs
  obtain ⟨rr, hrr⟩ : ∃ rr, (if okC a b c d then newR a b c d else zeroR) = rr := ⟨_, rfl⟩
  refine Z.g310 ?_
  refine Z.ZO.alloc rfl rfl (by rfl) Tryz.zeroValue36 rfl hs ?_
  clear hs; intro g4 w4 hs
  refine Z.g123 ?_
  clear hs; intro ws hs
  replace hs := Z.w0 hs
  replace hs := Z.w3 hs
  refine Z.g1 ?_
  refine Z.only [1, 2, 4, 5] rfl ?_
  refine Z.g30 ?_
  refine Z.g8 ?_
  refine Z.l rfl rfl (by rfl) (Z.keepS hs) (Z.Yd.loadA _ rfl Tryz.isAgg24 (fun _ => Z.cellsBo (cs := [.slice A n k, .int .i64 a, .int .i64 b, .int .i64 c, .int .i64 d, .bool up]) [.int .i64 a, .int .i64 b, .int .i64 c, .int .i64 d] Z.b0 ⟨[.bool up], rfl⟩) (by exact Tryz.sizeOf24)) ?_
  refine Z.g3 ?_
  refine Z.ZO.call rfl rfl (by rfl) rfl rfl Tryz.call33 rfl (rpr_new a b c d _) ?_
  rintro v2_2 w2_2 ⟨rfl, hy⟩
  replace hs := Z.w1 (hs.call hy); clear hy
  rw [hrr]
  obtain ⟨e2, he2⟩ : ∃ e2 : Int, (if okC a b c d then 0 else 2) = e2 := ⟨_, rfl⟩
  rw [he2]
  refine Z.g310 ?_
  refine Z.ZO.alloc rfl rfl (by rfl) Tryz.zeroValue39 rfl hs ?_
  clear hs; intro g6 w6 hs
  simp only [RpV.ref]
  refine Z.g123 ?_
  clear hs; intro ws hs
  replace hs := Z.w0 hs
  replace hs := Z.w3 hs
  refine Z.g1 ?_
  refine Z.only [1, 2, 4, 5, 6, 7] rfl ?_
  refine Z.g60 ?_
  refine Z.lb 6 rfl ?_
  refine Z.g348 ?_
  refine Z.only [1, 2, 4, 6, 25] rfl ?_
  refine Z.g347 ?_
  refine Z.cond rfl (fun hc3 => ?_) (fun hc3 => ?_)
  · (try simp at hc3)
    refine Z.g0 ?_
    refine Z.l rfl rfl (by rfl) (Z.keepS hs) (Z.Yd.buildL [(0, 3), (3, 1), (4, 17), (21, 1)] [.slice none 0 0, .slice none 0 0, .int .i64 0, .bool false, .int .i64 0, .int .i64 0, .int .i64 0, .int .i64 0, .int .i64 0, .int .i64 0, .int .i64 0, .int .i64 0, .int .i64 0, .int .i64 0, .bool false, .bool false, .bool false, .bool false, .int .i64 0, .int .i64 0, .int .i64 0, .int .i64 0] rfl rfl Z.b17) ?_
    refine Z.g123 ?_
    clear hs; intro ws hs
    replace hs := Z.w0 hs
    replace hs := Z.w3 hs
    refine Z.g271 ?_
    repeat (first | refine Z.rthen ?_ | refine Z.rblock ?_ | refine Z.rscope ?_)
    refine Z.out2 (by exact ⟨⟨_, rfl, Z.rvcA hs Tryz.isAgg41 Z.b0 (by exact Tryz.sizeOf41)⟩, rfl, trivial⟩) ?_
    have hno : ¬ okN9 ls a b c d := fun h => by
      rw [if_pos h.1] at he1
      rw [if_pos h.2] at he2
      omega
    exact ⟨_, rfl, _, 2, [], rfl, by rw [if_neg hno], hs.sub (List.nil_sublist _), fun h => absurd h hno, fun _ => rfl⟩
  (try simp at hc3)
  refine Z.g122 ?_
  refine Z.l rfl rfl (by rfl) (Z.keepS hs) (by exact Z.Yd.loadA _ rfl Tryz.isAgg36 (fun _ => Z.cellsB Z.b0) (by exact Tryz.sizeOf36)) ?_
  refine Z.g143 ?_
  refine Z.l rfl rfl (by rfl) (Z.keepS hs) Z.b51 ?_
  refine Z.l rfl rfl (by rfl) (Z.keepS hs) (by exact Z.Yd.loadA _ rfl Tryz.isAgg39 (fun _ => Z.cellsB Z.b0) (by exact Tryz.sizeOf39)) ?_
  refine Z.l rfl rfl (by rfl) (Z.keepS hs) (Z.Yd.buildL [(0, 3), (3, 1), (4, 17), (21, 1)] [.slice none 0 0, .slice none 0 0, .int .i64 0, .bool false, .int .i64 0, .int .i64 0, .int .i64 0, .int .i64 0, .int .i64 0, .int .i64 0, .int .i64 0, .int .i64 0, .int .i64 0, .int .i64 0, .bool false, .bool false, .bool false, .bool false, .int .i64 0, .int .i64 0, .int .i64 0, .int .i64 0] rfl rfl Z.b17) ?_
  refine Z.g123 ?_
  clear hs; intro ws hs
  replace hs := Z.w0 hs
  replace hs := Z.w3 hs
  refine Z.g271 ?_
  refine Z.out2 (by exact ⟨⟨_, rfl, Z.rvcA hs Tryz.isAgg41 Z.b0 (by exact Tryz.sizeOf41)⟩, rfl, trivial⟩) ?_
  have hok : okN9 ls a b c d := by
    by_cases h1 : okSet ls
    · by_cases h2 : okC a b c d
      · exact ⟨h1, h2⟩
      rw [if_neg h2] at he2; omega
    rw [if_neg h1] at he1; omega
  obtain ⟨rfl, hLn⟩ := hok1 hok.1
  rw [if_pos hok.2] at hrr
  subst hrr
  exact ⟨_, rfl, _, 0, Ln, rfl, by rw [if_pos hok], hs.sub (by repeat (first | exact List.Sublist.refl _ | refine List.Sublist.cons _ ?_)), fun _ => ⟨Ra, ca, Rb, cb, by rw [← hl]; rfl, hLn⟩, fun h => absurd hok h⟩
set_option maxHeartbeats 4000000 in
set_option maxRecDepth 100000 in
theorem rx_known (A : Option Addr) (c : Nat) (B : Option Addr) (d : Nat) (m : MaV) (id : Int) (w : World) (hA : Sl w A (m.b.l.flatMap LgV.cells)) (hB : Sl w B (ints .i64 m.b.b)) (hm : m.ok) :
    Calls Tryz.prog 62 #[.agg (meC A c B d m).toArray, .int .i64 id] w (SX.Ret fun v w' => v = .bool (knowB m id) ∧ SX.St w [] w' []) := by
  have hs := SX.St.start w
  unfold meC
  refine Z.enter Tryz.func62 rfl Tryz.ntmps62 rfl rfl ?_
  refine Z.g121 ?_
  clear hs; intro g2 w2 hs
  refine Z.g295 ?_
  refine Z.g2 ?_
  refine Z.l rfl rfl (by rfl) (Z.keepS hs) (Z.Yd.loadA _ rfl Tryz.isAgg36 (fun _ => Z.cellsBo (cs := [.slice A m.b.l.length c, .slice B m.b.l.length d, .int .i64 m.b.now, .bool m.up, .int .i64 m.r.c0, .int .i64 m.r.c1, .int .i64 m.r.c2, .int .i64 m.r.c3, .int .i64 m.r.now, .int .i64 m.r.b0, .int .i64 m.r.b1, .int .i64 m.r.b2, .int .i64 m.r.b3, .int .i64 m.r.head, .bool m.r.reg, .bool m.r.per, .bool m.r.pow, .bool m.r.fst, .int .i64 m.r.last, .int .i64 m.r.lastP, .int .i64 m.r.told, .int .i64 m.last]) [.slice A m.b.l.length c, .slice B m.b.l.length d, .int .i64 m.b.now] Z.b0 ⟨_, rfl⟩) (by exact Tryz.sizeOf36)) ?_
  refine Z.g32 ?_
  refine Z.ZO.call rfl rfl (by rfl) rfl rfl Tryz.call118 rfl (rv_level A B c d m.b id _ (hA.st (hs.sub (List.nil_sublist _))) (hB.st (hs.sub (List.nil_sublist _))) hm.b) ?_
  rintro v1_3 w1_3 ⟨rfl, hy⟩
  replace hs := Z.w1 (hs.call hy); clear hy
  refine Z.g125 ?_
  refine Z.only [6] rfl ?_
  refine Z.g30 ?_
  refine Z.g128 ?_
  refine Z.g52 ?_
  exact ⟨_, rfl, rfl, hs.sub (List.nil_sublist _)⟩
theorem recS_pw {m : MaV} {x : CtV} {p : Prt} (h : p.1 = 26) : recS m x p = (powE p.1 p.2, { x with pw := x.pw ++ [powV p.1 p.2] }) := by unfold recS; rw [if_pos h, h]
theorem recS_id {m : MaV} {x : CtV} {p : Prt} (h : p.1 = 27 ∨ p.1 = 28) : recS m x p = (idE p.1 p.2, { x with id := x.id ++ [idV p.1 p.2] }) := by unfold recS; rw [if_neg Z.b10, if_pos h]
theorem recS_rp {m : MaV} {x : CtV} {p : Prt} (h : p.1 = 29 ∨ p.1 = 30) : recS m x p = (repE p.1 p.2, { x with rp := x.rp ++ [repV p.1 p.2] }) := by unfold recS; rw [if_neg Z.b10, if_neg Z.b10, if_pos h]
theorem id_good {p : Prt} (h : parG p) (h2 : p.1 = 27 ∨ p.1 = 28) : idE p.1 p.2 = 0 := by
  have hc : ctlN p.1 ≠ 0 := by unfold ctlN; rcases h2 with e | e <;> rw [e] <;> decide
  have hl := h.2 hc
  unfold idE
  rw [if_pos (show isId p.1 from h2)]
  unfold opE wid
  unfold ctlN at hl
  rw [if_neg Z.b22]
  rcases h2 with e | e <;> rw [e] at hl ⊢ <;> simp at hl ⊢ <;> omega
theorem rep_good {p : Prt} (h : parG p) (h2 : p.1 = 29 ∨ p.1 = 30) : repE p.1 p.2 = 0 := by
  have hc : ctlN p.1 ≠ 0 := by unfold ctlN; rcases h2 with e | e <;> rw [e] <;> decide
  have hl := h.2 hc
  unfold repE opE
  unfold ctlN at hl
  rcases h2 with e | e <;> rw [e] at hl ⊢ <;> simp at hl ⊢ <;> omega
def RdR (R : Int × CtV) (A : Option Addr) (l : List Int) (w : World) (v : Value) (w' : World) : Prop := ∃ (s0 s1 s2 s3 : Value) (xs : List MpV), v = .tuple #[.agg #[s0, s1, s2, s3], .int .i64 R.1] ∧ xs.map MpV.plain = R.2.sd ∧ (∀ q ∈ xs, ∀ W, Sl W A (ints .u8 l) → Sl W q.B (ints .u8 q.l)) ∧ SX.St w [] w' [SX.Ent.row s0 77 2 xs.length (xs.flatMap MpV.cells), SX.Ent.row s1 86 6 R.2.rp.length (R.2.rp.flatMap RepV.cells), SX.Ent.row s2 3 1 R.2.pw.length (ints .i64 R.2.pw), SX.Ent.row s3 123 1 R.2.id.length (ints .u64 R.2.id)]
theorem RdR.fail {e : Int} {A : Option Addr} {l : List Int} {w w' : World} (hs : SX.St w [] w' []) : RdR (e, CtV.nil) A l w (.tuple #[.agg #[.slice none 0 0, .slice none 0 0, .slice none 0 0, .slice none 0 0], .int .i64 e]) w' := ⟨_, _, _, _, [], rfl, rfl, by simp, (((hs.nil _ 1).nil _ 1).nil _ 6).nil _ 2⟩
set_option maxHeartbeats 4000000 in
set_option maxRecDepth 100000 in
theorem rx_receive (A0 : Option Addr) (c : Nat) (B : Option Addr) (d : Nat) (m : MaV) (Ab : Option Addr) (n cb : Nat) (l : List Int) (w : World) (hA : Sl w A0 (m.b.l.flatMap LgV.cells)) (hB : Sl w B (ints .i64 m.b.b)) (hm : m.ok) (hx : Sl w Ab (ints .u8 l)) (hl : l.length = n) (hn : n ≤ 100000) (hnc : n ≤ cb) (hb : ∀ x ∈ l, 0 ≤ x ∧ x < 256) :
    Calls Tryz.prog 22 #[.agg (meC A0 c B d m).toArray, .slice Ab n cb] w (SX.Ret fun v w' => RdR (recV m l) Ab l w v w') := by
  have hs := SX.St.start w
  subst hl
  obtain ⟨R, hR⟩ : ∃ R, recV m l = R := ⟨_, rfl⟩
  rw [hR]
  have hcnt := par_cnt l
  have hgood := par_good hb
  have hmem := par_mem l
  have hlen := par_len l
  unfold recV at hR
  have hk := fun id W hW => rx_known A0 c B d m id W (hA.st (L := []) hW) (hB.st (L := []) hW) hm
  unfold meC at hk ⊢
  refine Z.enter Tryz.func22 rfl Tryz.ntmps22 rfl rfl ?_
  refine Z.g121 ?_
  clear hs; intro g2 w2 hs
  refine Z.g3 ?_
  refine Z.g227 ?_
  clear hs; intro g4 w4 hs
  refine Z.g1 ?_
  refine Z.only [1, 2, 4] rfl ?_
  refine Z.g301 ?_
  refine Z.ZO.call rfl rfl (by rfl) rfl rfl Tryz.call58 rfl (mr_Parse Ab cb l _ (hx.st (hs.sub (List.nil_sublist _))) hnc hn hb) ?_
  rintro v1_1 w1_1 ⟨ps, svp, rfl, hqp, hQ, hy⟩
  replace hs := Z.w1 (hs.call hy); clear hy
  obtain ⟨Ap, cp, rfl, -, -, -⟩ := SX.row_slv hs (j := 0) rfl
  have hql : ps.length ≤ 16385 := by have h7 := congrArg List.length hqp; rw [List.length_map] at h7; omega
  have hqm : ∀ x ∈ ps, x.plain ∈ (parV l).2 := fun x hx => by rw [← hqp]; exact List.mem_map_of_mem hx
  refine Z.g125 ?_
  refine Z.only [2, 4, 6, 7] rfl ?_
  refine Z.g95 ?_
  refine Z.only [2, 4, 6, 7, 23] rfl ?_
  refine Z.g347 ?_
  refine Z.cond rfl (fun hc2 => ?_) (fun hc2 => ?_)
  · (try simp at hc2)
    refine Z.g0 ?_
    refine Z.g110 ?_
    refine Z.g32 ?_
    refine Z.g7 ?_
    clear hs; intro ws hs
    replace hs := Z.w0 hs
    replace hs := Z.w3 hs
    refine Z.g1 ?_
    refine Z.g154 ?_
    repeat (first | refine Z.rthen ?_ | refine Z.rblock ?_ | refine Z.rscope ?_)
    refine Z.out2 Z.b78 ?_
    rw [if_pos hc2] at hR
    subst hR
    exact ⟨_, rfl, RdR.fail (hs.sub (List.nil_sublist _))⟩
  (try simp at hc2)
  refine Z.g122 ?_
  have hE5 : (parV l).1 = 0 := by simpa using hc2
  rw [if_neg (fun k => k hE5)] at hR
  refine Z.g3 ?_
  refine Z.g227 ?_
  clear hs; intro g8 w8 hs
  refine Z.g348 ?_
  refine Z.only [2, 4, 6, 8] rfl ?_
  refine Z.g60 ?_
  refine Z.g1 ?_
  refine Z.only [2, 4, 6, 8, 9] rfl ?_
  refine Z.g180 ?_
  refine Z.loopk (ι := Nat × CtV × List MpV × Value × Value × Value × Value) [2, 4, 6, 8] rfl (fun z => [(9, [], .int .i64 (z.1 : Int))]) (fun z wr => (z.1 ≤ ps.length ∧ recGo m ((ps.map MpV.plain).drop z.1) z.2.1 = R ∧ z.2.2.1.map MpV.plain = z.2.1.sd ∧ (∀ q ∈ z.2.2.1, q ∈ ps) ∧ z.2.2.1.length ≤ z.1 ∧ z.2.1.pw.length ≤ z.1 ∧ z.2.1.id.length ≤ z.1 ∧ z.2.1.rp.length ≤ z.1) ∧ SX.St w [] wr (SX.Ent.blk g8 61 #[z.2.2.2.1, z.2.2.2.2.1, z.2.2.2.2.2.1, z.2.2.2.2.2.2] :: SX.Ent.row z.2.2.2.1 77 2 z.2.2.1.length (z.2.2.1.flatMap MpV.cells) :: SX.Ent.row z.2.2.2.2.1 86 6 z.2.1.rp.length (z.2.1.rp.flatMap RepV.cells) :: SX.Ent.row z.2.2.2.2.2.1 3 1 z.2.1.pw.length (ints .i64 z.2.1.pw) :: SX.Ent.row z.2.2.2.2.2.2 123 1 z.2.1.id.length (ints .u64 z.2.1.id) :: SX.Ent.row (.slice Ap ps.length cp) 77 2 ps.length (ps.flatMap MpV.cells) :: SX.Ent.blk g4 61 #[.slice none 0 0, .slice none 0 0, .slice none 0 0, .slice none 0 0] :: SX.Ent.blk g2 41 #[.slice A0 m.b.l.length c, .slice B m.b.l.length d, .int .i64 m.b.now, .bool m.up, .int .i64 m.r.c0, .int .i64 m.r.c1, .int .i64 m.r.c2, .int .i64 m.r.c3, .int .i64 m.r.now, .int .i64 m.r.b0, .int .i64 m.r.b1, .int .i64 m.r.b2, .int .i64 m.r.b3, .int .i64 m.r.head, .bool m.r.reg, .bool m.r.per, .bool m.r.pow, .bool m.r.fst, .int .i64 m.r.last, .int .i64 m.r.lastP, .int .i64 m.r.told, .int .i64 m.last] :: [])) (fun z => ps.length - z.1) (0, CtV.nil, [], .slice none 0 0, .slice none 0 0, .slice none 0 0, .slice none 0 0) Z.b6 ⟨⟨Nat.zero_le _, by rw [List.drop_zero, hqp]; exact hR, rfl, by simp, Nat.le_refl _, Nat.le_refl _, Nat.le_refl _, Nat.le_refl _⟩, ((((hs.nil 123 1).nil 3 1).nil 86 6).nil 77 2).sel [4, 0, 1, 2, 3, 5, 6, 7] Z.b13⟩ ?_
  clear hs
  rintro ⟨i, x, xs, s0, s1, s2, s3⟩ w6 ⟨⟨hi, hgo, hxp, hxm, hk0, hk1, hk2, hk3⟩, hs⟩
  refine Z.only [2, 4, 6, 8, 9] rfl ?_
  (try dsimp only at hs)
  dsimp only at hi hgo hxp hxm hk0 hk1 hk2 hk3 hs
  refine Z.g259 ?_
  refine Z.g19 ?_
  refine Z.g262 ?_
  refine Z.only [2, 4, 6, 8, 9, 29] rfl ?_
  refine Z.g347 ?_
  refine Z.cond rfl (fun hc6 => ?_) (fun hc6 => ?_)
  · (try simp at hc6)
    obtain ⟨q, hz⟩ : ∃ z, ps[i]? = some z := ⟨_, List.getElem?_eq_getElem Z.b10⟩
    have hqi : q ∈ ps := List.mem_of_getElem? hz
    have hpg := hgood _ (hqm _ hqi)
    have hpl := hlen _ (hqm _ hqi)
    have hpm := hmem _ (hqm _ hqi)
    have hone := mp_one q
    have hone2 : ∀ u ∈ (repV q.lc q.l).cells, u.oneCell' = true := by intro u hu; simp [RepV.cells] at hu; rcases hu with rfl | rfl | rfl | rfl | rfl | rfl <;> rfl
    have hqB := hQ q hqi _ hx
    have hqy : Byts q.l := fun y hy ↦ hb y (hpm y hy)
    have hdr : (ps.map MpV.plain).drop i = q.plain :: (ps.map MpV.plain).drop (i + 1) := drop_at (by rw [List.getElem?_map, hz]; rfl)
    rw [hdr, recGo] at hgo
    obtain ⟨gp, cp', e9, -, -⟩ := row_form (j := 5) hs rfl Z.b10
    cases e9
    obtain ⟨E0, f0, rfl, -, -, -⟩ := SX.row_slv hs (j := 1) rfl
    obtain ⟨E1, f1, rfl, -, -, -⟩ := SX.row_slv hs (j := 2) rfl
    obtain ⟨E2, f2, rfl, -, -, -⟩ := SX.row_slv hs (j := 3) rfl
    obtain ⟨E3, f3, rfl, -, -, -⟩ := SX.row_slv hs (j := 4) rfl
    refine Z.g213 ?_
    refine Z.g19 ?_
    refine Z.g166 ?_
    refine Z.l rfl rfl (by rfl) (Z.keepS hs) (Z.Yd.loadA _ rfl Tryz.isAgg77 (fun _ => Z.cellsRf (enc := MpV.cells) Z.b0 mp_len hz rfl) Z.b18) ?_
    refine Z.g286 ?_
    clear hs; intro g10 w10 hs
    refine Z.g123 ?_
    clear hs; intro ws hs
    replace hs := Z.w0 hs
    replace hs := Z.w3 hs
    refine Z.g348 ?_
    refine Z.only [2, 4, 6, 8, 9, 10] rfl ?_
    refine Z.g30 ?_
    refine Z.g157 ?_
    refine Z.g348 ?_
    refine Z.only [2, 4, 6, 8, 9, 10, 37] rfl ?_
    refine Z.g180 ?_
    refine Z.g152 ?_
    refine Z.only [2, 4, 6, 8, 9, 10, 37, 48] rfl ?_
    refine Z.g347 ?_
    refine Z.cond rfl (fun hc12 => ?_) (fun hc12 => ?_)
    · (try simp at hc12)
      refine Z.g0 ?_
      refine Z.g74 ?_
      refine Z.g3 ?_
      refine Z.ZO.call rfl rfl (by rfl) rfl rfl Tryz.call59 rfl (rdecpow24 q.lc q.B _ q.c q.l _ (hqB.st (hs.sub (List.nil_sublist _))) rfl Z.b83 hqy) ?_
      rintro v13_1 w13_1 ⟨rfl, hy⟩
      replace hs := Z.w1 (hs.call hy); clear hy
      refine Z.g125 ?_
      refine Z.only [2, 4, 6, 8, 9, 11, 12] rfl ?_
      refine Z.g95 ?_
      refine Z.only [2, 4, 6, 8, 9, 11, 12, 56] rfl ?_
      refine Z.g347 ?_
      refine Z.cond rfl (fun hc14 => ?_) (fun hc14 => ?_)
      · (try simp at hc14)
        refine Z.g0 ?_
        refine Z.g110 ?_
        refine Z.g32 ?_
        refine Z.g7 ?_
        clear hs; intro ws hs
        replace hs := Z.w0 hs
        replace hs := Z.w3 hs
        refine Z.g1 ?_
        refine Z.g154 ?_
        repeat (first | refine Z.rthen ?_ | refine Z.rblock ?_ | refine Z.rscope ?_)
        refine Z.out2 Z.b78 ?_
        have e2 := recS_pw (m := m) (x := x) (p := q.plain) hc12
        have he : (recS m x q.plain).1 ≠ 0 := by rw [e2]; exact hc14
        rw [if_pos he, e2] at hgo
        subst hgo
        exact ⟨_, rfl, RdR.fail (hs.sub (List.nil_sublist _))⟩
      (try simp at hc14)
      refine Z.skip ?_
      refine Z.g240 ?_
      refine Z.g21 ?_
      refine Z.g160 ?_
      refine Z.g32 ?_
      refine Z.g55 ?_
      clear hs; intro g62 w62 hs
      refine Z.g3 ?_
      refine Z.g38 ?_
      clear hs; intro g63 cap63 w63 hs
      simp only [List.set_cons_zero, List.set_cons_succ, List.eraseIdx_cons_zero, List.eraseIdx_cons_succ] at hs
      refine Z.g21 ?_
      refine Z.g3 ?_
      refine Z.g111 ?_
      clear hs; intro ws hs
      replace hs := Z.w0 hs
      refine Z.g273 ?_
      have hlc : q.plain.1 = 26 := hc12
      have e2 := recS_pw (m := m) (x := x) (p := q.plain) hlc
      have he : (recS m x q.plain).1 = 0 := by rw [e2]; exact hc14
      rw [if_neg (fun k => k he), e2] at hgo
      have hs2 := hs.tl
      rw [show x.pw.length + 1 = (x.pw ++ [powV q.lc q.l]).length from by simp, show ints .i64 x.pw ++ [.int .i64 (powV q.lc q.l)] = ints .i64 (x.pw ++ [powV q.lc q.l]) from by simp [ints]] at hs2
      exact Z.again (i + 1, { x with pw := x.pw ++ [powV q.lc q.l] }, xs, _, _, _, _) Z.b9 ⟨⟨by simp only; omega, hgo, hxp, hxm, by simp; omega, by simp; omega, by simp; omega, by simp; omega⟩, hs2⟩ Z.b21
    (try simp at hc12)
    refine Z.seq ?_
    refine Z.g152 ?_
    refine Z.only [2, 4, 6, 8, 9, 10, 37, 65] rfl ?_
    refine Z.g347 ?_
    refine Z.cond rfl (fun hc17 => ?_) (fun hc17 => ?_)
    · (try simp at hc17)
      refine Z.g266 ?_
      refine Z.cond rfl (fun hc17 => ?_) (fun hc17 => ?_)
      · (try simp at hc17)
        refine Z.g0 ?_
        refine Z.g74 ?_
        refine Z.g3 ?_
        refine Z.ZO.call rfl rfl (by rfl) rfl rfl Tryz.call60 rfl (rdecid24 q.lc q.B _ q.c q.l _ (hqB.st (hs.sub (List.nil_sublist _))) rfl Z.b83 hqy) ?_
        rintro v19_1 w19_1 ⟨rfl, hy⟩
        replace hs := Z.w1 (hs.call hy); clear hy
        refine Z.g125 ?_
        refine Z.only [2, 4, 6, 8, 9, 13] rfl ?_
        refine Z.g240 ?_
        refine Z.g47 ?_
        refine Z.l rfl rfl (by rfl) (Z.keepS hs) Z.b55 ?_
        refine Z.g32 ?_
        refine Z.ZO.litL (T' := 123) [(0, 1)] [.int .u64 0] rfl rfl (by rfl) rfl rfl Z.b20 hs ?_
        clear hs; intro g76 w76 hs
        refine Z.g3 ?_
        refine Z.g167 ?_
        clear hs; intro g77 cap77 w77 hs
        simp only [List.set_cons_zero, List.set_cons_succ, List.eraseIdx_cons_zero, List.eraseIdx_cons_succ] at hs
        refine Z.g47 ?_
        refine Z.g3 ?_
        refine Z.ZO.store rfl rfl hs Tryz.sizeOf59 rfl rfl rfl Z.b1 Z.b8 ?_
        clear hs; intro ws hs
        replace hs := Z.w0 hs
        refine Z.g273 ?_
        have hlc : q.plain.1 = 27 ∨ q.plain.1 = 28 := by show q.lc = 27 ∨ q.lc = 28; omega
        have e2 := recS_id (m := m) (x := x) (p := q.plain) hlc
        have he : (recS m x q.plain).1 = 0 := by rw [e2]; exact (id_good hpg hlc)
        rw [if_neg (fun k => k he), e2] at hgo
        have hs2 := hs.tl
        rw [show x.id.length + 1 = (x.id ++ [idV q.lc q.l]).length from by simp, show ints .u64 x.id ++ [.int .u64 (idV q.lc q.l)] = ints .u64 (x.id ++ [idV q.lc q.l]) from by simp [ints]] at hs2
        exact Z.again (i + 1, { x with id := x.id ++ [idV q.lc q.l] }, xs, _, _, _, _) Z.b9 ⟨⟨by simp only; omega, hgo, hxp, hxm, by simp; omega, by simp; omega, by simp; omega, by simp; omega⟩, hs2⟩ Z.b21
      (exfalso; simp at hc17 <;> omega)
    (try simp at hc17)
    refine Z.g230 ?_
    refine Z.g31 ?_
    refine Z.only [2, 4, 6, 8, 9, 10, 37, 65] rfl ?_
    refine Z.g347 ?_
    refine Z.cond rfl (fun hc18 => ?_) (fun hc18 => ?_)
    · (try simp at hc18)
      refine Z.g0 ?_
      refine Z.g74 ?_
      refine Z.g3 ?_
      refine Z.ZO.call rfl rfl (by rfl) rfl rfl Tryz.call60 rfl (rdecid24 q.lc q.B _ q.c q.l _ (hqB.st (hs.sub (List.nil_sublist _))) rfl Z.b83 hqy) ?_
      rintro v19_1 w19_1 ⟨rfl, hy⟩
      replace hs := Z.w1 (hs.call hy); clear hy
      refine Z.g125 ?_
      refine Z.only [2, 4, 6, 8, 9, 13] rfl ?_
      refine Z.g240 ?_
      refine Z.g47 ?_
      refine Z.l rfl rfl (by rfl) (Z.keepS hs) Z.b55 ?_
      refine Z.g32 ?_
      refine Z.ZO.litL (T' := 123) [(0, 1)] [.int .u64 0] rfl rfl (by rfl) rfl rfl Z.b20 hs ?_
      clear hs; intro g76 w76 hs
      refine Z.g3 ?_
      refine Z.g167 ?_
      clear hs; intro g77 cap77 w77 hs
      simp only [List.set_cons_zero, List.set_cons_succ, List.eraseIdx_cons_zero, List.eraseIdx_cons_succ] at hs
      refine Z.g47 ?_
      refine Z.g3 ?_
      refine Z.ZO.store rfl rfl hs Tryz.sizeOf59 rfl rfl rfl Z.b1 Z.b8 ?_
      clear hs; intro ws hs
      replace hs := Z.w0 hs
      refine Z.g273 ?_
      have hlc : q.plain.1 = 27 ∨ q.plain.1 = 28 := by show q.lc = 27 ∨ q.lc = 28; omega
      have e2 := recS_id (m := m) (x := x) (p := q.plain) hlc
      have he : (recS m x q.plain).1 = 0 := by rw [e2]; exact (id_good hpg hlc)
      rw [if_neg (fun k => k he), e2] at hgo
      have hs2 := hs.tl
      rw [show x.id.length + 1 = (x.id ++ [idV q.lc q.l]).length from by simp, show ints .u64 x.id ++ [.int .u64 (idV q.lc q.l)] = ints .u64 (x.id ++ [idV q.lc q.l]) from by simp [ints]] at hs2
      exact Z.again (i + 1, { x with id := x.id ++ [idV q.lc q.l] }, xs, _, _, _, _) Z.b9 ⟨⟨by simp only; omega, hgo, hxp, hxm, by simp; omega, by simp; omega, by simp; omega, by simp; omega⟩, hs2⟩ Z.b21
    (try simp at hc18)
    refine Z.seq ?_
    refine Z.g152 ?_
    refine Z.only [2, 4, 6, 8, 9, 10, 37, 79] rfl ?_
    refine Z.g347 ?_
    refine Z.cond rfl (fun hc21 => ?_) (fun hc21 => ?_)
    · (try simp at hc21)
      refine Z.g266 ?_
      refine Z.cond rfl (fun hc21 => ?_) (fun hc21 => ?_)
      · (try simp at hc21)
        refine Z.g0 ?_
        refine Z.g74 ?_
        refine Z.g3 ?_
        refine Z.ZO.call rfl rfl (by rfl) rfl rfl Tryz.call61 rfl (rdecrep24 q.lc q.B _ q.c q.l _ (hqB.st (hs.sub (List.nil_sublist _))) rfl hqy) ?_
        rintro v23_1 w23_1 ⟨rfl, hy⟩
        replace hs := Z.w1 (hs.call hy); clear hy
        refine Z.g105 ?_
        refine Z.g274 ?_
        clear hs; intro g15 w15 hs
        refine Z.g123 ?_
        clear hs; intro ws hs
        replace hs := Z.w0 hs
        replace hs := Z.w3 hs
        refine Z.g1 ?_
        refine Z.only [2, 4, 6, 8, 9, 15] rfl ?_
        refine Z.g240 ?_
        refine Z.g8 ?_
        refine Z.l rfl rfl (by rfl) (Z.keepS hs) Z.b56 ?_
        refine Z.l rfl rfl (by rfl) (Z.keepS hs) (Z.Yd.loadA _ rfl Tryz.isAgg86 (fun _ => Z.cellsB (cs := (repV q.lc q.l).cells) Z.b0) (by exact Tryz.sizeOf86)) ?_
        refine Z.g3 ?_
        refine Z.g131 ?_
        clear hs; intro g90 w90 hs
        refine Z.g3 ?_
        refine Z.g168 ?_
        clear hs; intro g91 cap91 w91 hs
        simp only [List.set_cons_zero, List.set_cons_succ, List.eraseIdx_cons_zero, List.eraseIdx_cons_succ] at hs
        refine Z.g8 ?_
        refine Z.g3 ?_
        refine Z.ZO.store rfl rfl hs Tryz.sizeOf58 rfl rfl rfl Z.b1 Z.b8 ?_
        clear hs; intro ws hs
        replace hs := Z.w0 hs
        refine Z.g273 ?_
        have hlc : q.plain.1 = 29 ∨ q.plain.1 = 30 := by show q.lc = 29 ∨ q.lc = 30; omega
        have e2 := recS_rp (m := m) (x := x) (p := q.plain) hlc
        have he : (recS m x q.plain).1 = 0 := by rw [e2]; exact (rep_good hpg hlc)
        rw [if_neg (fun k => k he), e2] at hgo
        have hs2 := hs.tl.tl
        rw [show x.rp.length + 1 = (x.rp ++ [repV q.lc q.l]).length from by simp] at hs2
        have hfm : (x.rp ++ [repV q.lc q.l]).flatMap RepV.cells = x.rp.flatMap RepV.cells ++ (repV q.lc q.l).cells := by simp
        exact Z.again (i + 1, { x with rp := x.rp ++ [repV q.lc q.l] }, xs, _, _, _, _) Z.b9 ⟨⟨by simp only; omega, hgo, hxp, hxm, by simp; omega, by simp; omega, by simp; omega, by simp; omega⟩, (by simpa [RepV.cells] using hs2)⟩ Z.b21
      (exfalso; simp at hc21 <;> omega)
    (try simp at hc21)
    refine Z.g230 ?_
    refine Z.g31 ?_
    refine Z.only [2, 4, 6, 8, 9, 10, 79] rfl ?_
    refine Z.g347 ?_
    refine Z.cond rfl (fun hc22 => ?_) (fun hc22 => ?_)
    · (try simp at hc22)
      refine Z.g0 ?_
      refine Z.g74 ?_
      refine Z.g3 ?_
      refine Z.ZO.call rfl rfl (by rfl) rfl rfl Tryz.call61 rfl (rdecrep24 q.lc q.B _ q.c q.l _ (hqB.st (hs.sub (List.nil_sublist _))) rfl hqy) ?_
      rintro v23_1 w23_1 ⟨rfl, hy⟩
      replace hs := Z.w1 (hs.call hy); clear hy
      refine Z.g105 ?_
      refine Z.g274 ?_
      clear hs; intro g15 w15 hs
      refine Z.g123 ?_
      clear hs; intro ws hs
      replace hs := Z.w0 hs
      replace hs := Z.w3 hs
      refine Z.g1 ?_
      refine Z.only [2, 4, 6, 8, 9, 15] rfl ?_
      refine Z.g240 ?_
      refine Z.g8 ?_
      refine Z.l rfl rfl (by rfl) (Z.keepS hs) Z.b56 ?_
      refine Z.l rfl rfl (by rfl) (Z.keepS hs) (Z.Yd.loadA _ rfl Tryz.isAgg86 (fun _ => Z.cellsB (cs := (repV q.lc q.l).cells) Z.b0) (by exact Tryz.sizeOf86)) ?_
      refine Z.g3 ?_
      refine Z.g131 ?_
      clear hs; intro g90 w90 hs
      refine Z.g3 ?_
      refine Z.g168 ?_
      clear hs; intro g91 cap91 w91 hs
      simp only [List.set_cons_zero, List.set_cons_succ, List.eraseIdx_cons_zero, List.eraseIdx_cons_succ] at hs
      refine Z.g8 ?_
      refine Z.g3 ?_
      refine Z.ZO.store rfl rfl hs Tryz.sizeOf58 rfl rfl rfl Z.b1 Z.b8 ?_
      clear hs; intro ws hs
      replace hs := Z.w0 hs
      refine Z.g273 ?_
      have hlc : q.plain.1 = 29 ∨ q.plain.1 = 30 := by show q.lc = 29 ∨ q.lc = 30; omega
      have e2 := recS_rp (m := m) (x := x) (p := q.plain) hlc
      have he : (recS m x q.plain).1 = 0 := by rw [e2]; exact (rep_good hpg hlc)
      rw [if_neg (fun k => k he), e2] at hgo
      have hs2 := hs.tl.tl
      rw [show x.rp.length + 1 = (x.rp ++ [repV q.lc q.l]).length from by simp] at hs2
      have hfm : (x.rp ++ [repV q.lc q.l]).flatMap RepV.cells = x.rp.flatMap RepV.cells ++ (repV q.lc q.l).cells := by simp
      exact Z.again (i + 1, { x with rp := x.rp ++ [repV q.lc q.l] }, xs, _, _, _, _) Z.b9 ⟨⟨by simp only; omega, hgo, hxp, hxm, by simp; omega, by simp; omega, by simp; omega, by simp; omega⟩, (by simpa [RepV.cells] using hs2)⟩ Z.b21
    (try simp at hc22)
    refine Z.g0 ?_
    refine Z.l rfl rfl (by rfl) (Z.keepS hs) (Z.Yd.loadA _ rfl Tryz.isAgg41 (fun _ => Z.cellsB (cs := [.slice A0 m.b.l.length c, .slice B m.b.l.length d, .int .i64 m.b.now, .bool m.up, .int .i64 m.r.c0, .int .i64 m.r.c1, .int .i64 m.r.c2, .int .i64 m.r.c3, .int .i64 m.r.now, .int .i64 m.r.b0, .int .i64 m.r.b1, .int .i64 m.r.b2, .int .i64 m.r.b3, .int .i64 m.r.head, .bool m.r.reg, .bool m.r.per, .bool m.r.pow, .bool m.r.fst, .int .i64 m.r.last, .int .i64 m.r.lastP, .int .i64 m.r.told, .int .i64 m.last]) Z.b0) (by exact Tryz.sizeOf41)) ?_
    refine Z.g157 ?_
    refine Z.g3 ?_
    refine Z.ZO.call rfl rfl (by rfl) rfl rfl Tryz.call62 rfl (hk q.lc _ (hs.sub (List.nil_sublist _))) ?_
    rintro v10_3 w10_3 ⟨rfl, hy⟩
    replace hs := Z.w1 (hs.call hy); clear hy
    refine Z.g348 ?_
    refine Z.only [2, 4, 6, 8, 9, 10, 41] rfl ?_
    refine Z.g347 ?_
    refine Z.cond rfl (fun hc10 => ?_) (fun hc10 => ?_)
    · (try simp at hc10)
      refine Z.g230 ?_
      refine Z.g2 ?_
      refine Z.g224 ?_
      refine Z.g74 ?_
      refine Z.g3 ?_
      refine Z.g59 ?_
      clear hs; intro g45 w45 hs
      refine Z.g3 ?_
      refine Z.g82 ?_
      clear hs; intro g46 cap46 w46 hs
      simp only [List.set_cons_zero, List.set_cons_succ, List.eraseIdx_cons_zero, List.eraseIdx_cons_succ] at hs
      refine Z.g2 ?_
      refine Z.g3 ?_
      refine Z.g118 ?_
      clear hs; intro ws hs
      replace hs := Z.w0 hs
      refine Z.g273 ?_
      have hcn : ctlN q.plain.1 = 0 := by show ctlN q.lc = 0; unfold ctlN; rw [if_neg Z.b10, if_neg Z.b10, if_neg Z.b10, if_neg Z.b10]
      rw [recS_no hcn] at hgo
      rw [if_pos (c := knowB m q.plain.1 = true) hc10] at hgo
      simp only [ne_eq, not_true_eq_false, ↓reduceIte] at hgo
      have hs2 := hs.tl
      rw [show xs.length + 1 = (xs ++ [q]).length from by simp] at hs2
      exact Z.again (i + 1, { x with sd := x.sd ++ [q.plain] }, xs ++ [q], _, _, _, _) Z.b9 ⟨⟨by simp only; omega, hgo, by rw [List.map_append, hxp]; rfl, by intro z hz9; rcases List.mem_append.1 hz9 with h | h; exact hxm z h; (obtain rfl : z = _ := by simpa using h); exact hqi, by simp; omega, by simp; omega, by simp; omega, by simp; omega⟩, (by simpa [MpV.cells] using hs2)⟩ Z.b21
    (try simp at hc10)
    refine Z.g73 ?_
    refine Z.nblock ?_
    refine Z.g347 ?_
    refine Z.g204 ?_
    refine Z.g347 ?_
    have hcn : ctlN q.plain.1 = 0 := by show ctlN q.lc = 0; unfold ctlN; rw [if_neg Z.b10, if_neg Z.b10, if_neg Z.b10, if_neg Z.b10]
    rw [recS_no hcn] at hgo
    rw [if_neg (c := knowB m q.plain.1 = true) (by show ¬ knowB m q.lc = true; simp [hc10])] at hgo
    simp only [ne_eq, not_true_eq_false, ↓reduceIte] at hgo
    exact Z.again (i + 1, x, xs, _, _, _, _) Z.b9 ⟨⟨by simp only; omega, hgo, hxp, hxm, by simp; omega, by simp; omega, by simp; omega, by simp; omega⟩, hs.tl⟩ Z.b21
  (try simp at hc6)
  refine Z.g211 ?_
  obtain ⟨E0, f0, rfl, -, -, -⟩ := SX.row_slv hs (j := 1) rfl
  obtain ⟨E1, f1, rfl, -, -, -⟩ := SX.row_slv hs (j := 2) rfl
  obtain ⟨E2, f2, rfl, -, -, -⟩ := SX.row_slv hs (j := 3) rfl
  obtain ⟨E3, f3, rfl, -, -, -⟩ := SX.row_slv hs (j := 4) rfl
  refine Z.l rfl rfl (by rfl) (Z.keepS hs) (Z.Yd.loadA _ rfl Tryz.isAgg61 (fun _ => Z.cellsB (cs := [.slice E0 _ f0, .slice E1 _ f1, .slice E2 _ f2, .slice E3 _ f3]) Z.b0) (by exact Tryz.sizeOf61)) ?_
  refine Z.g123 ?_
  clear hs; intro ws hs
  replace hs := Z.w0 hs
  replace hs := Z.w3 hs
  refine Z.g1 ?_
  refine Z.g154 ?_
  refine Z.out2 Z.b78 ?_
  obtain rfl : i = ps.length := by omega
  rw [List.drop_of_length_le (by rw [List.length_map]; exact Nat.le_refl _)] at hgo
  subst hgo
  exact ⟨_, rfl, _, _, _, _, xs, rfl, hxp, fun q hq W hW => hQ q (hxm q hq) W hW, hs.sel [1, 2, 3, 4] Z.b13⟩
theorem rx_new_ok (A : Option Addr) (n k : Nat) (ls : List LgV) (a b c d : Int) (up : Bool) (w : World) (hx : Sl w A (ls.flatMap LgV.cells)) (hl : ls.length = n) (h : okN9 ls a b c d) :
    Calls Tryz.prog 12 #[cfgV A n k a b c d up] w (SX.Ret fun v w' => ∃ Ra ca Rb cb, v = .tuple #[.agg (meC Ra ca Rb cb (newM ls a b c d up)).toArray, .int .i64 0] ∧ SX.St w [] w' [SX.Ent.row (.slice Ra n ca) 75 5 n (ls.flatMap LgV.cells), SX.Ent.row (.slice Rb n cb) 3 1 n (ints .i64 (newB ls).b)]) := by
  refine (rx_new A n k ls a b c d up w hx hl).mono ?_
  rintro e w' ⟨v, rfl, cs, e2, Ln, rfl, he, hs, hok, -⟩
  obtain ⟨Ra, ca, Rb, cb, rfl, rfl⟩ := hok h
  rw [if_pos h] at he
  subst he
  exact ⟨_, rfl, Ra, ca, Rb, cb, rfl, hs⟩
theorem rx_new_bad (A : Option Addr) (n k : Nat) (ls : List LgV) (a b c d : Int) (up : Bool) (w : World) (hx : Sl w A (ls.flatMap LgV.cells)) (hl : ls.length = n) (h : ¬ okN9 ls a b c d) :
    Calls Tryz.prog 12 #[cfgV A n k a b c d up] w (SX.Ret fun v w' => v = .tuple #[.agg zeroE.toArray, .int .i64 2] ∧ SX.St w [] w' []) := by
  refine (rx_new A n k ls a b c d up w hx hl).mono ?_
  rintro e w' ⟨v, rfl, cs, e2, Ln, rfl, he, hs, -, hbad⟩
  rw [if_neg h] at he
  subst he
  exact ⟨_, rfl, by rw [hbad h], hs.sub (List.nil_sublist _)⟩
theorem mx_new_bad (A : Option Addr) (n k : Nat) (ls : List LgV) (a b c d : Int) (up : Bool) (w : World) (hx : Sl w A (ls.flatMap LgV.cells)) (hl : ls.length = n) (hn : n ≤ 1000) (hk : n ≤ k) (h : ¬ okN9 ls a b c d) :
    Calls Tryz.prog 11 #[cfgV A n k a b c d up] w (SX.Ret fun v w' => v = .tuple #[.pointer none, .int .i64 2] ∧ SX.St w [] w' []) := by
  by_cases h1 : okSet ls
  · exact mx_new_badR A n k ls a b c d up w hx hl hn hk h1 (fun h2 => h ⟨h1, h2⟩)
  exact mx_new_badB A n k ls a b c d up w hx hl hn hk h1
end Go.Proofs.YtbojkoiopkaciaaGreat

/- The MAC entity: contents of arbitrary blocks. -/
namespace Go.Proofs.YtbojkoiopkaciaaGreat
open Go.RowKit
set_option linter.unusedSimpArgs false
set_option linter.unusedVariables false
--newlaws

theorem rx_ctq {w0 W : World} {M : List Nat} {L : List SX.Ent} {m : MaV} {A : Option Addr} {l : List Int} {s0 s1 s2 s3 : Value} {xs : List MpV} (hb : ∀ x ∈ l, 0 ≤ x ∧ x < 256) (hs : SX.St w0 M W L) (hp : xs.map MpV.plain = (recV m l).2.sd) (hq : ∀ q ∈ xs, ∀ W, Sl W A (ints .u8 l) → Sl W q.B (ints .u8 q.l)) (hx : Sl W A (ints .u8 l))
    (hL : ∀ e ∈ [SX.Ent.row s0 77 2 xs.length (xs.flatMap MpV.cells), SX.Ent.row s1 86 6 (recV m l).2.rp.length ((recV m l).2.rp.flatMap RepV.cells), SX.Ent.row s2 3 1 (recV m l).2.pw.length (ints .i64 (recV m l).2.pw), SX.Ent.row s3 123 1 (recV m l).2.id.length (ints .u64 (recV m l).2.id)], e ∈ L) : CtQ W [s0, s1, s2, s3] xs (recV m l).2 := by
  obtain ⟨j0, h0⟩ := List.getElem?_of_mem (hL (SX.Ent.row s0 77 2 xs.length (xs.flatMap MpV.cells)) Z.b22)
  obtain ⟨j1, h1⟩ := List.getElem?_of_mem (hL (SX.Ent.row s1 86 6 (recV m l).2.rp.length ((recV m l).2.rp.flatMap RepV.cells)) Z.b22)
  obtain ⟨j2, h2⟩ := List.getElem?_of_mem (hL (SX.Ent.row s2 3 1 (recV m l).2.pw.length (ints .i64 (recV m l).2.pw)) Z.b22)
  obtain ⟨j3, h3⟩ := List.getElem?_of_mem (hL (SX.Ent.row s3 123 1 (recV m l).2.id.length (ints .u64 (recV m l).2.id)) Z.b22)
  obtain ⟨A0, c0, rfl, -, -, -⟩ := SX.row_slv hs h0
  obtain ⟨A1, c1, rfl, -, -, -⟩ := SX.row_slv hs h1
  obtain ⟨A2, c2, rfl, -, -, -⟩ := SX.row_slv hs h2
  obtain ⟨A3, c3, rfl, -, -, -⟩ := SX.row_slv hs h3
  refine ⟨A0, c0, A1, c1, A2, c2, A3, c3, rfl, hp, hs.slm (List.mem_of_getElem? h0), hs.slm (List.mem_of_getElem? h1), hs.slm (List.mem_of_getElem? h2), hs.slm (List.mem_of_getElem? h3), fun q h => hq q h W hx, fun q h z hz => ?_⟩
  have h5 : q.plain ∈ (recV m l).2.sd := by rw [← hp]; exact List.mem_map_of_mem h
  exact hb z (par_mem l _ ((rec_bd m l).1 _ h5) z hz)
theorem ct_bd {m : MaV} {l : List Int} {xs : List MpV} (hp : xs.map MpV.plain = (recV m l).2.sd) : xs.length ≤ 9223372036854775807 ∧ (recV m l).2.rp.length ≤ 1000000 ∧ (recV m l).2.pw.length ≤ 1000000 ∧ (recV m l).2.id.length ≤ 1000000 := by
  have hbd := rec_bd m l
  have hxl := congrArg List.length hp
  rw [List.length_map] at hxl
  omega
theorem St.front1 {w0 w : World} {M : List Nat} {A Q R : List SX.Ent} {e : SX.Ent} (h : SX.St w0 M w (A ++ (Q ++ (e :: R)))) : SX.St w0 M w (e :: (A ++ Q)) :=
  (h.sub (L' := A ++ (Q ++ [e])) ((List.Sublist.refl A).append ((List.Sublist.refl Q).append (List.Sublist.cons_cons e (List.nil_sublist R))))).perm (by rw [← List.append_assoc]; exact (List.perm_append_singleton e (A ++ Q)).symm)
theorem iset9 {κ : IntKind} {xs : List Int} {i : Nat} {v : Int} : (ints κ xs).set i (.int κ v) = ints κ (xs.set i v) := by
  unfold ints
  rw [List.map_set]
theorem sameC_refl (x : CtV) : sameC x x := ⟨rfl, rfl, rfl, rfl⟩
set_option maxHeartbeats 4000000 in
set_option maxRecDepth 100000 in
theorem receives_bad (A : Option Addr) (n cc : Nat) (a b c d : Int) (up : Bool) (B : Option Addr) (nb cb : Nat) (ls : List LgV) (w : World) (hx : Sl w A (ls.flatMap LgV.cells)) (hl : ls.length = n) (hc : n ≤ cc) (hn : n ≤ maxLen) (hnb : nb ≤ maxLen) (h : ¬ okN9 ls a b c d) :
    Calls Tryz.prog 5 #[cfgV A n cc a b c d up, .slice B nb cb] w (SX.Ret fun v w' => v = .bool true ∧ SX.St w [] w' []) := by
  have hs := SX.St.start w
  unfold maxLen at hn hnb
  unfold cfgV
  refine Z.enter Tryz.func5 rfl Tryz.ntmps5 rfl rfl ?_
  refine Z.g121 ?_
  clear hs; intro g2 w2 hs
  refine Z.g127 ?_
  refine Z.g60 ?_
  refine Z.g2 ?_
  refine Z.g138 ?_
  refine Z.g84 ?_
  refine Z.g105 ?_
  refine Z.g20 ?_
  refine Z.g31 ?_
  refine Z.only [1, 2, 23] rfl ?_
  refine Z.g347 ?_
  refine Z.cond rfl (fun hc1 => ?_) (fun hc1 => ?_)
  · (try simp at hc1)
    refine Z.g242 ?_
    refine Z.ZO.call rfl rfl (by rfl) rfl rfl Tryz.call10 rfl (works29 _) ?_
    rintro v2_0 w2_0 ⟨rfl, hy⟩
    replace hs := Z.w1 (hs.call hy); clear hy
    refine Z.g217 ?_
    repeat (first | refine Z.rthen ?_ | refine Z.rblock ?_ | refine Z.rscope ?_)
    refine Z.g52 ?_
    exact ⟨_, rfl, rfl, hs.sub (List.nil_sublist _)⟩
  (try simp at hc1)
  refine Z.g122 ?_
  refine Z.g86 ?_
  refine Z.g3 ?_
  refine Z.ZO.call rfl rfl (by rfl) rfl rfl Tryz.call11 rfl (mx_new_bad A n cc ls a b c d up _ (hx.st (hs.sub (List.nil_sublist _))) hl Z.b10 hc h) ?_
  rintro v3_1 w3_1 ⟨rfl, hy⟩
  replace hs := Z.w1 (hs.call hy); clear hy
  refine Z.g125 ?_
  refine Z.only [1, 2, 5] rfl ?_
  refine Z.g30 ?_
  refine Z.g86 ?_
  refine Z.g3 ?_
  refine Z.ZO.call rfl rfl (by rfl) rfl rfl Tryz.call12 rfl (rx_new_bad A n cc ls a b c d up _ (hx.st (hs.sub (List.nil_sublist _))) hl h) ?_
  rintro v4_1 w4_1 ⟨rfl, hy⟩
  replace hs := Z.w1 (hs.call hy); clear hy
  refine Z.g310 ?_
  refine Z.ZO.alloc rfl rfl (by rfl) Tryz.zeroValue41 rfl hs ?_
  clear hs; intro g7 w7 hs
  simp only [zeroE]
  refine Z.g123 ?_
  clear hs; intro ws hs
  replace hs := Z.w0 hs
  replace hs := Z.w3 hs
  refine Z.g1 ?_
  refine Z.only [1, 5, 7, 8] rfl ?_
  refine Z.g95 ?_
  refine Z.only [1, 5, 7, 36] rfl ?_
  refine Z.g347 ?_
  refine Z.cond rfl (fun hc5 => ?_) (fun h => absurd h Z.b22)
  refine Z.g0 ?_
  refine Z.g93 ?_
  refine Z.l rfl rfl (by rfl) (Z.keepS hs) (Z.Yd.ptrNil rfl rfl Tryz.underlying30) ?_
  refine Z.g93 ?_
  refine Z.yes (s := 39) (b := true) rfl (Z.b22) rfl ?_
  refine Z.g142 ?_
  refine Z.ZO.call rfl rfl (by rfl) rfl rfl Tryz.call10 rfl (works29 _) ?_
  rintro v6_3 w6_3 ⟨rfl, hy⟩
  replace hs := Z.w1 (hs.call hy); clear hy
  refine Z.g16 ?_
  refine Z.g217 ?_
  repeat (first | refine Z.rthen ?_ | refine Z.rblock ?_ | refine Z.rscope ?_)
  refine Z.g52 ?_
  exact ⟨_, rfl, rfl, hs.sub (List.nil_sublist _)⟩
set_option maxHeartbeats 4000000 in
set_option maxRecDepth 100000 in
theorem receives_ok (A : Option Addr) (n cc : Nat) (a b c d : Int) (up : Bool) (B : Option Addr) (nb cb2 : Nat) (ls : List LgV) (l : List Int) (w : World) (hx : Sl w A (ls.flatMap LgV.cells)) (hl : ls.length = n) (hc : n ≤ cc) (hn : n ≤ maxLen) (hnb : nb ≤ maxLen) (hB : Sl w B (ints .u8 l)) (hbl : l.length = nb) (hbc : nb ≤ cb2) (hby : ∀ x ∈ l, 0 ≤ x ∧ x < 256) (h : okN9 ls a b c d) :
    Calls Tryz.prog 5 #[cfgV A n cc a b c d up, .slice B nb cb2] w (SX.Ret fun v w' => v = .bool true ∧ SX.St w [] w' []) := by
  have hs := SX.St.start w
  unfold maxLen at hn hnb
  unfold cfgV
  have hm : (newM ls a b c d up).ok := newM_ok h.1 h.2
  subst hbl
  refine Z.enter Tryz.func5 rfl Tryz.ntmps5 rfl rfl ?_
  refine Z.g121 ?_
  clear hs; intro g2 w2 hs
  refine Z.g127 ?_
  refine Z.g60 ?_
  refine Z.g2 ?_
  refine Z.g138 ?_
  refine Z.g84 ?_
  refine Z.g105 ?_
  refine Z.g20 ?_
  refine Z.g31 ?_
  refine Z.only [1, 2, 23] rfl ?_
  refine Z.g347 ?_
  refine Z.cond rfl (fun hc1 => ?_) (fun hc1 => ?_)
  · (try simp at hc1)
    refine Z.g242 ?_
    refine Z.ZO.call rfl rfl (by rfl) rfl rfl Tryz.call10 rfl (works29 _) ?_
    rintro v2_0 w2_0 ⟨rfl, hy⟩
    replace hs := Z.w1 (hs.call hy); clear hy
    refine Z.g217 ?_
    repeat (first | refine Z.rthen ?_ | refine Z.rblock ?_ | refine Z.rscope ?_)
    refine Z.g52 ?_
    exact ⟨_, rfl, rfl, hs.sub (List.nil_sublist _)⟩
  (try simp at hc1)
  refine Z.g122 ?_
  have hnn : n ≤ 12 ∧ l.length ≤ 600 := by obtain ⟨h1, h2⟩ := hc1; omega
  refine Z.g86 ?_
  refine Z.g3 ?_
  refine Z.ZO.call rfl rfl (by rfl) rfl rfl Tryz.call11 rfl (mx_new_ok A n cc ls a b c d up _ (hx.st (hs.sub (List.nil_sublist _))) hl Z.b10 hc h.1 h.2) ?_
  rintro v3_1 w3_1 ⟨g, gb, gr, C, kc, sv, so, rfl, hy⟩
  replace hs := Z.w1 (hs.call hy); clear hy
  replace hs := SX.St.rot (L1 := maE g gb gr C kc sv so (newM ls a b c d up) ++ [_]) hs
  replace hs := Z.w2 hs
  refine Z.g125 ?_
  refine Z.only [1, 2, 5] rfl ?_
  refine Z.g30 ?_
  refine Z.g86 ?_
  refine Z.g3 ?_
  refine Z.ZO.call rfl rfl (by rfl) rfl rfl Tryz.call12 rfl (rx_new_ok A n cc ls a b c d up _ (hx.st (hs.sub (List.nil_sublist _))) hl h) ?_
  rintro v4_1 w4_1 ⟨Ra, ca, Rb, cb, rfl, hy⟩
  replace hs := Z.w1 (hs.call hy); clear hy
  have hbll : (newM ls a b c d up).b.l = ls := rfl
  have hbb : (newB ls).b = (newM ls a b c d up).b.b := rfl
  rw [hbb] at hs
  generalize newM ls a b c d up = m at hm hs hbll ⊢
  refine Z.g310 ?_
  refine Z.ZO.alloc rfl rfl (by rfl) Tryz.zeroValue41 rfl hs ?_
  clear hs; intro g7 w7 hs
  simp only [meC]
  refine Z.g123 ?_
  clear hs; intro ws hs
  replace hs := Z.w0 hs
  replace hs := Z.w3 hs
  refine Z.g1 ?_
  refine Z.only [1, 5, 7, 8] rfl ?_
  refine Z.g95 ?_
  refine Z.only [1, 5, 7, 36] rfl ?_
  refine Z.g347 ?_
  refine Z.cond rfl (fun h => absurd h Z.b22) (fun hc5 => ?_)
  refine Z.g122 ?_
  refine Z.g3 ?_
  refine Z.ZO.empty rfl rfl (by rfl) Tryz.underlying48 Tryz.sizeOf5 hs ?_
  clear hs; intro g42 w42 hs
  refine Z.g32 ?_
  refine Z.ZO.appendG (i0 := Tryz.t5) (size := 1) (bytes := 1) rfl rfl (by rfl) hs Tryz.underlying48 Z.b4 rfl rfl rfl rfl Z.b13 rfl rfl Z.b1 (hB.st (hs.sub (List.nil_sublist _))) Z.b63 Z.b71 Z.b23 Z.b10 ?_
  clear hs; intro v44 w44 hs
  simp only [List.set_cons_zero, List.set_cons_succ] at hs
  simp only [Nat.zero_add, List.nil_append] at hs
  refine Z.g1 ?_
  refine Z.only [1, 5, 7, 9] rfl ?_
  refine Z.g30 ?_
  refine Z.g19 ?_
  obtain ⟨Ao, co, rfl, hco, -, -⟩ := SX.row_slv hs (j := 0) rfl
  refine Z.g3 ?_
  refine Z.ZO.call rfl rfl (by rfl) rfl rfl Tryz.call17 rfl (mx_receive g gb m Ao l.length co l _ (en_of (gr := gr) (C := C) (kc := kc) (sv := sv) (so := so) hs (fun e he ↦ by simp [he])) hm (hs.slm Z.b0) rfl Z.b10 hby) ?_
  rintro v8_2 w8_2 ⟨s0, s1, s2, s3, xs, qs, rfl, hxp, hxm, hy⟩
  replace hs := Z.w1 (hs.call hy); clear hy
  obtain ⟨E0, f0, rfl, -, -, -⟩ := SX.row_slv hs (j := 0) rfl
  obtain ⟨E1, f1, rfl, -, -, -⟩ := SX.row_slv hs (j := 1) rfl
  obtain ⟨E2, f2, rfl, -, -, -⟩ := SX.row_slv hs (j := 2) rfl
  obtain ⟨E3, f3, rfl, -, -, -⟩ := SX.row_slv hs (j := 3) rfl
  refine Z.g310 ?_
  refine Z.g227 ?_
  clear hs; intro g10 w10 hs
  refine Z.g123 ?_
  clear hs; intro ws hs
  replace hs := Z.w0 hs
  replace hs := Z.w3 hs
  refine Z.g1 ?_
  refine Z.only [1, 7, 9, 10, 11] rfl ?_
  refine Z.g30 ?_
  refine Z.l rfl rfl (by rfl) (Z.keepS hs) (Z.Yd.loadA _ rfl Tryz.isAgg41 (fun _ => Z.cellsB (cs := [.slice Ra m.b.l.length ca, .slice Rb m.b.l.length cb, .int .i64 m.b.now, .bool m.up, .int .i64 m.r.c0, .int .i64 m.r.c1, .int .i64 m.r.c2, .int .i64 m.r.c3, .int .i64 m.r.now, .int .i64 m.r.b0, .int .i64 m.r.b1, .int .i64 m.r.b2, .int .i64 m.r.b3, .int .i64 m.r.head, .bool m.r.reg, .bool m.r.per, .bool m.r.pow, .bool m.r.fst, .int .i64 m.r.last, .int .i64 m.r.lastP, .int .i64 m.r.told, .int .i64 m.last]) Z.b0) (by exact Tryz.sizeOf41)) ?_
  refine Z.g32 ?_
  refine Z.ZO.call rfl rfl (by rfl) rfl rfl Tryz.call22 rfl (rx_receive Ra ca Rb cb m B l.length cb2 l _ (by rw [hbll]; exact hs.slm (T := 75) Z.b0) (hs.slm (T := 3) (A := Rb) Z.b0) hm (hB.st (hs.sub (List.nil_sublist _))) rfl Z.b10 hbc hby) ?_
  rintro v9_2 w9_2 ⟨t0, t1, t2, t3, ys, rfl, hyp, hyq, hy⟩
  replace hs := Z.w1 (hs.call hy); clear hy
  obtain ⟨G0, k0, rfl, -, -, -⟩ := SX.row_slv hs (j := 0) rfl
  obtain ⟨G1, k1, rfl, -, -, -⟩ := SX.row_slv hs (j := 1) rfl
  obtain ⟨G2, k2, rfl, -, -, -⟩ := SX.row_slv hs (j := 2) rfl
  obtain ⟨G3, k3, rfl, -, -, -⟩ := SX.row_slv hs (j := 3) rfl
  refine Z.g310 ?_
  refine Z.g227 ?_
  clear hs; intro g12 w12 hs
  refine Z.g123 ?_
  clear hs; intro ws hs
  replace hs := Z.w0 hs
  replace hs := Z.w3 hs
  refine Z.g1 ?_
  refine Z.only [1, 9, 10, 11, 12, 13] rfl ?_
  refine Z.g124 ?_
  refine Z.l rfl rfl (by rfl) (Z.keepS hs) (Z.Yd.b2s rfl Tryz.underlying48 Tryz.underlying5 Tryz.underlying9 rfl (fun W hW => by obtain ⟨L', hR', hsub⟩ := hW; exact hR'.slm (hsub _ Z.b0))) ?_
  refine Z.g93 ?_
  refine Z.l rfl rfl (by rfl) (Z.keepS hs) (Z.Yd.b2s rfl Tryz.underlying48 Tryz.underlying5 Tryz.underlying9 rfl (fun W hW => by obtain ⟨R, hR, _⟩ := hW; exact hB.st (hR.sub (List.nil_sublist _)))) ?_
  refine Z.l rfl rfl (by rfl) (Z.keepS hs) (Z.Yd.bin rfl rfl Z.b77) ?_
  refine Z.g348 ?_
  refine Z.only [9, 10, 11, 12, 13, 61] rfl ?_
  refine Z.g347 ?_
  refine Z.cond rfl (fun h => absurd h Z.b22) (fun hc10 => ?_)
  refine Z.g215 ?_
  replace hs := St.front1 (A := [_, _, _, _, _, _, _, _, _, _]) (Q := rowsQ qs) hs
  refine Z.g292 ?_
  refine Z.only [9, 10, 11, 12, 13, 14] rfl ?_
  refine Z.g180 ?_
  refine Z.loopk (ι := Nat × List Int) [9, 10, 11, 12, 13] rfl (fun z => [(14, [], .int .i64 (z.1 : Int))]) (fun z wr => (z.1 ≤ l.length ∧ z.2.length = l.length) ∧ SX.St w [] wr (SX.Ent.row (.slice Ao l.length co) 5 1 l.length (ints .u8 z.2) :: SX.Ent.blk g12 61 #[.slice G0 ys.length k0, .slice G1 (recV m l).2.rp.length k1, .slice G2 (recV m l).2.pw.length k2, .slice G3 (recV m l).2.id.length k3] :: SX.Ent.row (.slice G0 ys.length k0) 77 2 ys.length (ys.flatMap MpV.cells) :: SX.Ent.row (.slice G1 (recV m l).2.rp.length k1) 86 6 (recV m l).2.rp.length ((recV m l).2.rp.flatMap RepV.cells) :: SX.Ent.row (.slice G2 (recV m l).2.pw.length k2) 3 1 (recV m l).2.pw.length (ints .i64 (recV m l).2.pw) :: SX.Ent.row (.slice G3 (recV m l).2.id.length k3) 123 1 (recV m l).2.id.length (ints .u64 (recV m l).2.id) :: SX.Ent.blk g10 61 #[.slice E0 xs.length f0, .slice E1 (recV m l).2.rp.length f1, .slice E2 (recV m l).2.pw.length f2, .slice E3 (recV m l).2.id.length f3] :: SX.Ent.row (.slice E0 xs.length f0) 77 2 xs.length (xs.flatMap MpV.cells) :: SX.Ent.row (.slice E1 (recV m l).2.rp.length f1) 86 6 (recV m l).2.rp.length ((recV m l).2.rp.flatMap RepV.cells) :: SX.Ent.row (.slice E2 (recV m l).2.pw.length f2) 3 1 (recV m l).2.pw.length (ints .i64 (recV m l).2.pw) :: SX.Ent.row (.slice E3 (recV m l).2.id.length f3) 123 1 (recV m l).2.id.length (ints .u64 (recV m l).2.id) :: rowsQ qs)) (fun z => l.length - z.1) (0, l) Z.b6 ⟨⟨Nat.zero_le _, rfl⟩, hs⟩ ?_
  clear hs
  rintro ⟨i, zl⟩ w13 ⟨⟨hi, hzl⟩, hs⟩
  refine Z.only [9, 10, 11, 12, 13, 14] rfl ?_
  (try dsimp only at hs)
  dsimp only at hi hzl hs
  refine Z.g259 ?_
  refine Z.g19 ?_
  refine Z.g20 ?_
  refine Z.g1 ?_
  refine Z.only [9, 10, 11, 12, 13, 14, 65] rfl ?_
  refine Z.g347 ?_
  refine Z.cond rfl (fun hc13 => ?_) (fun hc13 => ?_)
  · (try simp at hc13)
    obtain ⟨go, ko, eo, -, -⟩ := row_form (j := 0) hs rfl Z.b10
    cases eo
    refine Z.g91 ?_
    refine Z.g230 ?_
    refine Z.g19 ?_
    refine Z.g41 ?_
    refine Z.l rfl rfl (by rfl) (Z.keepS hs) (by exact Z.Yd.load rfl Tryz.isAgg5 (fun hG => Z.cellR Z.b0 (Z.ints_at Z.b3 Z.b3))) ?_
    refine Z.l rfl rfl (by rfl) (Z.keepS hs) (Z.Yd.add rfl rfl (fun _ => rfl)) ?_
    refine Z.g41 ?_
    refine Z.g3 ?_
    refine Z.ZO.storeR rfl rfl hs Tryz.sizeOf5 rfl rfl rfl Z.b1 Z.b43 ?_
    clear hs; intro ws hs
    replace hs := Z.w0 hs
    refine Z.g348 ?_
    refine Z.only [9, 10, 11, 12, 13, 14] rfl ?_
    refine Z.nblock ?_
    refine Z.g347 ?_
    refine Z.g62 ?_
    refine Z.only [9, 10, 11, 12, 13, 14] rfl ?_
    refine Z.g347 ?_
    rw [iset9] at hs
    exact Z.again (i + 1, _) Z.b36 ⟨⟨by simp only; omega, by simp only [List.length_set]; exact hzl⟩, hs⟩ Z.b21
  (try simp at hc13)
  refine Z.g211 ?_
  refine Z.l rfl rfl (by rfl) (Z.keepS hs) (Z.Yd.loadA _ rfl Tryz.isAgg61 (fun _ => Z.cellsB (cs := [.slice E0 xs.length f0, .slice E1 (recV m l).2.rp.length f1, .slice E2 (recV m l).2.pw.length f2, .slice E3 (recV m l).2.id.length f3]) Z.b0) (by exact Tryz.sizeOf61)) ?_
  refine Z.l rfl rfl (by rfl) (Z.keepS hs) (Z.Yd.loadA _ rfl Tryz.isAgg61 (fun _ => Z.cellsB (cs := [.slice G0 ys.length k0, .slice G1 (recV m l).2.rp.length k1, .slice G2 (recV m l).2.pw.length k2, .slice G3 (recV m l).2.id.length k3]) Z.b0) (by exact Tryz.sizeOf61)) ?_
  refine Z.g3 ?_
  refine Z.ZO.call rfl rfl (by rfl) rfl rfl Tryz.call20 rfl (ct_same _ _ xs ys (recV m l).2 (recV m l).2 _ (rec_ctq (s0 := .slice E0 xs.length f0) (s1 := .slice E1 (recV m l).2.rp.length f1) (s2 := .slice E2 (recV m l).2.pw.length f2) (s3 := .slice E3 (recV m l).2.id.length f3) hby hs hxp hxm (fun e he ↦ by simp only [List.cons_append, List.nil_append, List.mem_cons] at he; rcases he with h | h | h | h | h <;> simp [h])) (rx_ctq (A := B) (s0 := .slice G0 ys.length k0) (s1 := .slice G1 (recV m l).2.rp.length k1) (s2 := .slice G2 (recV m l).2.pw.length k2) (s3 := .slice G3 (recV m l).2.id.length k3) hby hs hyp hyq (hB.st (hs.sub (List.nil_sublist _))) (fun e he ↦ by simp only [List.mem_cons, List.mem_nil_iff, or_false] at he; rcases he with h | h | h | h <;> simp [h])) (ct_bd hxp)) ?_
  rintro v16_2 w16_2 ⟨rfl, hy⟩
  replace hs := Z.w1 (hs.call hy); clear hy
  rw [decide_eq_true (sameC_refl _)]
  refine Z.g93 ?_
  refine Z.yes (s := 77) (b := true) rfl (rfl) rfl ?_
  refine Z.g93 ?_
  refine Z.yes (s := 77) (b := true) rfl rfl rfl ?_
  refine Z.g142 ?_
  refine Z.g149 ?_
  rintro v16_5 w16_5 ⟨rfl, hy⟩
  replace hs := Z.w1 (hs.call hy); clear hy
  refine Z.g19 ?_
  refine Z.yes (s := 77) (b := true) rfl rfl rfl ?_
  refine Z.g275 ?_
  refine Z.yes (s := 83) (b := true) rfl (Z.b22) rfl ?_
  refine Z.g142 ?_
  refine Z.ZO.call rfl rfl (by rfl) rfl rfl Tryz.call10 rfl (works29 _) ?_
  rintro v16_10 w16_10 ⟨rfl, hy⟩
  replace hs := Z.w1 (hs.call hy); clear hy
  refine Z.g16 ?_
  refine Z.g217 ?_
  refine Z.g52 ?_
  exact ⟨_, rfl, by simp, hs.sub (List.nil_sublist _)⟩
theorem macReceives_rd (cs0 : Array Value) (a1 : Option Addr) (len1 cap1 : Nat) (w : World) (z0 : Rd Tryz.prog w 26 (Value.agg cs0).cells.toList) (z1 : Rd Tryz.prog w 48 (Value.slice a1 len1 cap1).cells.toList) :
    Calls Tryz.prog 5 #[.agg cs0, .slice a1 len1 cap1] w fun e w' => e = .returned (.bool true) ∧ Below w.heap.size w w' := by
  obtain ⟨A, n, k, a, b, c, d, up, ls, hr, h1, h2, h3, h4⟩ := rd_cfg29 z0
  have e : cs0 = #[.slice A n k, .int .i64 a, .int .i64 b, .int .i64 c, .int .i64 d, .bool up] := by
    have : cs0.toList = [.slice A n k, .int .i64 a, .int .i64 b, .int .i64 c, .int .i64 d, .bool up] := by simpa [Value.cells] using hr
    exact Array.toList_inj.1 this
  rw [e]
  obtain ⟨l, k1, k2, k3, k4, k5⟩ := Rb.rd_bytes (show Rd Tryz.prog w 48 [.slice a1 len1 cap1] by simpa [Value.cells] using z1)
  have key : Calls Tryz.prog 5 #[cfgV A n k a b c d up, .slice a1 len1 cap1] w (SX.Ret fun v w' => v = .bool true ∧ SX.St w [] w' []) := by
    by_cases h : okN9 ls a b c d
    · exact receives_ok A n k a b c d up a1 len1 cap1 ls l w h4 h1 h2 Z.b10 Z.b10 k5 k1 k2 k4 h
    exact receives_bad A n k a b c d up a1 len1 cap1 ls w h4 h1 h2 Z.b10 Z.b10 h
  refine key.mono ?_
  rintro e w' ⟨v, rfl, rfl, h⟩
  exact ⟨rfl, h.below⟩
end Go.Proofs.YtbojkoiopkaciaaGreat
