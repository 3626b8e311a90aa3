/- The walks of TapeJoins, part H: the reference of layer 25: Join, at every pieces (at most 5, of at most 40 turns). -/
import Derived.Test.YtlpfjlmeohaagaaF
import Derived.Test.YtlpfjlmeohaagaaG
import Derived.Test.YtlpfjlmeohaagaaPTapeJoinsx6
import Derived.StillTailTactics
namespace Go.Proofs.Ytlpfjlmeohaagaa
open Go.RowKit Go.Shelf Go.Proofs.Ytlpfjlmeohaagaa.PTapeJoins Go.Proofs.YtlpfjlmeohaagaaW.PrintWords
set_option linter.unusedVariables false
set_option linter.unusedSimpArgs false

/-- A world later than wr: what lay there lies as it lay. -/
structure Later (wr : World) where
  W : World
  h : Below wr.heap.size wr W

/-- A region that draws and only reads, calls that make memory among its operations: one walk in the text's order. -/
theorem wp_region_later {P : Program} {id : Nat} {Q : Exit → Act → World → Prop} {a : Act} {w : World} {l : List Oper} (hm : P.follows .mixedOrders = true) (hB : Region.lexB .any l.toArray = true)
    (h : wpQuiet P l.toArray (fun w' => ∃ x : Later w, w' = x.W) (fun a' => ∀ w', (∃ x : Later w, w' = x.W) → Q .normal a' w') l a) : (Code.region id l.toArray true).wp P Q a w :=
  wp_region_quiet (C := fun w' => ∃ x : Later w, w' = x.W) hm hB ⟨⟨w.drew, (Below.refl _ _).drew⟩, rfl⟩ (by simpa using h)

theorem refput_f (l : List S42) (a b : Int) (hl : l.length ≤ 1000000) : warpref25_put.f l a b = some (putL l a b) := by
  unfold warpref25_put.f
  simp only [Option.bind_some, List.nil_append, List.length_nil]
  rw [if_pos (by omega)]
  cases hy : l.getLast? with
  | none =>
    have : l = [] := by simpa using hy
    subst this
    simp [putL]
  | some y =>
    have hpos : 0 < l.length := by cases l with
      | nil => simp at hy
      | cons => simp
    have hw : wrap64 ((l.length : Int) - 1) = (l.length : Int) - 1 := by unfold wrap64; omega
    have hrd : rd_T42 l ((l.length : Int) - 1) = y := by
      rw [List.getLast?_eq_getElem?] at hy
      unfold rd_T42
      rw [show ((l.length : Int) - 1).toNat = l.length - 1 by omega]
      simp [hy]
    rw [if_pos (by omega), hw, if_pos (by omega), if_pos (by omega), hrd]
    by_cases he : y.f0 = a
    · rw [if_pos he]
      simp only [putL, hy, he, if_true]
      congr 1
      rw [show ((l.length : Int) - 1).toNat = l.length - 1 by omega]
      have hl2 : l = l.dropLast ++ [y] := by
        have h1 : l ≠ [] := List.length_pos_iff.1 hpos
        have h2 : l.getLast h1 = y := by
          rw [List.getLast?_eq_some_getLast h1] at hy
          exact Option.some.inj hy
        rw [← h2]
        exact (List.dropLast_concat_getLast h1).symm
      have hn : (l.length - 1) = l.dropLast.length := by simp
      rw [hn]
      conv => lhs; rw [hl2]
      rw [List.set_append_right _ _ (by simp)]
      simp [Int.add_comm]
    · rw [if_neg he, if_pos (by omega)]
      simp [putL, hy, he]

theorem put22 (A : Option Addr) (c : Nat) (l : List S42) (a b : Int) (w : World) (hC : Kd.C k42 w A l.length l) (hc : l.length ≤ c) (hl : l.length ≤ 1000000) :
    Calls Try.prog 22 #[.slice A l.length c, .int .i64 a, .int .i64 b] w fun e w' => (∃ A' c', e = .returned (.slice A' (putL l a b).length c') ∧ (putL l a b).length ≤ c' ∧ Kd.F k42 w' (fun k => w.heap.size ≤ k) A' (putL l a b).length (putL l a b)) ∧ Below w.heap.size w w' :=
  (warpref25_put.calls A c l a b _ w hC hc (refput_f l a b hl)).mono fun e w' ⟨v, he, hR, hb⟩ => by
    obtain ⟨A', c', rfl, h1, h2⟩ := Kd.R_reads hR
    exact ⟨⟨A', c', he, h1, Kd.R_F (Kd.R_mono (Kd.R_bound hR) (fun k hk => hk.2.1))⟩, hb⟩

theorem okT_get (l : List S42) : ∀ (all last : Int), 0 ≤ all → okT l all last = true → ∀ i, i < l.length → 0 ≤ (rd_T42 l (i : Nat)).f1 ∧ (rd_T42 l (i : Nat)).f1 ≤ 2147483647 := by
  induction l with
  | nil => intro _ _ _ _ i hi; simp at hi
  | cons x l ih =>
    intro all last h0 h i hi
    simp only [okT, Bool.and_eq_true] at h
    obtain ⟨_, h2, _, h3⟩ := h
    have h4 := wi_iff.1 h2
    cases i with
    | zero => simp only [rd_T42]; simp; omega
    | succ i =>
      have := ih (all + x.f1) x.f0 (by omega) h3 i (by simpa using hi)
      simpa [rd_T42] using this

def refT : List S42 → Int → List S42 → Option (Int × List S42)
  | [], m, acc => some (m, acc)
  | x :: l, m, acc => if m + x.f1 ≤ 2147483647 then refT l (m + x.f1) (putL acc x.f0 x.f1) else none

def refL : List S32 → Int → List S42 → Option (List S42)
  | [], _, acc => some acc
  | p :: l, m, acc => match refT p.f1 m acc with
    | none => none
    | some r => refL l r.1 r.2

def refR (ps : List S32) : S32 × Int :=
  if ps = [] then (z32, 2) else if allOk ps = true then
    match refL ps 0 [] with
    | none => (z32, 3)
    | some acc => if okB ⟨(rd_T32 ps 0).f0, acc, (rd_T32 ps ((ps.length : Int) - 1)).f2⟩ = true then (⟨(rd_T32 ps 0).f0, acc, (rd_T32 ps ((ps.length : Int) - 1)).f2⟩, 0) else (z32, 3)
  else (z32, 2)

def RefPost (w : World) (r : S32) (err : Int) (e : Ending) (w' : World) : Prop :=
  ∃ A c, e = .returned (.tuple #[.agg #[.int .u32 r.f0, .slice A r.f1.length c, .int .i64 r.f2.f0, .int .i64 r.f2.f1, .int .i64 r.f2.f2, .int .i64 r.f2.f3], .int .i64 err]) ∧ r.f1.length ≤ c ∧ Kd.C k42 w' A r.f1.length r.f1 ∧ Below w.heap.size w w'
def RefEnds (w : World) (ps : List S32) (e : Ending) (w' : World) : Prop := RefPost w (refR ps).1 (refR ps).2 e w'

theorem results7 (W : World) (bo : Nat) (c0 c1 c2 c3 c4 c5 : Value) (tmps : Array Value) (v3 : Value)
    (ho : W.heap[bo]? = some (.cells #[c0, c1, c2, c3, c4, c5] 32 (0, 0)))
    (t2 : tmps[2]? = some (.pointer (some ⟨bo, 0, none⟩))) (t3 : tmps[3]? = some v3) :
    (results Try.f7 tmps).run Try.prog W = .ok (.tuple #[.agg #[c0, c1, c2, c3, c4, c5], v3]) W := by
  have k0 : W.cell? ⟨bo, 0, none⟩ = some c0 := blk_cell ho 0
  have k1 : W.cell? ⟨bo, 1, none⟩ = some c1 := blk_cell ho 1
  have k2 : W.cell? ⟨bo, 2, none⟩ = some c2 := blk_cell ho 2
  have k3 : W.cell? ⟨bo, 3, none⟩ = some c3 := blk_cell ho 3
  have k4 : W.cell? ⟨bo, 4, none⟩ = some c4 := blk_cell ho 4
  have k5 : W.cell? ⟨bo, 5, none⟩ = some c5 := blk_cell ho 5
  clear ho
  simp [results, Try.results7, go_sem, t2, t3, k0, k1, k2, k3, k4, k5]

/-- The reference gives up: behind the store of a zero result. -/
theorem ref_fails (w W : World) (ps : List S32) (n : Int) (c0 c1 c2 c3 c4 c5 : Value) (tmps : Array Value) (hB : Below w.heap.size w W)
    (ho : W.heap[w.heap.size]? = some (.cells #[c0, c1, c2, c3, c4, c5] 32 (0, 0))) (hr : refR ps = (z32, n))
    (t2 : tmps[2]? = some (.pointer (some ⟨w.heap.size, 0, none⟩))) (t3 : tmps[3]? = some (.int .i64 n)) :
    bodyPost Try.prog Try.f7 (RefEnds w ps) .ret { tmps := tmps, defers := [] }
      ((((((W.setCell ⟨w.heap.size, 0, none⟩ (.int .u32 0)).setCell ⟨w.heap.size, 1, none⟩ (.slice none 0 0)).setCell ⟨w.heap.size, 2, none⟩ (.int .i64 0)).setCell ⟨w.heap.size, 3, none⟩ (.int .i64 0)).setCell ⟨w.heap.size, 4, none⟩ (.int .i64 0)).setCell ⟨w.heap.size, 5, none⟩ (.int .i64 0)) := by
  have h := blk_set (blk_set (blk_set (blk_set (blk_set (blk_set ho 0 (.int .u32 0)) 1 (.slice none 0 0)) 2 (.int .i64 0)) 3 (.int .i64 0)) 4 (.int .i64 0)) 5 (.int .i64 0)
  refine bodyPost_ret (results7 _ w.heap.size (.int .u32 0) (.slice none 0 0) (.int .i64 0) (.int .i64 0) (.int .i64 0) (.int .i64 0) tmps _ (by simpa using h) t2 t3) rfl ?_
  unfold RefEnds
  rw [hr]
  refine ⟨none, 0, rfl, Nat.le_refl _, Kd.C_nil _ _, ?_⟩
  repeat (refine Below.setCell ?_ (by simp) _)
  exact hB

set_option maxRecDepth 100000 in
set_option maxHeartbeats 4000000 in
theorem ref_some (A : Option Addr) (c : Nat) (ps : List S32) (w : World) (hC : Kd.C k32 w A ps.length ps) (hpos : 0 < ps.length) (hlen : ps.length ≤ 5) (hfew : ∀ i : Nat, i < ps.length → (rd_T32 ps i).f1.length ≤ 40) :
    Calls Try.prog 7 #[.slice A ps.length c] w (RefEnds w ps) := by
  have hne : ps ≠ [] := List.length_pos_iff.1 hpos
  have hd : (ps.length == 0) = false := beq_eq_false_iff_ne.2 (by omega)
  have hd' : ((ps.length : Int) == 0) = false := beq_eq_false_iff_ne.2 (by omega)
  obtain ⟨j, hj⟩ : ∃ j, (ps.length : Int) - 1 = j := ⟨_, rfl⟩
  have j0 : 0 ≤ j := by omega
  have j1 : j < (ps.length : Int) := by omega
  have hw : IntKind.i64.wrap ((ps.length : Int) - 1) = j := by rw [hj]; exact IntWalk.i64_in _ (by omega)
  have hw' : wrap64 ((ps.length : Int) - 1) = j := by rw [hj]; unfold wrap64; omega
  have HC := Lib.hid hC
  have HJ := Lib.hid hj
  clear hC hj
  go_enter Try.func7, Try.ntmps7
  go_wp2
  obtain ⟨W1, hW1⟩ : ∃ W1, (w.alloc (.cells #[.int .u32 0, .slice none 0 0, .int .i64 0, .int .i64 0, .int .i64 0, .int .i64 0] 32)) = W1 := ⟨_, rfl⟩
  have hb1 : Below w.heap.size w W1 := by rw [← hW1]; exact ((Below.refl _ w).alloc (Nat.le_refl _) _)
  have ho1 : W1.heap[w.heap.size]? = some (.cells #[.int .u32 0, .slice none 0 0, .int .i64 0, .int .i64 0, .int .i64 0, .int .i64 0] 32 (0, 0)) := by rw [← hW1]; exact (blk_new w _)
  have hz1 : W1.heap.size = w.heap.size + 1 := by rw [← hW1]; simp
  rw [hW1]
  clear hW1
  obtain ⟨ad, A1, c1, hA, x0, x1, x2, x3, x4, x5, _, _, hlt⟩ := piece HC.out hb1 0 (by omega) (by omega)
  obtain ⟨ad', A2, c2, hA', y0, y1, y2, y3, y4, y5, _, _, _⟩ := piece HC.out hb1 j j0 j1
  subst hA
  injection hA' with hA'
  subst hA'
  rw [show ad.add (Int.toNat 0 * 6) = ad from addr_add0' ad] at x0 x1 x2 x3 x4 x5
  have y3' : W1.cell? ⟨(ad.add (j.toNat * 6)).block, (ad.add (j.toNat * 6)).off + 2 + 1, none⟩ = some (.int .i64 (rd_T32 ps j).f2.f1) := y3
  have y4' : W1.cell? ⟨(ad.add (j.toNat * 6)).block, (ad.add (j.toNat * 6)).off + 2 + 2, none⟩ = some (.int .i64 (rd_T32 ps j).f2.f2) := y4
  have y5' : W1.cell? ⟨(ad.add (j.toNat * 6)).block, (ad.add (j.toNat * 6)).off + 2 + 3, none⟩ = some (.int .i64 (rd_T32 ps j).f2.f3) := y5
  have HO1 := Lib.hid ho1
  have HB1 := Lib.hid hb1
  have HZ1 := Lib.hid hz1
  clear ho1 hb1 y0 y1 y3 y4 y5 x1 x2 x3 x4 x5 hlt hz1
  go_cut [4] from 13 to 24 (fun v4 W => v4 = .pointer (some ⟨w.heap.size + 1, 0, none⟩) ∧ W.heap[w.heap.size]? = some (.cells #[.int .u32 0, .slice none 0 0, .int .i64 0, .int .i64 0, .int .i64 0, .int .i64 0] 32 (0, 0)) ∧ W.heap[w.heap.size + 1]? = some (.cells #[.int .u32 (rd_T32 ps 0).f0, .slice none 0 0, .int .i64 (rd_T32 ps j).f2.f0, .int .i64 (rd_T32 ps j).f2.f1, .int .i64 (rd_T32 ps j).f2.f2, .int .i64 (rd_T32 ps j).f2.f3] 32 (0, 0)) ∧ Below w.heap.size w W)
  case first =>
    go_region_held3 (fun w' => w'.cell? ad = some (.int .u32 (rd_T32 ps 0).f0) ∧ w'.cell? ⟨(ad.add (j.toNat * 6)).block, (ad.add (j.toNat * 6)).off + 2, none⟩ = some (.int .i64 (rd_T32 ps j).f2.f0) ∧ w'.cell? ⟨(ad.add (j.toNat * 6)).block, (ad.add (j.toNat * 6)).off + 2 + 1, none⟩ = some (.int .i64 (rd_T32 ps j).f2.f1) ∧ w'.cell? ⟨(ad.add (j.toNat * 6)).block, (ad.add (j.toNat * 6)).off + 2 + 2, none⟩ = some (.int .i64 (rd_T32 ps j).f2.f2) ∧ w'.cell? ⟨(ad.add (j.toNat * 6)).block, (ad.add (j.toNat * 6)).off + 2 + 3, none⟩ = some (.int .i64 (rd_T32 ps j).f2.f3)) (go_keep) (first | fail)
    all_goals (go_wp2_with fail; go_meet)
    refine ⟨by rw [← HZ1.out], ?_, ?_, below_drew (HB1.out.alloc HB1.out.size _)⟩
    · exact blk_drew (blk_alloc HO1.out _)
    · have h := blk_drew (blk_new W1 (.cells #[.int .u32 (rd_T32 ps 0).f0, .slice none 0 0, .int .i64 (rd_T32 ps j).f2.f0, .int .i64 (rd_T32 ps j).f2.f1, .int .i64 (rd_T32 ps j).f2.f2, .int .i64 (rd_T32 ps j).f2.f3] 32))
      rw [HZ1.out] at h
      exact h
  case rest =>
    clear x0 y2 y3' y4' y5' HO1 HB1 HZ1
    obtain ⟨rfl, hcut⟩ := hcut
    have HCUT := Lib.hid hcut
    clear hcut
    go_wp2
    go_loopw [5] (fun v5 wr => ∃ k : Nat, k ≤ ps.length ∧ v5 = .int .i64 k ∧ (∀ i : Nat, i < k → pieceOk ps i = true) ∧ (wr.heap[w.heap.size]? = some (.cells #[.int .u32 0, .slice none 0 0, .int .i64 0, .int .i64 0, .int .i64 0, .int .i64 0] 32 (0, 0)) ∧ wr.heap[w.heap.size + 1]? = some (.cells #[.int .u32 (rd_T32 ps 0).f0, .slice none 0 0, .int .i64 (rd_T32 ps j).f2.f0, .int .i64 (rd_T32 ps j).f2.f1, .int .i64 (rd_T32 ps j).f2.f2, .int .i64 (rd_T32 ps j).f2.f3] 32 (0, 0)) ∧ Below w.heap.size w wr))
      (fun v5 _ => ps.length - (intOf v5).toNat)
    case atStart => exact ⟨0, Nat.zero_le _, rfl, fun i hi => absurd hi (Nat.not_lt_zero i), HCUT.out⟩
    case round =>
      obtain ⟨k, hk, rfl, hall, ho, he, hb⟩ := hrel
      by_cases hlt : k < ps.length
      · obtain ⟨ad', A1, c1, hA', x0, x1, x2, x3, x4, x5, hc1, hF, _⟩ := piece HC.out hb (k : Int) (by omega) (by omega)
        injection hA' with hA'
        subst hA'
        obtain ⟨p, hp⟩ : ∃ p, rd_T32 ps (k : Int) = p := ⟨_, rfl⟩
        have hpk : pieceOk ps (k : Int) = (okB p && ((p.f0 == (rd_T32 ps 0).f0) && (((k : Int) == (ps.length : Int) - 1) || (p.f2.f0 == 1)))) := by unfold pieceOk; rw [hp]
        rw [hp] at x0 x1 x2 x3 x4 x5 hc1 hF
        simp only [Int.toNat_natCast] at x0 x1 x2 x3 x4 x5
        clear hp
        have hs : w.heap.size < wr.heap.size := blk_lt ho
        have hs1 : w.heap.size + 1 < wr.heap.size := blk_lt he
        have z0 : wr.cell? ⟨w.heap.size + 1, 0, none⟩ = _ := blk_cell he 0
        simp at z0
        have nex : Nonempty (Later wr) := ⟨⟨wr, Below.refl _ _⟩⟩
        have q0 : ∀ x : Later wr, x.W.cell? (ad.add (k * 6)) = some (.int .u32 p.f0) := fun x => pw_cell_below x.h x0
        have q1 : ∀ x : Later wr, x.W.cell? ⟨(ad.add (k * 6)).block, (ad.add (k * 6)).off + 1, none⟩ = some (.slice A1 p.f1.length c1) := fun x => pw_cell_below x.h x1
        have q2 : ∀ x : Later wr, x.W.cell? ⟨(ad.add (k * 6)).block, (ad.add (k * 6)).off + 2, none⟩ = some (.int .i64 p.f2.f0) := fun x => pw_cell_below x.h x2
        have q3 : ∀ x : Later wr, x.W.cell? ⟨(ad.add (k * 6)).block, (ad.add (k * 6)).off + 3, none⟩ = some (.int .i64 p.f2.f1) := fun x => pw_cell_below x.h x3
        have q4 : ∀ x : Later wr, x.W.cell? ⟨(ad.add (k * 6)).block, (ad.add (k * 6)).off + 4, none⟩ = some (.int .i64 p.f2.f2) := fun x => pw_cell_below x.h x4
        have q5 : ∀ x : Later wr, x.W.cell? ⟨(ad.add (k * 6)).block, (ad.add (k * 6)).off + 5, none⟩ = some (.int .i64 p.f2.f3) := fun x => pw_cell_below x.h x5
        have r0 : ∀ x : Later wr, x.W.cell? ⟨w.heap.size + 1, 0, none⟩ = some (.int .u32 (rd_T32 ps 0).f0) := fun x => pw_cell_below x.h z0
        have K21 : ∀ (v : Int), chkV (okB p) = v → ∀ x : Later wr, Calls Try.prog 21 #[.agg #[.int .u32 p.f0, .slice A1 p.f1.length c1, .int .i64 p.f2.f0, .int .i64 p.f2.f1, .int .i64 p.f2.f2, .int .i64 p.f2.f3]] x.W fun e w'' => e = .returned (.int .i64 v) ∧ ∃ y : Later wr, w'' = y.W := fun v hv x =>
          (check21 p A1 c1 x.W (Kd.F_now (Kd.F_below hF x.h)) hc1).mono fun e w'' h => ⟨by rw [← hv]; exact h.1, ⟨w'', x.h.trans (h.2.mono x.h.size)⟩, rfl⟩
        have HK := Lib.hid K21
        have HPK := Lib.hid hpk
        have HALL := Lib.hid hall
        have HH := Lib.hid (And.intro ho (And.intro he hb))
        clear hF hc1 hpk hall ho he hb K21
        have hfacts : ∀ x : Later wr, x.W.heap[w.heap.size]? = some (.cells #[.int .u32 0, .slice none 0 0, .int .i64 0, .int .i64 0, .int .i64 0, .int .i64 0] 32 (0, 0)) ∧ x.W.heap[w.heap.size + 1]? = some (.cells #[.int .u32 (rd_T32 ps 0).f0, .slice none 0 0, .int .i64 (rd_T32 ps j).f2.f0, .int .i64 (rd_T32 ps j).f2.f1, .int .i64 (rd_T32 ps j).f2.f2, .int .i64 (rd_T32 ps j).f2.f3] 32 (0, 0)) ∧ Below w.heap.size w x.W := fun x => ⟨blk_below HH.out.1 x.h, blk_below HH.out.2.1 x.h, HH.out.2.2.trans (x.h.mono HH.out.2.2.size)⟩
        have HFACTS := Lib.hid hfacts
        clear hfacts
        by_cases e1 : okB p = true
        · have HK2 := Lib.hid (HK.out 0 (by rw [e1]; rfl))
          clear HK
          by_cases e2 : (p.f0 == (rd_T32 ps 0).f0) = true
          · have e2' : (p.f0 != (rd_T32 ps 0).f0) = false := by simpa using e2
            by_cases e3 : k + 1 = ps.length
            · have hone : pieceOk ps (k : Int) = true := by rw [HPK.out, e1, e2]; simp; left; omega
              have HONE := Lib.hid hone
              have e4 : decide ((k : Int) < j) = false := decide_eq_false (by have := HJ.out; omega)
              clear hone e2
              go_wp2
              refine wp_region_later (by kernel_rfl) (by kernel_rfl) ?_
              repeat (go_big_quiet_step (exact HK2.out _))
              refine wpQuiet_nil ?_
              rintro _ ⟨x, rfl⟩
              go_wp2
              go_roundw
              case rel => exact ⟨k + 1, by omega, by go_num, fun i hi => by rcases Nat.lt_succ_iff_lt_or_eq.1 hi with h | rfl; exact HALL.out i h; exact HONE.out, HFACTS.out x⟩
              case measure => simp [intOf]; omega
            · have e4 : decide ((k : Int) < j) = true := decide_eq_true (by have := HJ.out; omega)
              have e4' : ((k : Int) == (ps.length : Int) - 1) = false := beq_eq_false_iff_ne.2 (by omega)
              by_cases e5 : (p.f2.f0 == 1) = true
              · have hone : pieceOk ps (k : Int) = true := by rw [HPK.out, e1, e2, e5]; simp
                have e5' : (p.f2.f0 != 1) = false := by simpa using e5
                have HONE := Lib.hid hone
                clear hone e2 e5
                go_wp2
                refine wp_region_later (by kernel_rfl) (by kernel_rfl) ?_
                repeat (go_big_quiet_step (exact HK2.out _))
                refine wpQuiet_nil ?_
                rintro _ ⟨x, rfl⟩
                go_wp2
                go_roundw
                case rel => exact ⟨k + 1, by omega, by go_num, fun i hi => by rcases Nat.lt_succ_iff_lt_or_eq.1 hi with h | rfl; exact HALL.out i h; exact HONE.out, HFACTS.out x⟩
                case measure => simp [intOf]; omega
              · have e5' : (p.f2.f0 != 1) = true := by simpa using e5
                have e5'' : (p.f2.f0 == 1) = false := by simpa using e5
                have hJ : refR ps = (z32, 2) := by unfold refR; rw [if_neg hne, allOk_no hlt (by rw [HPK.out, e1, e2, e4', e5'']; rfl)]; rfl
                have HJR := Lib.hid hJ
                clear hJ e5 e5'' e2
                go_wp2
                refine wp_region_later (by kernel_rfl) (by kernel_rfl) ?_
                repeat (go_big_quiet_step (exact HK2.out _))
                refine wpQuiet_nil ?_
                rintro _ ⟨x, rfl⟩
                obtain ⟨g0, g1, g2⟩ := HFACTS.out x
                obtain ⟨h0, h1⟩ := blk_known g0
                have G0 := Lib.hid g0
                clear g0 g1
                have k0 := h0 0
                have k1 := h0 1
                have k2 := h0 2
                have k3 := h0 3
                have k4 := h0 4
                have k5 := h0 5
                simp at k0 k1 k2 k3 k4 k5
                clear h0
                go_wp2
                exact ref_fails w _ ps 2 _ _ _ _ _ _ _ g2 G0.out HJR.out rfl rfl
          · have e2' : (p.f0 != (rd_T32 ps 0).f0) = true := by simpa using e2
            have e2'' : (p.f0 == (rd_T32 ps 0).f0) = false := by simpa using e2
            have hJ : refR ps = (z32, 2) := by unfold refR; rw [if_neg hne, allOk_no hlt (by rw [HPK.out, e1, e2'']; rfl)]; rfl
            have HJR := Lib.hid hJ
            clear hJ e2 e2''
            go_wp2
            refine wp_region_later (by kernel_rfl) (by kernel_rfl) ?_
            repeat (go_big_quiet_step (exact HK2.out _))
            refine wpQuiet_nil ?_
            rintro _ ⟨x, rfl⟩
            obtain ⟨g0, g1, g2⟩ := HFACTS.out x
            obtain ⟨h0, h1⟩ := blk_known g0
            have G0 := Lib.hid g0
            clear g0 g1
            have k0 := h0 0
            have k1 := h0 1
            have k2 := h0 2
            have k3 := h0 3
            have k4 := h0 4
            have k5 := h0 5
            simp at k0 k1 k2 k3 k4 k5
            clear h0
            go_wp2
            exact ref_fails w _ ps 2 _ _ _ _ _ _ _ g2 G0.out HJR.out rfl rfl
        · have e1' : okB p = false := by simpa using e1
          have HK2 := Lib.hid (HK.out 2 (by rw [e1']; rfl))
          have hJ : refR ps = (z32, 2) := by unfold refR; rw [if_neg hne, allOk_no hlt (by rw [HPK.out, e1']; rfl)]; rfl
          have HJR := Lib.hid hJ
          clear HK e1 hJ
          go_wp2
          refine wp_region_later (by kernel_rfl) (by kernel_rfl) ?_
          repeat (go_big_quiet_step (exact HK2.out _))
          refine wpQuiet_nil ?_
          rintro _ ⟨x, rfl⟩
          obtain ⟨g0, g1, g2⟩ := HFACTS.out x
          obtain ⟨h0, h1⟩ := blk_known g0
          have G0 := Lib.hid g0
          clear g0 g1
          have k0 := h0 0
          have k1 := h0 1
          have k2 := h0 2
          have k3 := h0 3
          have k4 := h0 4
          have k5 := h0 5
          simp at k0 k1 k2 k3 k4 k5
          clear h0
          go_wp2
          exact ref_fails w _ ps 2 _ _ _ _ _ _ _ g2 G0.out HJR.out rfl rfl
      · obtain rfl : k = ps.length := by omega
        have HAO := Lib.hid (allOk_yes hall)
        have HALL := Lib.hid hall
        have HH := Lib.hid (And.intro ho (And.intro he hb))
        clear hall ho he hb hk
        go_wp2
        go_loopw [6, 7] (fun v6 v7 wr => ∃ (k : Nat) (m : Int) (acc : List S42) (Ao : Option Addr) (co : Nat), k ≤ ps.length ∧ v7 = .int .i64 k ∧ v6 = .int .i64 m ∧ 0 ≤ m ∧ m ≤ 2147483647 ∧ acc.length ≤ 40 * k ∧ refL ps 0 [] = refL (ps.drop k) m acc ∧
            (wr.heap[w.heap.size]? = some (.cells #[.int .u32 0, .slice none 0 0, .int .i64 0, .int .i64 0, .int .i64 0, .int .i64 0] 32 (0, 0)) ∧ wr.heap[w.heap.size + 1]? = some (.cells #[.int .u32 (rd_T32 ps 0).f0, .slice Ao acc.length co, .int .i64 (rd_T32 ps j).f2.f0, .int .i64 (rd_T32 ps j).f2.f1, .int .i64 (rd_T32 ps j).f2.f2, .int .i64 (rd_T32 ps j).f2.f3] 32 (0, 0)) ∧ Below w.heap.size w wr) ∧ acc.length ≤ co ∧ Kd.F k42 wr (fun k => k ≠ w.heap.size ∧ k ≠ w.heap.size + 1) Ao acc.length acc)
          (fun _ v7 _ => ps.length - (intOf v7).toNat)
        case atStart => exact ⟨0, 0, [], none, 0, Nat.zero_le _, rfl, rfl, by omega, by omega, by simp, rfl, HH.out, Nat.le_refl _, Kd.F_nil _ _ _⟩
        case round =>
          obtain ⟨k, m, acc, Ao, co, hk, rfl, rfl, hm0, hm1, hacc, hrl, ⟨ho, he, hb⟩, hco, hCo⟩ := hrel
          clear HH
          obtain ⟨wo, rfl⟩ : ∃ wo : World, wo = wr := ⟨_, rfl⟩
          by_cases hlt : k < ps.length
          · rw [drop_rd32 ps k hlt] at hrl
            have hpk := HALL.out k hlt
            have hfw := hfew k hlt
            obtain ⟨p, hp⟩ : ∃ p, rd_T32 ps (k : Int) = p := ⟨_, rfl⟩
            have hpk1 : okB p = true := by unfold pieceOk at hpk; rw [hp] at hpk; simp only [Bool.and_eq_true] at hpk; exact hpk.1
            rw [hp] at hrl hfw
            simp only [refL] at hrl
            have HPK1 := Lib.hid hpk1
            have HP := Lib.hid hp
            have HRL := Lib.hid hrl
            have HFW := Lib.hid hfw
            have HHO := Lib.hid (And.intro ho (And.intro he hb))
            have HCO := Lib.hid (And.intro hco hCo)
            have HACC := Lib.hid hacc
            clear hp hrl hfw ho he hb hco hCo hacc hpk hpk1
            go_wp2
            go_loopw [6, 8] (fun v6 v8 wr => ∃ (i : Nat) (m' : Int) (acc' : List S42) (Ao : Option Addr) (co : Nat), i ≤ p.f1.length ∧ v8 = .int .i64 i ∧ v6 = .int .i64 m' ∧ 0 ≤ m' ∧ m' ≤ 2147483647 ∧ acc'.length ≤ 40 * k + i ∧ refT p.f1 m acc = refT (p.f1.drop i) m' acc' ∧
              (wr.heap[w.heap.size]? = some (.cells #[.int .u32 0, .slice none 0 0, .int .i64 0, .int .i64 0, .int .i64 0, .int .i64 0] 32 (0, 0)) ∧ wr.heap[w.heap.size + 1]? = some (.cells #[.int .u32 (rd_T32 ps 0).f0, .slice Ao acc'.length co, .int .i64 (rd_T32 ps j).f2.f0, .int .i64 (rd_T32 ps j).f2.f1, .int .i64 (rd_T32 ps j).f2.f2, .int .i64 (rd_T32 ps j).f2.f3] 32 (0, 0)) ∧ Below w.heap.size w wr) ∧ acc'.length ≤ co ∧ Kd.F k42 wr (fun k => k ≠ w.heap.size ∧ k ≠ w.heap.size + 1) Ao acc'.length acc')
            (fun _ v8 _ => p.f1.length - (intOf v8).toNat)
            case atStart => exact ⟨0, m, acc, Ao, co, Nat.zero_le _, rfl, rfl, hm0, hm1, by have := HACC.out; omega, rfl, HHO.out, HCO.out.1, HCO.out.2⟩
            case round =>
              clear HHO HCO HACC hm0 hm1
              obtain ⟨i, m', acc', Ao, co, hi, rfl, rfl, hm0, hm1, hacc, hrt, ⟨ho, he, hb⟩, hco, hCo⟩ := hrel
              obtain ⟨ad', A1, c1, hA', x0, x1, x2, x3, x4, x5, hc1, hF, hadl⟩ := piece HC.out hb (k : Int) (by omega) (by omega)
              injection hA' with hA'
              subst hA'
              rw [HP.out] at x1 hc1 hF
              simp only [Int.toNat_natCast] at x1
              clear x0 x2 x3 x4 x5
              have hs1 : w.heap.size + 1 < wr.heap.size := blk_lt he
              have z1 : wr.cell? ⟨w.heap.size + 1, 1, none⟩ = _ := blk_cell he 1
              have zf := blk_frozen he 1
              simp at z1
              by_cases hilt : i < p.f1.length
              · obtain ⟨bd, hB, y0, y1⟩ := at_T42 (Kd.F_now hF) (i : Int) (by omega) (by omega)
                subst hB
                rw [drop_rd p.f1 i hilt] at hrt
                obtain ⟨x, hx⟩ : ∃ x, rd_T42 p.f1 (i : Int) = x := ⟨_, rfl⟩
                rw [hx] at y0 y1 hrt
                obtain ⟨xa, xb⟩ := x
                simp only [Int.toNat_natCast] at y0 y1
                simp only [refT] at hrt
                have hxb : 0 ≤ xb ∧ xb ≤ 2147483647 := by
                  have h1 := HPK1.out
                  simp only [okB, Bool.and_eq_true] at h1
                  have h2 := okT_get p.f1 0 (-1) (by omega) h1.2.2 i hilt
                  rwa [hx] at h2
                have hxb0 := hxb.1
                have hxb1 := hxb.2
                have K22 : ∀ W, Below wr.heap.size wr W → Calls Try.prog 22 #[.slice Ao acc'.length co, .int .i64 xa, .int .i64 xb] W fun e w' => (∃ A' c', e = .returned (.slice A' (putL acc' xa xb).length c') ∧ (putL acc' xa xb).length ≤ c' ∧ Kd.F k42 w' (fun k => W.heap.size ≤ k) A' (putL acc' xa xb).length (putL acc' xa xb)) ∧ Below W.heap.size W w' := fun W hW =>
                  put22 Ao co acc' xa xb W (Kd.F_now (Kd.F_below hCo hW)) hco (by have := HFW.out; omega)
                have HK := Lib.hid K22
                have HRT := Lib.hid hrt
                have HHI := Lib.hid (And.intro ho (And.intro he hb))
                have HCI := Lib.hid (And.intro hco hCo)
                have HACI := Lib.hid hacc
                clear hF K22 hrt ho he hb hco hCo hacc hx hc1 hxb
                have hfw' := HFW.out
                by_cases e1 : m' + xb ≤ 2147483647
                · have e1' : ¬ 2147483647 < m' + xb := by omega
                  go_wp2
                  go_still_tail 20, (by kernel_rfl)
                  change wpList _ _ _ _ _ wr.drew
                  go_wp2_with (go_at_call 22; refine (HK.out _ ((Below.refl _ _).drew)).mono ?_; rintro e w2 ⟨⟨A', c', rfl, p1, p2⟩, hb2⟩; have hbb := (Below.refl wr.heap.size wr).drew.trans hb2; (obtain ⟨hc2, hf2⟩ := bcell hbb); have HBB := Lib.hid hbb; have HP2 := Lib.hid (And.intro p1 p2); clear hbb hb2 p1 p2)
                  go_roundw
                  case rel =>
                    obtain ⟨p1, p2⟩ := HP2.out
                    obtain ⟨g0, g1, g2⟩ := HHI.out
                    have h3 := blk_set (blk_below g1 HBB.out) 1 (.slice A' (putL acc' xa xb).length c')
                    have hpl := putL_length acc' xa xb
                    refine ⟨i + 1, m' + xb, putL acc' xa xb, A', c', by omega, by go_num, rfl, by omega, e1, by have := HACI.out; omega, by rw [HRT.out, if_pos e1], ⟨blk_far (blk_below g0 HBB.out) (by simp) _, by simpa using h3, (g2.trans (HBB.out.mono g2.size)).setCell (p := ⟨w.heap.size + 1, 1, none⟩) (Nat.le_succ _) _⟩, p1, ?_⟩
                    exact Kd.F_far (Kd.F_mono p2 (fun k hk => by have : wr.heap.size ≤ k := hk; omega)) (fun k hk => hk.2) _
                  case measure => simp [intOf]; omega
                · have e1' : 2147483647 < m' + xb := by omega
                  have hJ : refR ps = (z32, 3) := by unfold refR; rw [if_neg hne, if_pos HAO.out, HRL.out, HRT.out, if_neg e1]
                  have HJR := Lib.hid hJ
                  obtain ⟨g0, g1, g2⟩ := HHI.out
                  obtain ⟨h0, h1⟩ := blk_known g0
                  have G0 := Lib.hid g0
                  have k0 := h0 0
                  have k1 := h0 1
                  have k2 := h0 2
                  have k3 := h0 3
                  have k4 := h0 4
                  have k5 := h0 5
                  simp at k0 k1 k2 k3 k4 k5
                  clear h0 g0 g1 hJ e1
                  go_wp2
                  exact ref_fails w _ ps 3 _ _ _ _ _ _ _ g2 G0.out HJR.out rfl rfl
              · obtain rfl : i = p.f1.length := by omega
                simp only [List.drop_length, refT] at hrt
                have hrl : refL ps 0 [] = refL (ps.drop (k + 1)) m' acc' := by rw [HRL.out, hrt]
                have HRL2 := Lib.hid hrl
                have HHI := Lib.hid (And.intro ho (And.intro he hb))
                have HCI := Lib.hid (And.intro hco hCo)
                have HACI := Lib.hid hacc
                have hfw' := HFW.out
                clear hF hrt hrl ho he hb hco hCo hacc hc1
                go_wp2
                go_roundw
                case rel => exact ⟨k + 1, m', acc', Ao, co, by omega, by go_num, rfl, hm0, hm1, by have := HACI.out; omega, HRL2.out, HHI.out, HCI.out.1, HCI.out.2⟩
                case measure => simp [intOf]; omega
          · obtain rfl : k = ps.length := by omega
            simp only [List.drop_length, refL] at hrl
            have hs1 : w.heap.size + 1 < wo.heap.size := blk_lt he
            have hs0 : w.heap.size < wo.heap.size := blk_lt ho
            have z0 : wo.cell? ⟨w.heap.size + 1, 0, none⟩ = _ := blk_cell he 0
            have z1 : wo.cell? ⟨w.heap.size + 1, 1, none⟩ = _ := blk_cell he 1
            have z2 : wo.cell? ⟨w.heap.size + 1, 2, none⟩ = _ := blk_cell he 2
            have z3 : wo.cell? ⟨w.heap.size + 1, 3, none⟩ = _ := blk_cell he 3
            have z4 : wo.cell? ⟨w.heap.size + 1, 4, none⟩ = _ := blk_cell he 4
            have z5 : wo.cell? ⟨w.heap.size + 1, 5, none⟩ = _ := blk_cell he 5
            have k0 : wo.cell? ⟨w.heap.size, 0, none⟩ = _ := blk_cell ho 0
            have k1 : wo.cell? ⟨w.heap.size, 1, none⟩ = _ := blk_cell ho 1
            have k2 : wo.cell? ⟨w.heap.size, 2, none⟩ = _ := blk_cell ho 2
            have k3 : wo.cell? ⟨w.heap.size, 3, none⟩ = _ := blk_cell ho 3
            have k4 : wo.cell? ⟨w.heap.size, 4, none⟩ = _ := blk_cell ho 4
            have k5 : wo.cell? ⟨w.heap.size, 5, none⟩ = _ := blk_cell ho 5
            have kf := (blk_known ho).2
            simp at z0 z1 z2 z3 z4 z5 k0 k1 k2 k3 k4 k5
            obtain ⟨r, hr⟩ : ∃ r : S32, r = ⟨(rd_T32 ps 0).f0, acc, (rd_T32 ps j).f2⟩ := ⟨_, rfl⟩
            have K21 := check21 r Ao co wo (by rw [hr]; exact Kd.F_now hCo) (by rw [hr]; exact hco)
            rw [hr] at K21
            dsimp only at K21
            rw [← hr] at K21
            have hJ : refR ps = if okB r = true then (r, 0) else (z32, 3) := by
              unfold refR
              rw [if_neg hne, HAO.out, hrl, HJ.out, hr]
              rfl
            have HJR := Lib.hid hJ
            have HHR := Lib.hid hr
            have HHO := Lib.hid (And.intro ho (And.intro he hb))
            have HCO := Lib.hid (And.intro hco hCo)
            clear hrl ho he hb hr hJ hco hCo
            by_cases e1 : okB r = true
            · have hv : chkV (okB r) = 0 := by simp [chkV, e1]
              rw [hv] at K21
              clear hv
              go_wp2_with (first | (go_at_call 21; refine K21.mono ?_; rintro e w1 ⟨rfl, hb1⟩; (obtain ⟨hc1, hf1⟩ := bcell hb1); have HBB := Lib.hid hb1; clear hb1))
              have hr := HHR.out
              subst hr
              have hJ := HJR.out
              rw [if_pos e1] at hJ
              obtain ⟨g0, g1, g2⟩ := HHO.out
              have ho1 := blk_below g0 HBB.out
              have h := blk_set (blk_set (blk_set (blk_set (blk_set (blk_set ho1 0 (.int .u32 (rd_T32 ps 0).f0)) 1 (.slice Ao acc.length co)) 2 (.int .i64 (rd_T32 ps j).f2.f0)) 3 (.int .i64 (rd_T32 ps j).f2.f1)) 4 (.int .i64 (rd_T32 ps j).f2.f2)) 5 (.int .i64 (rd_T32 ps j).f2.f3)
              refine bodyPost_ret (results7 _ w.heap.size _ _ _ _ _ _ _ _ (by simpa using h) rfl rfl) rfl ?_
              unfold RefEnds
              rw [hJ]
              refine ⟨Ao, co, rfl, HCO.out.1, ?_, ?_⟩
              · refine Kd.F_now (ok := fun k => k ≠ w.heap.size ∧ k ≠ w.heap.size + 1) ?_
                repeat (refine Kd.F_far ?_ (fun k hk => hk.1) _)
                exact Kd.F_below HCO.out.2 HBB.out
              · repeat (refine Below.setCell ?_ (by simp) _)
                exact g2.trans (HBB.out.mono g2.size)
            · have hv : chkV (okB r) = 2 := by simp [chkV, e1]
              rw [hv] at K21
              clear hv
              go_wp2_with (first | (go_at_call 21; refine K21.mono ?_; rintro e w1 ⟨rfl, hb1⟩; (obtain ⟨hc1, hf1⟩ := bcell hb1); have HBB := Lib.hid hb1; clear hb1))
              exact ref_fails w _ ps 3 _ _ _ _ _ _ _ (HHO.out.2.2.trans (HBB.out.mono HHO.out.2.2.size)) (blk_below HHO.out.1 HBB.out) (by rw [HJR.out, if_neg e1]) rfl rfl

end Go.Proofs.Ytlpfjlmeohaagaa
