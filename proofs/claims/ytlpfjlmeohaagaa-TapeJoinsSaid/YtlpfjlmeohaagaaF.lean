/- The walks of TapeJoins, part F: tape.Join: what it answers, at every pieces (at most 5, of at most 40 turns). -/
import Derived.Test.YtlpfjlmeohaagaaE
namespace Go.Proofs.Ytlpfjlmeohaagaa
open Go.RowKit Go.Shelf Go.Proofs.Ytlpfjlmeohaagaa.PTapeJoins Go.Proofs.YtlpfjlmeohaagaaW.PrintWords
set_option linter.unusedVariables false
set_option linter.unusedSimpArgs false

theorem addr_add0' (ad : Addr) : ad.add (Int.toNat 0 * 6) = ad := by
  obtain ⟨b, o, m⟩ := ad
  unfold Addr.add
  cases m <;> simp

theorem add_block (ad : Addr) (n : Nat) : (ad.add n).block = ad.block := by
  unfold Addr.add
  split <;> rfl

theorem heap42 : Kd.Heap k42 := Kd.heap_iso _ (Kd.heap_pair (Kd.heap_int _) (Kd.heap_int _))

/-- One of the pieces, in a later world. -/
theorem piece {w W : World} {A : Option Addr} {ps : List S32} (hC : Kd.C k32 w A ps.length ps) (hb : Below w.heap.size w W) (i : Int) (h0 : 0 ≤ i) (h1 : i < ps.length) :
    ∃ ad A1 c1, A = some ad ∧ W.cell? (ad.add (i.toNat * 6)) = some (.int .u32 (rd_T32 ps i).f0) ∧ W.cell? ⟨(ad.add (i.toNat * 6)).block, (ad.add (i.toNat * 6)).off + 1, none⟩ = some (.slice A1 (rd_T32 ps i).f1.length c1) ∧ W.cell? ⟨(ad.add (i.toNat * 6)).block, (ad.add (i.toNat * 6)).off + 2, none⟩ = some (.int .i64 (rd_T32 ps i).f2.f0) ∧ W.cell? ⟨(ad.add (i.toNat * 6)).block, (ad.add (i.toNat * 6)).off + 3, none⟩ = some (.int .i64 (rd_T32 ps i).f2.f1) ∧ W.cell? ⟨(ad.add (i.toNat * 6)).block, (ad.add (i.toNat * 6)).off + 4, none⟩ = some (.int .i64 (rd_T32 ps i).f2.f2) ∧ W.cell? ⟨(ad.add (i.toNat * 6)).block, (ad.add (i.toNat * 6)).off + 5, none⟩ = some (.int .i64 (rd_T32 ps i).f2.f3) ∧ (rd_T32 ps i).f1.length ≤ c1 ∧ Kd.F k42 W (fun k => k < w.heap.size) A1 (rd_T32 ps i).f1.length (rd_T32 ps i).f1 ∧ ad.block < w.heap.size := by
  obtain ⟨ad, A1, c1, e, k0, k1, k2, k3, k4, k5, hc, h⟩ := at_T32 hC i h0 h1
  exact ⟨ad, A1, c1, e, pw_cell_below hb k0, pw_cell_below hb k1, pw_cell_below hb k2, pw_cell_below hb k3, pw_cell_below hb k4, pw_cell_below hb k5, hc, F_belowN (Kd.C_F heap42 h) hb, by have := World.block_lt_of_cell? w _ k0; rwa [add_block] at this⟩

def JoinPost (w : World) (r : S32) (err : Int) (e : Ending) (w' : World) : Prop :=
  ∃ v', e = .returned (.tuple #[.agg #[.int .u32 r.f0, v', .int .i64 r.f2.f0, .int .i64 r.f2.f1, .int .i64 r.f2.f2, .int .i64 r.f2.f3], .int .i64 err]) ∧ OwnT w' w.heap.size v' r.f1 ∧ Below w.heap.size w w'

theorem ent14 : ∀ args w, (callFunc 14 args).run Try.prog w = .ok (.enter 14 args) w := enters_of Try.func14 (by kernel_rfl) rfl

/-- What Join hands back lies in its two cells. -/
theorem results6 (W : World) (bo be : Nat) (c0 c1 c2 c3 c4 c5 ce : Value) (tmps : Array Value)
    (ho : W.heap[bo]? = some (.cells #[c0, c1, c2, c3, c4, c5] 32 (0, 0))) (he : W.heap[be]? = some (.cells #[ce] 33 (0, 0)))
    (t2 : tmps[2]? = some (.pointer (some ⟨bo, 0, none⟩))) (t3 : tmps[3]? = some (.pointer (some ⟨be, 0, none⟩))) :
    (results Try.f6 tmps).run Try.prog W = .ok (.tuple #[.agg #[c0, c1, c2, c3, c4, c5], ce]) W := by
  have k0 : W.cell? ⟨bo, 0, none⟩ = some c0 := blk_cell ho 0
  have k1 : W.cell? ⟨bo, 1, none⟩ = some c1 := blk_cell ho 1
  have k2 : W.cell? ⟨bo, 2, none⟩ = some c2 := blk_cell ho 2
  have k3 : W.cell? ⟨bo, 3, none⟩ = some c3 := blk_cell ho 3
  have k4 : W.cell? ⟨bo, 4, none⟩ = some c4 := blk_cell ho 4
  have k5 : W.cell? ⟨bo, 5, none⟩ = some c5 := blk_cell ho 5
  have e0 : W.cell? ⟨be, 0, none⟩ = some ce := blk_cell he 0
  clear ho he
  simp [results, Try.results6, go_sem, t2, t3, k0, k1, k2, k3, k4, k5, e0]

/-- Join gives up: the result is cleared, the error is laid. -/
theorem join_fails (w W : World) (bo be : Nat) (n : Int) (c0 c1 c2 c3 c4 c5 ce : Value) (tmps : Array Value) (hbo : w.heap.size ≤ bo) (hbe : w.heap.size ≤ be) (hB : Below w.heap.size w W)
    (ho : W.heap[bo]? = some (.cells #[c0, c1, c2, c3, c4, c5] 32 (0, 0))) (he : W.heap[be]? = some (.cells #[ce] 33 (0, 0)))
    (t2 : tmps[2]? = some (.pointer (some ⟨bo, 0, none⟩))) (t3 : tmps[3]? = some (.pointer (some ⟨be, 0, none⟩))) :
    bodyPostD Try.prog Try.f6 (JoinPost w z32 n) (.panic [{ v := .iface 33 (.int .i64 n), recovered := false }])
      { tmps := tmps, defers := [{ target := .fn (.func 13) #[], args := #[.pointer (some ⟨be, 0, none⟩), .func (.func 14) #[] #[.pointer (some ⟨bo, 0, none⟩)]] }] } W := by
  have hne : bo ≠ be := blk_ne ho he (by decide)
  refine leaves_cons (f := 13) (args := #[.pointer (some ⟨be, 0, none⟩), .func (.func 14) #[] #[.pointer (some ⟨bo, 0, none⟩)]]) (by simp) (by simp [go_sem]) ?_
  have hcl := clear14 (W.setCell ⟨be, 0, none⟩ (.int .i64 n)) bo c0 c1 c2 c3 c4 c5 (blk_far ho hne _)
  refine (caught_panics be bo 14 ce n [] W (fun w' => (W.setCell ⟨be, 0, none⟩ (.int .i64 n)).grownBy w' (some bo) ∧ w'.heap[bo]? = some (.cells #[.int .u32 0, .slice none 0 0, .int .i64 0, .int .i64 0, .int .i64 0, .int .i64 0] 32 (0, 0))) (blk_cell he 0) (blk_frozen he 0) ent14 (hcl.mono fun e w' h => ⟨h.1, h.2⟩)).mono ?_
  rintro e u' w' ⟨rfl, rfl, hg, hz⟩
  have he' : w'.heap[be]? = some (.cells #[.int .i64 n] 33 (0, 0)) := blk_grown (by simpa using blk_set he 0 (.int .i64 n)) hg (by simpa using Ne.symm hne)
  have hr : (results Try.f6 tmps).run Try.prog w' = .ok (.tuple #[.agg #[.int .u32 0, .slice none 0 0, .int .i64 0, .int .i64 0, .int .i64 0, .int .i64 0], .int .i64 n]) w' :=
    results6 w' bo be _ _ _ _ _ _ _ tmps hz he' t2 t3
  refine ⟨_, hr, .slice none 0 0, rfl, own_nil _ _ _ _, ?_⟩
  exact ((hB.setCell (p := ⟨be, 0, none⟩) hbe _).grown hg (by simpa using hB.size) (fun k hk => by injection hk with hk; omega))

theorem join_empty (A : Option Addr) (c : Nat) (w : World) :
    Calls Try.prog 6 #[.slice A 0 c] w (JoinPost w z32 2) := by
  have hmf : ∀ (fn : Fn) (first cap : Array Value) (w : World), (Instr.makeFunc fn first cap).run Try.prog w = .ok (.func fn first cap) w := fun _ _ _ _ => rfl
  go_enter_defers Try.func6, Try.ntmps6
  go_wp2_with (first | (go_at_call 15; refine (must_no _ _).mono ?_; rintro e w1 ⟨rfl, rfl⟩))
  refine join_fails w _ w.heap.size (w.heap.size + 1) 2 _ _ _ _ _ _ (.int .i64 0) _ (Nat.le_refl _) (Nat.le_succ _) (((Below.refl _ w).alloc (Nat.le_refl _) _).alloc (by simp) _) (blk_alloc (blk_new w _) _) ?_ rfl rfl
  have h := blk_new (w.alloc (.cells #[.int .u32 0, .slice none 0 0, .int .i64 0, .int .i64 0, .int .i64 0, .int .i64 0] 32)) (.cells #[.int .i64 0] 33)
  rw [World.size_alloc] at h
  exact h

/-- Join returns: nothing was given up with. -/
theorem join_done (w W : World) (bo be : Nat) (r : S32) (n : Int) (v : Value) (tmps : Array Value) (hB : Below w.heap.size w W) (hown : OwnT W w.heap.size v r.f1)
    (ho : W.heap[bo]? = some (.cells #[.int .u32 r.f0, v, .int .i64 r.f2.f0, .int .i64 r.f2.f1, .int .i64 r.f2.f2, .int .i64 r.f2.f3] 32 (0, 0))) (he : W.heap[be]? = some (.cells #[.int .i64 n] 33 (0, 0)))
    (t2 : tmps[2]? = some (.pointer (some ⟨bo, 0, none⟩))) (t3 : tmps[3]? = some (.pointer (some ⟨be, 0, none⟩))) :
    bodyPostD Try.prog Try.f6 (JoinPost w r n) .ret
      { tmps := tmps, defers := [{ target := .fn (.func 13) #[], args := #[.pointer (some ⟨be, 0, none⟩), .func (.func 14) #[] #[.pointer (some ⟨bo, 0, none⟩)]] }] } W := by
  refine leaves_cons (f := 13) (args := #[.pointer (some ⟨be, 0, none⟩), .func (.func 14) #[] #[.pointer (some ⟨bo, 0, none⟩)]]) (by simp) (by simp [go_sem]) ?_
  refine (caught_idle ⟨be, 0, none⟩ _ W).mono ?_
  rintro e u' w' ⟨rfl, rfl, rfl⟩
  exact ⟨_, results6 _ bo be _ _ _ _ _ _ _ tmps ho he t2 t3, v, rfl, hown, hB⟩

theorem sum_ok (l : List S42) : ∀ (all last : Int), 0 ≤ all → all ≤ 2147483647 → okT l all last = true → all ≤ sumW all l ∧ sumW all l ≤ 2147483647 := by
  induction l with
  | nil => intro all last h0 h1 _; exact ⟨Int.le_refl _, h1⟩
  | cons x l ih =>
    intro all last h0 h1 h
    simp only [okT, Bool.and_eq_true] at h
    obtain ⟨_, h2, _, h3⟩ := h
    have h4 := wi_iff.1 h2
    have hw : wrap64 (all + x.f1) = all + x.f1 := by unfold wrap64; omega
    have := ih (all + x.f1) x.f0 (by omega) (by omega) h3
    simp only [sumW, List.foldl_cons] at this ⊢
    rw [hw]
    omega

theorem drop_rd32 (l : List S32) (k : Nat) (h : k < l.length) : l.drop k = rd_T32 l (k : Int) :: l.drop (k + 1) := by
  rw [List.drop_eq_getElem_cons h]
  simp [rd_T32, h]

def pieceOk (ps : List S32) (i : Int) : Bool := okB (rd_T32 ps i) && (((rd_T32 ps i).f0 == (rd_T32 ps 0).f0) && ((i == (ps.length : Int) - 1) || ((rd_T32 ps i).f2.f0 == 1)))

def joinL : List S32 → Int → List S42 → Option (List S42)
  | [], _, acc => some acc
  | p :: l, m, acc => if m + sumW 0 p.f1 ≤ 2147483647 then joinL l (m + sumW 0 p.f1) (puts acc p.f1) else none

def allOk (ps : List S32) : Bool := (List.range ps.length).all fun i => pieceOk ps (i : Nat)
theorem allOk_no {ps : List S32} {k : Nat} (hk : k < ps.length) (h : pieceOk ps (k : Int) = false) : allOk ps = false := by
  unfold allOk
  rw [List.all_eq_false]
  exact ⟨k, by simpa using hk, by simp [h]⟩
theorem allOk_yes {ps : List S32} (h : ∀ i : Nat, i < ps.length → pieceOk ps i = true) : allOk ps = true := by
  unfold allOk
  rw [List.all_eq_true]
  intro i hi
  exact h i (by simpa using hi)

/-- What Join answers. -/
def joinR (ps : List S32) : S32 × Int :=
  if ps = [] then (z32, 2) else if allOk ps = true then
    match joinL ps 0 [] with
    | none => (z32, 3)
    | some acc => if okB ⟨(rd_T32 ps 0).f0, acc, (rd_T32 ps ((ps.length : Int) - 1)).f2⟩ = true then (⟨(rd_T32 ps 0).f0, acc, (rd_T32 ps ((ps.length : Int) - 1)).f2⟩, 0) else (z32, 3)
  else (z32, 2)

def JoinEnds (w : World) (ps : List S32) (e : Ending) (w' : World) : Prop := JoinPost w (joinR ps).1 (joinR ps).2 e w'

set_option maxHeartbeats 4000000 in
theorem join_some (A : Option Addr) (c : Nat) (ps : List S32) (w : World) (hC : Kd.C k32 w A ps.length ps) (hpos : 0 < ps.length) (hlen : ps.length ≤ 5) (hfew : ∀ i : Nat, i < ps.length → (rd_T32 ps i).f1.length ≤ 40) :
    Calls Try.prog 6 #[.slice A ps.length c] w (JoinEnds w ps) := by
  have hne : ps ≠ [] := List.length_pos_iff.1 hpos
  have hmf : ∀ (fn : Fn) (first cap : Array Value) (w : World), (Instr.makeFunc fn first cap).run Try.prog w = .ok (.func fn first cap) w := fun _ _ _ _ => rfl
  have hd : decide (0 < ps.length) = true := decide_eq_true hpos
  obtain ⟨j, hj⟩ : ∃ j, (ps.length : Int) - 1 = j := ⟨_, rfl⟩
  have j0 : 0 ≤ j := by omega
  have j1 : j < (ps.length : Int) := by omega
  have hw : IntKind.i64.wrap ((ps.length : Int) - 1) = j := by rw [hj]; exact IntWalk.i64_in _ (by omega)
  have hw' : wrap64 ((ps.length : Int) - 1) = j := by rw [hj]; unfold wrap64; omega
  have HC := Lib.hid hC
  have HJ := Lib.hid hj
  clear hC hj
  go_enter_defers Try.func6, Try.ntmps6
  go_wp2_with (first | (go_at_call 15; refine (must_yes _ _).mono ?_; rintro e w1 ⟨rfl, rfl⟩))
  obtain ⟨W1, hW1⟩ : ∃ W1, (w.alloc (.cells #[.int .u32 0, .slice none 0 0, .int .i64 0, .int .i64 0, .int .i64 0, .int .i64 0] 32)).alloc (.cells #[.int .i64 0] 33) = W1 := ⟨_, rfl⟩
  have hb1 : Below w.heap.size w W1 := by rw [← hW1]; exact ((Below.refl _ w).alloc (Nat.le_refl _) _).alloc (by simp) _
  have ho1 : W1.heap[w.heap.size]? = some (.cells #[.int .u32 0, .slice none 0 0, .int .i64 0, .int .i64 0, .int .i64 0, .int .i64 0] 32 (0, 0)) := by rw [← hW1]; exact blk_alloc (blk_new w _) _
  have he1 : W1.heap[w.heap.size + 1]? = some (.cells #[.int .i64 0] 33 (0, 0)) := by
    rw [← hW1]
    have h := blk_new (w.alloc (.cells #[.int .u32 0, .slice none 0 0, .int .i64 0, .int .i64 0, .int .i64 0, .int .i64 0] 32)) (.cells #[.int .i64 0] 33)
    rw [World.size_alloc] at h
    exact h
  rw [hW1]
  clear hW1
  obtain ⟨ad, A1, c1, hA, x0, x1, x2, x3, x4, x5, _, _, hlt⟩ := piece HC.out hb1 0 (by omega) (by omega)
  obtain ⟨ad', A2, c2, hA', y0, y1, y2, y3, y4, y5, _, _, _⟩ := piece HC.out hb1 j j0 j1
  subst hA
  injection hA' with hA'
  subst hA'
  have f1 := (blk_known ho1).2
  have z0 : W1.cell? ⟨w.heap.size, 0, none⟩ = _ := blk_cell ho1 0
  have z1 : W1.cell? ⟨w.heap.size, 1, none⟩ = _ := blk_cell ho1 1
  have z2 : W1.cell? ⟨w.heap.size, 2, none⟩ = _ := blk_cell ho1 2
  have z3 : W1.cell? ⟨w.heap.size, 3, none⟩ = _ := blk_cell ho1 3
  have z4 : W1.cell? ⟨w.heap.size, 4, none⟩ = _ := blk_cell ho1 4
  have z5 : W1.cell? ⟨w.heap.size, 5, none⟩ = _ := blk_cell ho1 5
  simp at z0 z1 z2 z3 z4 z5
  rw [show ad.add (Int.toNat 0 * 6) = ad from addr_add0' ad] at x0 x1 x2 x3 x4 x5
  have n1 : ¬ ad.block = w.heap.size := by omega
  have n3 : ∀ (W : World) (i : Nat) (v : Value), (W.setCell ⟨w.heap.size, i, none⟩ v).cell? ad = W.cell? ad := fun W i v => World.cell?_setCell_far _ _ _ _ (Ne.symm n1)
  have n2 : ¬ (ad.add (j.toNat * 6)).block = w.heap.size := by rw [add_block]; omega
  have y3' : W1.cell? ⟨(ad.add (j.toNat * 6)).block, (ad.add (j.toNat * 6)).off + 2 + 1, none⟩ = some (.int .i64 (rd_T32 ps j).f2.f1) := y3
  have y4' : W1.cell? ⟨(ad.add (j.toNat * 6)).block, (ad.add (j.toNat * 6)).off + 2 + 2, none⟩ = some (.int .i64 (rd_T32 ps j).f2.f2) := y4
  have y5' : W1.cell? ⟨(ad.add (j.toNat * 6)).block, (ad.add (j.toNat * 6)).off + 2 + 3, none⟩ = some (.int .i64 (rd_T32 ps j).f2.f3) := y5
  have HO1 := Lib.hid ho1
  have HE1 := Lib.hid he1
  have HB1 := Lib.hid hb1
  clear ho1 he1 hb1 y0 y1 y3 y4 y5 x1 x2 x3 x4 x5
  go_cut [] from 18 to 28 (fun W => W.heap[w.heap.size]? = some (.cells #[.int .u32 (rd_T32 ps 0).f0, .slice none 0 0, .int .i64 (rd_T32 ps j).f2.f0, .int .i64 (rd_T32 ps j).f2.f1, .int .i64 (rd_T32 ps j).f2.f2, .int .i64 (rd_T32 ps j).f2.f3] 32 (0, 0)) ∧ W.heap[w.heap.size + 1]? = some (.cells #[.int .i64 0] 33 (0, 0)) ∧ Below w.heap.size w W)
  case first =>
    go_region
    go_wp2_with fail
    go_meet
    refine ⟨?_, ?_, ?_⟩
    · have h := blk_set (blk_set (blk_set (blk_set (blk_set (blk_set (blk_set (blk_set (blk_set (blk_set (blk_set HO1.out 0 (.int .u32 0)) 1 (.slice none 0 0)) 2 (.int .i64 0)) 3 (.int .i64 0)) 4 (.int .i64 0)) 5 (.int .i64 0)) 0 (.int .u32 (rd_T32 ps 0).f0)) 2 (.int .i64 (rd_T32 ps j).f2.f0)) 3 (.int .i64 (rd_T32 ps j).f2.f1)) 4 (.int .i64 (rd_T32 ps j).f2.f2)) 5 (.int .i64 (rd_T32 ps j).f2.f3)
      simpa using blk_drew h
    · refine blk_drew ?_
      repeat (refine blk_far ?_ (by simp) _)
      exact HE1.out
    · refine below_drew ?_
      repeat (refine Below.setCell ?_ (by simp) _)
      exact HB1.out
  case rest =>
    clear x0 y2 f1 z0 z1 z2 z3 z4 z5 n3 n2 y3' y4' y5' HO1 HE1 HB1 hlt n1
    have HCUT := Lib.hid hcut
    clear hcut
    go_wp2
    go_loopw [31] (fun v31 wr => ∃ k : Nat, k ≤ ps.length ∧ v31 = .int .i64 k ∧ (∀ i : Nat, i < k → pieceOk ps i = true) ∧ (wr.heap[w.heap.size]? = some (.cells #[.int .u32 (rd_T32 ps 0).f0, .slice none 0 0, .int .i64 (rd_T32 ps j).f2.f0, .int .i64 (rd_T32 ps j).f2.f1, .int .i64 (rd_T32 ps j).f2.f2, .int .i64 (rd_T32 ps j).f2.f3] 32 (0, 0)) ∧ wr.heap[w.heap.size + 1]? = some (.cells #[.int .i64 0] 33 (0, 0)) ∧ Below w.heap.size w wr))
      (fun v31 _ => ps.length - (intOf v31).toNat)
    case atStart => exact ⟨0, Nat.zero_le _, rfl, fun i hi => absurd hi (Nat.not_lt_zero i), HCUT.out⟩
    case round =>
      obtain ⟨k, hk, rfl, hall, ho, he, hb⟩ := hrel
      by_cases hlt : k < ps.length
      · obtain ⟨ad', A1, c1, hA', x0, x1, x2, x3, x4, x5, hc1, hF, _⟩ := piece HC.out hb (k : Int) (by omega) (by omega)
        injection hA' with hA'
        subst hA'
        obtain ⟨p, hp⟩ : ∃ p, rd_T32 ps (k : Int) = p := ⟨_, rfl⟩
        have hpk : pieceOk ps (k : Int) = (okB p && ((p.f0 == (rd_T32 ps 0).f0) && (((k : Int) == (ps.length : Int) - 1) || (p.f2.f0 == 1)))) := by unfold pieceOk; rw [hp]
        rw [hp] at x0 x1 x2 x3 x4 x5 hc1 hF
        simp only [Int.toNat_natCast] at x0 x1 x2 x3 x4 x5
        clear hp
        have hs : w.heap.size < wr.heap.size := blk_lt ho
        have z0 : wr.cell? ⟨w.heap.size, 0, none⟩ = _ := blk_cell ho 0
        simp at z0
        have HF := Lib.hid hF
        have HHC := Lib.hid hc1
        have HPK := Lib.hid hpk
        have HALL := Lib.hid hall
        have HH := Lib.hid (And.intro ho (And.intro he hb))
        clear hF hc1 hpk hall ho he hb
        have hfacts : ∀ w1, Below (wr.heap.size + 1) (wr.alloc (.cells #[.int .u32 p.f0, .slice A1 p.f1.length c1, .int .i64 p.f2.f0, .int .i64 p.f2.f1, .int .i64 p.f2.f2, .int .i64 p.f2.f3] 32)) w1 →
            w1.heap[w.heap.size]? = some (.cells #[.int .u32 (rd_T32 ps 0).f0, .slice none 0 0, .int .i64 (rd_T32 ps j).f2.f0, .int .i64 (rd_T32 ps j).f2.f1, .int .i64 (rd_T32 ps j).f2.f2, .int .i64 (rd_T32 ps j).f2.f3] 32 (0, 0)) ∧ w1.heap[w.heap.size + 1]? = some (.cells #[.int .i64 0] 33 (0, 0)) ∧ Below w.heap.size w w1 := fun w1 hb1 => by
          have hb1' : Below (wr.alloc (.cells #[.int .u32 p.f0, .slice A1 p.f1.length c1, .int .i64 p.f2.f0, .int .i64 p.f2.f1, .int .i64 p.f2.f2, .int .i64 p.f2.f3] 32)).heap.size (wr.alloc (.cells #[.int .u32 p.f0, .slice A1 p.f1.length c1, .int .i64 p.f2.f0, .int .i64 p.f2.f1, .int .i64 p.f2.f2, .int .i64 p.f2.f3] 32)) w1 := by simpa using hb1
          exact ⟨blk_below (blk_alloc HH.out.1 _) hb1', blk_below (blk_alloc HH.out.2.1 _) hb1', (HH.out.2.2.alloc HH.out.2.2.size _).trans (hb1.mono (by have := HH.out.2.2.size; omega))⟩
        have HFACTS := Lib.hid hfacts
        clear hfacts
        by_cases e1 : okB p = true
        · by_cases e2 : (p.f0 == (rd_T32 ps 0).f0) = true
          · by_cases e3 : k + 1 = ps.length
            · have e4 : ((k : Int) == j) = true := by have := HJ.out; simp; omega
              have hone : pieceOk ps (k : Int) = true := by rw [HPK.out, e1, e2]; simp; left; omega
              have HONE := Lib.hid hone
              clear hone
              go_wp2_with (first | (go_at_call 16; refine (of_yes p A1 c1 _ (Kd.F_now (Kd.F_alloc HF.out _)) HHC.out e1).mono ?_; rintro e w1 ⟨rfl, hb1⟩; (obtain ⟨hc1, hf1⟩ := bcell hb1); have HBB := Lib.hid hb1; clear hb1) | (go_at_call 15; refine (must_yes _ _).mono ?_; rintro e w1 ⟨rfl, rfl⟩))
              go_roundw
              case rel => exact ⟨k + 1, by omega, by go_num, fun i hi => by rcases Nat.lt_succ_iff_lt_or_eq.1 hi with h | rfl; exact HALL.out i h; exact HONE.out, HFACTS.out _ (by simpa using HBB.out)⟩
              case measure => simp [intOf]; omega
            · have e4 : ((k : Int) == j) = false := beq_eq_false_iff_ne.2 (by have := HJ.out; omega)
              have e4' : ((k : Int) == (ps.length : Int) - 1) = false := beq_eq_false_iff_ne.2 (by omega)
              by_cases e5 : (p.f2.f0 == 1) = true
              · have hone : pieceOk ps (k : Int) = true := by rw [HPK.out, e1, e2, e5]; simp
                have HONE := Lib.hid hone
                clear hone
                go_wp2_with (first | (go_at_call 16; refine (of_yes p A1 c1 _ (Kd.F_now (Kd.F_alloc HF.out _)) HHC.out e1).mono ?_; rintro e w1 ⟨rfl, hb1⟩; (obtain ⟨hc1, hf1⟩ := bcell hb1); have HBB := Lib.hid hb1; clear hb1) | (go_at_call 15; refine (must_yes _ _).mono ?_; rintro e w1 ⟨rfl, rfl⟩))
                go_roundw
                case rel => exact ⟨k + 1, by omega, by go_num, fun i hi => by rcases Nat.lt_succ_iff_lt_or_eq.1 hi with h | rfl; exact HALL.out i h; exact HONE.out, HFACTS.out _ (by simpa using HBB.out)⟩
                case measure => simp [intOf]; omega
              · have e5' : (p.f2.f0 == 1) = false := by simpa using e5
                clear e5
                go_wp2_with (first | (go_at_call 16; refine (of_yes p A1 c1 _ (Kd.F_now (Kd.F_alloc HF.out _)) HHC.out e1).mono ?_; rintro e w1 ⟨rfl, hb1⟩; (obtain ⟨hc1, hf1⟩ := bcell hb1); have HBB := Lib.hid hb1; clear hb1) | (go_at_call 15; refine (must_no _ _).mono ?_; rintro e w1 ⟨rfl, rfl⟩))
                have hJ : joinR ps = (z32, 2) := by unfold joinR; rw [if_neg hne, allOk_no hlt (by rw [HPK.out, e1, e2, e4', e5']; rfl)]; rfl
                unfold JoinEnds
                rw [hJ]
                obtain ⟨q0, q1, q2⟩ := HFACTS.out _ (by simpa using HBB.out)
                exact join_fails w _ w.heap.size (w.heap.size + 1) 2 _ _ _ _ _ _ _ _ (Nat.le_refl _) (Nat.le_succ _) q2 q0 q1 rfl rfl
          · have e2' : (p.f0 == (rd_T32 ps 0).f0) = false := by simpa using e2
            clear e2
            go_wp2_with (first | (go_at_call 16; refine (of_yes p A1 c1 _ (Kd.F_now (Kd.F_alloc HF.out _)) HHC.out e1).mono ?_; rintro e w1 ⟨rfl, hb1⟩; (obtain ⟨hc1, hf1⟩ := bcell hb1); have HBB := Lib.hid hb1; clear hb1) | (go_at_call 15; refine (must_no _ _).mono ?_; rintro e w1 ⟨rfl, rfl⟩))
            have hJ : joinR ps = (z32, 2) := by unfold joinR; rw [if_neg hne, allOk_no hlt (by rw [HPK.out, e1, e2']; rfl)]; rfl
            unfold JoinEnds
            rw [hJ]
            obtain ⟨q0, q1, q2⟩ := HFACTS.out _ (by simpa using HBB.out)
            exact join_fails w _ w.heap.size (w.heap.size + 1) 2 _ _ _ _ _ _ _ _ (Nat.le_refl _) (Nat.le_succ _) q2 q0 q1 rfl rfl
        · have e1' : okB p = false := by simpa using e1
          clear e1
          go_wp2_with (first | (go_at_call 16; refine (of_no p A1 c1 _ (Kd.F_now (Kd.F_alloc HF.out _)) HHC.out e1').mono ?_; rintro e w1 ⟨rfl, hb1⟩))
          have hJ : joinR ps = (z32, 2) := by unfold joinR; rw [if_neg hne, allOk_no hlt (by rw [HPK.out, e1']; rfl)]; rfl
          unfold JoinEnds
          rw [hJ]
          obtain ⟨q0, q1, q2⟩ := HFACTS.out _ (by simpa using hb1)
          exact join_fails w _ w.heap.size (w.heap.size + 1) 2 _ _ _ _ _ _ _ _ (Nat.le_refl _) (Nat.le_succ _) q2 q0 q1 rfl rfl
      · obtain rfl : k = ps.length := by omega
        have hallok := allOk_yes hall
        have HALL := Lib.hid hall
        have HAO := Lib.hid hallok
        have HH := Lib.hid (And.intro ho (And.intro he hb))
        clear hall hallok ho he hb hk
        go_wp2
        go_loopw [7, 58] (fun v7 v58 wr => ∃ (k : Nat) (m : Int) (acc : List S42) (v : Value), k ≤ ps.length ∧ v58 = .int .i64 k ∧ v7 = .int .i64 m ∧ 0 ≤ m ∧ m ≤ 2147483647 ∧ acc.length ≤ 40 * k ∧ joinL ps 0 [] = joinL (ps.drop k) m acc ∧
            (wr.heap[w.heap.size]? = some (.cells #[.int .u32 (rd_T32 ps 0).f0, v, .int .i64 (rd_T32 ps j).f2.f0, .int .i64 (rd_T32 ps j).f2.f1, .int .i64 (rd_T32 ps j).f2.f2, .int .i64 (rd_T32 ps j).f2.f3] 32 (0, 0)) ∧ wr.heap[w.heap.size + 1]? = some (.cells #[.int .i64 0] 33 (0, 0)) ∧ OwnT wr w.heap.size v acc ∧ Below w.heap.size w wr))
          (fun _ v58 _ => ps.length - (intOf v58).toNat)
        case atStart => exact ⟨0, 0, [], _, Nat.zero_le _, rfl, rfl, by omega, by omega, by simp, rfl, HH.out.1, HH.out.2.1, own_nil _ _ _ _, HH.out.2.2⟩
        case round =>
          obtain ⟨k, m, acc, v, hk, rfl, rfl, hm0, hm1, hacc, hjl, ho, he, hown, hb⟩ := hrel
          clear HH
          by_cases hlt : k < ps.length
          · obtain ⟨ad', A1, c1, hA', x0, x1, x2, x3, x4, x5, hc1, hF, _⟩ := piece HC.out hb (k : Int) (by omega) (by omega)
            injection hA' with hA'
            subst hA'
            rw [drop_rd32 ps k hlt] at hjl
            have hpk := HALL.out k hlt
            have hfew := hfew k hlt
            obtain ⟨p, hp⟩ : ∃ p, rd_T32 ps (k : Int) = p := ⟨_, rfl⟩
            have hpk1 : okB p = true := by unfold pieceOk at hpk; rw [hp] at hpk; simp only [Bool.and_eq_true] at hpk; exact hpk.1
            rw [hp] at x0 x1 x2 x3 x4 x5 hc1 hF hjl hfew
            simp only [Int.toNat_natCast] at x0 x1 x2 x3 x4 x5
            clear hp hpk
            simp only [joinL] at hjl
            have hsum := sum_ok p.f1 0 (-1) (by omega) (by omega) (by simp only [okB, Bool.and_eq_true] at hpk1; exact hpk1.2.2)
            have hs : w.heap.size < wr.heap.size := blk_lt ho
            have K17 := steps17 p A1 c1 (wr.alloc (.cells #[.int .u32 p.f0, .slice A1 p.f1.length c1, .int .i64 p.f2.f0, .int .i64 p.f2.f1, .int .i64 p.f2.f2, .int .i64 p.f2.f3] 32)) (Kd.F_mono (Kd.F_alloc hF _) (fun k hk => by simp; omega))
            obtain ⟨s, hs1⟩ : ∃ s, sumW 0 p.f1 = s := ⟨_, rfl⟩
            rw [hs1] at K17 hjl hsum
            clear hs1
            have s0 := hsum.1
            have s1 := hsum.2
            obtain ⟨Av, cv, rfl, hcv, _⟩ := hown.reads
            have z1 : wr.cell? ⟨w.heap.size, 1, none⟩ = _ := blk_cell ho 1
            simp at z1
            have hfacts : ∀ w1, Below (wr.heap.size + 1) (wr.alloc (.cells #[.int .u32 p.f0, .slice A1 p.f1.length c1, .int .i64 p.f2.f0, .int .i64 p.f2.f1, .int .i64 p.f2.f2, .int .i64 p.f2.f3] 32)) w1 →
                w1.heap[w.heap.size]? = some (.cells #[.int .u32 (rd_T32 ps 0).f0, .slice Av acc.length cv, .int .i64 (rd_T32 ps j).f2.f0, .int .i64 (rd_T32 ps j).f2.f1, .int .i64 (rd_T32 ps j).f2.f2, .int .i64 (rd_T32 ps j).f2.f3] 32 (0, 0)) ∧ w1.heap[w.heap.size + 1]? = some (.cells #[.int .i64 0] 33 (0, 0)) ∧ OwnT w1 w.heap.size (.slice Av acc.length cv) acc ∧ Below w.heap.size w w1 ∧ Kd.F k42 w1 (fun k => k < w.heap.size) A1 p.f1.length p.f1 := fun w1 hb1 => by
              have hb1' : Below (wr.alloc (.cells #[.int .u32 p.f0, .slice A1 p.f1.length c1, .int .i64 p.f2.f0, .int .i64 p.f2.f1, .int .i64 p.f2.f2, .int .i64 p.f2.f3] 32)).heap.size (wr.alloc (.cells #[.int .u32 p.f0, .slice A1 p.f1.length c1, .int .i64 p.f2.f0, .int .i64 p.f2.f1, .int .i64 p.f2.f2, .int .i64 p.f2.f3] 32)) w1 := by simpa using hb1
              exact ⟨blk_below (blk_alloc ho _) hb1', blk_below (blk_alloc he _) hb1', (hown.below ((Below.refl _ _).alloc (Nat.le_refl _) _)).below hb1', (hb.alloc hb.size _).trans (hb1.mono (by have := hb.size; omega)), Kd.F_below (Kd.F_alloc hF _) hb1'⟩
            have HK18 : Hid (∀ w1, Below (wr.heap.size + 1) (wr.alloc (.cells #[.int .u32 p.f0, .slice A1 p.f1.length c1, .int .i64 p.f2.f0, .int .i64 p.f2.f1, .int .i64 p.f2.f2, .int .i64 p.f2.f3] 32)) w1 → Calls Try.prog 18 #[.slice A1 p.f1.length c1, .slice Av acc.length cv, .func (.func 19) #[] #[]] w1 (PutPost w.heap.size w1 (.slice Av acc.length cv) (puts acc p.f1))) := Lib.hid (fun w1 hb1 => by
              obtain ⟨g0, g1, g2, g3, g4⟩ := hfacts w1 hb1
              exact folded18 A1 c1 p.f1 w1 w.heap.size w.heap.size (Nat.le_refl _) g3.size g4 Av cv acc g2 (by omega))
            have HFACTS := Lib.hid hfacts
            have HHC := Lib.hid hc1
            have HJL := Lib.hid hjl
            have HFEW := Lib.hid hfew
            have HACC := Lib.hid hacc
            clear hF hc1 hjl ho he hown hb hfew hacc hsum hpk1 hfacts
            by_cases e1 : m + s ≤ 2147483647
            · have e1' : decide (m + s ≤ 2147483647) = true := decide_eq_true e1
              go_wp2_with (first | (go_at_call 17; refine K17.mono ?_; rintro e w1 ⟨rfl, hb1⟩; (obtain ⟨hc1, hf1⟩ := bcell hb1); have HBB := Lib.hid hb1; clear hb1) | (go_at_call 15; refine (must_yes _ _).mono ?_; rintro e w1 ⟨rfl, rfl⟩) | (go_at_call 18; refine (HK18.out _ (by simpa using HBB.out)).mono ?_; clear hc1 hf1; rintro e w2 ⟨v', rfl, p1, p2, p3⟩; obtain ⟨A3, c3, rfl, _, _⟩ := p1.reads; (have g0 := (HFACTS.out _ (by simpa using HBB.out))); (have h2 := blk_grown g0.1 p2 (own_ne g0.2.2.1 g0.1 (by decide))); (have q1 : w2.cell? ⟨w.heap.size, 1, none⟩ = _ := blk_cell h2 1); simp at q1; (have q2 := blk_frozen h2 1); have H2 := Lib.hid h2; have P := Lib.hid (And.intro p1 (And.intro p2 p3)); have G := Lib.hid g0; clear h2 g0 p1 p2 p3))
              go_roundw
              case rel =>
                obtain ⟨p1, p2, p3⟩ := P.out
                obtain ⟨g0, g1, g2, g3, g4⟩ := G.out
                have h3 := blk_set H2.out 1 (.slice A3 (puts acc p.f1).length c3)
                have hne1 : some w.heap.size ≠ (Value.slice A3 (puts acc p.f1).length c3).ownBlock := own_ne p1 H2.out (by decide)
                have hpl := puts_length acc p.f1
                refine ⟨k + 1, m + s, puts acc p.f1, .slice A3 (puts acc p.f1).length c3, by omega, by go_num, rfl, by omega, e1, by have := HFEW.out; have := HACC.out; omega, by rw [HJL.out, if_pos e1], by simpa using h3, blk_far (blk_grown g1 p2 (own_ne g2 g1 (by decide))) (by simp) _, own_setCell p1 (by simpa using hne1) _, ?_⟩
                exact (g3.grown p2 g3.size (fun k hk => own_base g2 k hk)).setCell (p := ⟨w.heap.size, 1, none⟩) (Nat.le_refl _) _
              case measure => simp [intOf]; omega
            · have e1' : decide (m + s ≤ 2147483647) = false := decide_eq_false e1
              go_wp2_with (first | (go_at_call 17; refine K17.mono ?_; rintro e w1 ⟨rfl, hb1⟩; (obtain ⟨hc1, hf1⟩ := bcell hb1); have HBB := Lib.hid hb1; clear hb1) | (go_at_call 15; refine (must_no _ _).mono ?_; rintro e w1 ⟨rfl, rfl⟩))
              have hJ : joinR ps = (z32, 3) := by unfold joinR; rw [if_neg hne, HAO.out, if_pos rfl, HJL.out, if_neg (by omega)]
              unfold JoinEnds
              rw [hJ]
              obtain ⟨q0, q1, _, q2, _⟩ := HFACTS.out _ (by simpa using HBB.out)
              exact join_fails w _ w.heap.size (w.heap.size + 1) 3 _ _ _ _ _ _ _ _ (Nat.le_refl _) (Nat.le_succ _) q2 q0 q1 rfl rfl
          · obtain rfl : k = ps.length := by omega
            simp only [List.drop_length, joinL] at hjl
            have hs : w.heap.size < wr.heap.size := blk_lt ho
            obtain ⟨Av, cv, rfl, hcv, hCv⟩ := hown.reads
            have z0 : wr.cell? ⟨w.heap.size, 0, none⟩ = _ := blk_cell ho 0
            have z1 : wr.cell? ⟨w.heap.size, 1, none⟩ = _ := blk_cell ho 1
            have z2 : wr.cell? ⟨w.heap.size, 2, none⟩ = _ := blk_cell ho 2
            have z3 : wr.cell? ⟨w.heap.size, 3, none⟩ = _ := blk_cell ho 3
            have z4 : wr.cell? ⟨w.heap.size, 4, none⟩ = _ := blk_cell ho 4
            have z5 : wr.cell? ⟨w.heap.size, 5, none⟩ = _ := blk_cell ho 5
            have zf := (blk_known ho).2
            have ze : wr.cell? ⟨w.heap.size + 1, 0, none⟩ = _ := blk_cell he 0
            have zg := blk_frozen he 0
            simp at z0 z1 z2 z3 z4 z5 ze
            have hs1 : w.heap.size + 1 < wr.heap.size := blk_lt he
            obtain ⟨r, hr⟩ : ∃ r : S32, r = ⟨(rd_T32 ps 0).f0, acc, (rd_T32 ps j).f2⟩ := ⟨_, rfl⟩
            have K20 := check20 r Av cv wr (by rw [hr]; exact hCv) (by rw [hr]; exact hcv)
            rw [hr] at K20
            dsimp only at K20
            rw [← hr] at K20
            have hJ : joinR ps = if okB r = true then (r, 0) else (z32, 3) := by
              unfold joinR
              rw [if_neg hne, HAO.out, hjl, HJ.out, hr]
              rfl
            have HJR := Lib.hid hJ
            have HHR := Lib.hid hr
            have HH := Lib.hid (And.intro ho (And.intro he (And.intro hown hb)))
            clear hjl ho he hown hb hr hJ hCv
            by_cases e1 : okB r = true
            · have hv : chkV (okB r) = 0 := by simp [chkV, e1]
              rw [hv] at K20
              clear hv
              go_wp2_with (first | (go_at_call 20; refine K20.mono ?_; rintro e w1 ⟨rfl, hb1⟩; (obtain ⟨hc1, hf1⟩ := bcell hb1); have HBB := Lib.hid hb1; clear hb1) | (go_at_call 15; refine (must_yes _ _).mono ?_; rintro e w1 ⟨rfl, rfl⟩))
              unfold JoinEnds
              rw [HJR.out, if_pos e1]
              obtain ⟨ho, he, hown, hb⟩ := HH.out
              have hr := HHR.out
              subst hr
              have ho1 := blk_below ho HBB.out
              have he1 := blk_below he HBB.out
              have hown1 := hown.below HBB.out
              have hnb : some w.heap.size ≠ (Value.slice Av acc.length cv).ownBlock := own_ne hown1 ho1 (by decide)
              have hnb1 : some (w.heap.size + 1) ≠ (Value.slice Av acc.length cv).ownBlock := own_ne hown1 he1 (by decide)
              refine join_done w _ w.heap.size (w.heap.size + 1) _ 0 (.slice Av acc.length cv) _ ?_ ?_ ?_ ?_ rfl rfl
              · refine Below.setCell ?_ (Nat.le_succ _) _
                repeat (refine Below.setCell ?_ (by simp) _)
                exact hb.trans (HBB.out.mono hb.size)
              · refine own_setCell ?_ (by simpa using hnb1) _
                repeat (refine own_setCell ?_ (by simpa using hnb) _)
                exact hown1
              · refine blk_far ?_ (by simp) _
                have h := blk_set (blk_set (blk_set (blk_set (blk_set (blk_set ho1 0 (.int .u32 (rd_T32 ps 0).f0)) 1 (.slice Av acc.length cv)) 2 (.int .i64 (rd_T32 ps j).f2.f0)) 3 (.int .i64 (rd_T32 ps j).f2.f1)) 4 (.int .i64 (rd_T32 ps j).f2.f2)) 5 (.int .i64 (rd_T32 ps j).f2.f3)
                simpa using h
              · have h := blk_set (blk_far (blk_far (blk_far (blk_far (blk_far (blk_far he1 (p := ⟨w.heap.size, 0, none⟩) (by simp) (.int .u32 (rd_T32 ps 0).f0)) (p := ⟨w.heap.size, 1, none⟩) (by simp) (.slice Av acc.length cv)) (p := ⟨w.heap.size, 2, none⟩) (by simp) (.int .i64 (rd_T32 ps j).f2.f0)) (p := ⟨w.heap.size, 3, none⟩) (by simp) (.int .i64 (rd_T32 ps j).f2.f1)) (p := ⟨w.heap.size, 4, none⟩) (by simp) (.int .i64 (rd_T32 ps j).f2.f2)) (p := ⟨w.heap.size, 5, none⟩) (by simp) (.int .i64 (rd_T32 ps j).f2.f3)) 0 (.int .i64 0)
                simpa using h
            · have hv : chkV (okB r) = 2 := by simp [chkV, e1]
              rw [hv] at K20
              clear hv
              go_wp2_with (first | (go_at_call 20; refine K20.mono ?_; rintro e w1 ⟨rfl, hb1⟩; (obtain ⟨hc1, hf1⟩ := bcell hb1); have HBB := Lib.hid hb1; clear hb1) | (go_at_call 15; refine (must_no _ _).mono ?_; rintro e w1 ⟨rfl, rfl⟩))
              unfold JoinEnds
              rw [HJR.out, if_neg e1]
              obtain ⟨ho, he, hown, hb⟩ := HH.out
              exact join_fails w _ w.heap.size (w.heap.size + 1) 3 _ _ _ _ _ _ _ _ (Nat.le_refl _) (Nat.le_succ _) (hb.trans (HBB.out.mono hb.size)) (blk_below ho HBB.out) (blk_below he HBB.out) rfl rfl

theorem join6 (A : Option Addr) (c : Nat) (ps : List S32) (w : World) (hC : Kd.C k32 w A ps.length ps) (hlen : ps.length ≤ 5) (hfew : ∀ i : Nat, i < ps.length → (rd_T32 ps i).f1.length ≤ 40) :
    Calls Try.prog 6 #[.slice A ps.length c] w (JoinEnds w ps) := by
  by_cases h : ps = []
  · subst h
    exact join_empty A c w
  · exact join_some A c ps w hC (List.length_pos_iff.2 h) hlen hfew
end Go.Proofs.Ytlpfjlmeohaagaa
