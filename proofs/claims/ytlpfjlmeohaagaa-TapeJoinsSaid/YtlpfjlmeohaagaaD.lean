/- The walks of TapeJoins, part D: tape.put: a turn behind turns. -/
import Derived.Test.YtlpfjlmeohaagaaC
import Derived.Deep.RegionLawGrows
import Derived.Deep.RegionLaw
import Derived.IntWalk
namespace Go.Proofs.Ytlpfjlmeohaagaa
open Go.RowKit Go.Shelf Go.Proofs.Ytlpfjlmeohaagaa.PTapeJoins Go.Proofs.YtlpfjlmeohaagaaW.PrintWords
set_option linter.unusedVariables false
set_option linter.unusedSimpArgs false

/-- The cells of turns. -/
def tc (xs : List S42) : List Value := xs.flatMap fun x => [.int .i64 x.f0, .int .i64 x.f1]
theorem tc_nil : tc [] = [] := rfl
theorem tc_cons (x : S42) (xs : List S42) : tc (x :: xs) = .int .i64 x.f0 :: .int .i64 x.f1 :: tc xs := rfl
theorem tc_append (xs ys : List S42) : tc (xs ++ ys) = tc xs ++ tc ys := by simp [tc]
theorem tc_length (xs : List S42) : (tc xs).length = xs.length * 2 := by
  induction xs with
  | nil => rfl
  | cons x xs ih => rw [tc_cons]; simp only [List.length_cons, ih]; omega
theorem tc_get (xs : List S42) (j : Nat) (h : j < xs.length) : (tc xs)[j * 2]? = some (.int .i64 (rd_T42 xs j).f0) ∧ (tc xs)[j * 2 + 1]? = some (.int .i64 (rd_T42 xs j).f1) := by
  induction xs generalizing j with
  | nil => simp at h
  | cons x xs ih =>
    rw [tc_cons]
    cases j with
    | zero => simp [rd_T42]
    | succ j =>
      have := ih j (by simpa using h)
      rw [show (j + 1) * 2 = j * 2 + 1 + 1 by omega, show j * 2 + 1 + 1 + 1 = (j * 2 + 1) + 1 + 1 by omega]
      simp only [List.getElem?_cons_succ]
      simpa [rd_T42] using this
theorem tc_reps (w : World) (xs : List S42) : Reps (k42.K w) 2 xs (tc xs) := by
  refine ⟨tc_length xs, fun j p hj => ?_⟩
  have hlt : j < xs.length := (List.getElem?_eq_some_iff.1 hj).1
  have h := tc_get xs j hlt
  have hp : rd_T42 xs j = p := by simp [rd_T42, hj]
  rw [hp] at h
  have : ((tc xs).drop (j * 2)).take 2 = [.int .i64 p.f0, .int .i64 p.f1] := by
    apply List.ext_getElem?
    intro i
    rw [List.getElem?_take]
    by_cases hi : i < 2
    · rw [if_pos hi, List.getElem?_drop]
      match i, hi with
      | 0, _ => simpa using h.1
      | 1, _ => simpa using h.2
    · rw [if_neg hi]
      symm
      rw [List.getElem?_eq_none]
      simp
      omega
  rw [this]
  exact k42_mk w p

/-- A row of turns of the call's own. -/
def OwnT (w : World) (base : Nat) (v : Value) (xs : List S42) : Prop := w.ownsRow base 42 2 v xs.length (tc xs)

theorem OwnT.reads {w : World} {base : Nat} {v : Value} {xs : List S42} (h : OwnT w base v xs) : ∃ A c, v = .slice A xs.length c ∧ xs.length ≤ c ∧ Kd.C k42 w A xs.length xs := by
  obtain ⟨A, c, rfl, hc⟩ := own_reads_row h (tc_reps w xs) rfl
  exact ⟨A, c, rfl, own_le h, hc⟩

theorem C_cells {w : World} {ad : Addr} {l : List S42} (h : Kd.C k42 w (some ad) l.length l) : ∀ k u, (tc l)[k]? = some u → w.cell? (ad.add k) = some u := by
  intro k u hk
  have hlt : k < (tc l).length := (List.getElem?_eq_some_iff.1 hk).1
  rw [tc_length] at hlt
  have hq : k / 2 < l.length := by omega
  obtain ⟨ad', hA, h0, h1⟩ := at_T42 h ((k / 2 : Nat) : Int) (by omega) (by omega)
  injection hA with hA
  subst hA
  have hg := tc_get l (k / 2) hq
  rw [Int.toNat_natCast] at h0 h1
  rcases Nat.mod_two_eq_zero_or_one k with h2 | h2
  · rw [show k / 2 * 2 = k by omega] at h0 hg
    rw [h0, ← hg.1, hk]
  · rw [← add_field _ _ 1 (by omega), show k / 2 * 2 + 1 = k by omega] at h1
    rw [show k / 2 * 2 + 1 = k by omega] at hg
    rw [h1, ← hg.2, hk]

def putL (l : List S42) (th st : Int) : List S42 :=
  match l.getLast? with
  | none => [⟨th, st⟩]
  | some y => if y.f0 = th then l.dropLast ++ [⟨th, wrap64 (st + y.f1)⟩] else l ++ [⟨th, st⟩]

def PutPost (base : Nat) (w : World) (v : Value) (r : List S42) (e : Ending) (w' : World) : Prop :=
  ∃ v', e = .returned v' ∧ OwnT w' base v' r ∧ w.grownBy w' v.ownBlock ∧ (v'.ownBlock = v.ownBlock ∨ ∃ b, v'.ownBlock = some b ∧ w.heap.size ≤ b)

theorem info42' : (Try.prog.info? 42).map (fun i => (i.zero, i.size, i.bytes)) = some (some (.agg #[(.int .i64 0), (.int .i64 0)]), 2, 16) := by kernel_rfl

theorem OwnT.below {w w1 : World} {base : Nat} {v : Value} {xs : List S42} (h : OwnT w base v xs) (hb : Below w.heap.size w w1) : OwnT w1 base v xs := pw_own_below h hb

theorem putL_new {l : List S42} {th st : Int} (h : l = [] ∨ ∃ y, l.getLast? = some y ∧ y.f0 ≠ th) : putL l th st = l ++ [⟨th, st⟩] := by
  rcases h with rfl | ⟨y, hy, hne⟩
  · rfl
  · simp [putL, hy, hne]

set_option maxHeartbeats 1000000 in
theorem put19_new (base : Nat) (l : List S42) (A : Option Addr) (c : Nat) (th st : Int) (w : World) (HO : OwnT w base (.slice A l.length c) l) (hbase : base ≤ w.heap.size) (hl : l.length ≤ 1000000)
    (hcase : l = [] ∨ ∃ y, l.getLast? = some y ∧ y.f0 ≠ th) :
    Calls Try.prog 19 #[.slice A l.length c, .agg #[.int .i64 th, .int .i64 st]] w (PutPost base w (.slice A l.length c) (l ++ [⟨th, st⟩])) := by
  have hB1 : ∀ (nq : Nat), Below w.heap.size w ((w.alloc (.cells #[.int .i64 th, .int .i64 st] 42)).drewN nq) := fun nq => pw_below_drewN ((Below.refl _ w).alloc (Nat.le_refl _) _) nq
  have HB1 := Lib.hid hB1
  have HO1 := Lib.hid (fun nq => HO.below (hB1 nq))
  obtain ⟨A', c', hAc, hcap, hC0⟩ := HO.reads
  injection hAc with hA1 _ hc1
  subst hA1 hc1
  have HC0 := Lib.hid hC0
  clear HO hB1 hC0
  have fin : ∀ (nq : Nat) (v1 : Value) (w1 : World), w1.ownsRow base 42 2 v1 (l.length + 1) (tc l ++ [.int .i64 th, .int .i64 st]) →
      ((w.alloc (.cells #[.int .i64 th, .int .i64 st] 42)).drewN nq).grownBy w1 (Value.slice A l.length c).ownBlock → (v1.ownBlock = (Value.slice A l.length c).ownBlock ∨ ∃ b, v1.ownBlock = some b ∧ ((w.alloc (.cells #[.int .i64 th, .int .i64 st] 42)).drewN nq).heap.size ≤ b) →
      PutPost base w (.slice A l.length c) (l ++ [⟨th, st⟩]) (.returned v1) w1 := by
    intro nq v1 w1 h1 h2 h3
    refine ⟨v1, rfl, ?_, World.grownBy.trans (grown_of_below (HB1.out nq) _) h2, ?_⟩
    · unfold OwnT
      rw [tc_append, List.length_append]
      exact h1
    · rcases h3 with h3 | ⟨b, hb, hle⟩
      · exact .inl h3
      · exact .inr ⟨b, hb, Nat.le_trans (HB1.out nq).size hle⟩
  have FIN := Lib.hid fin
  clear fin
  rcases hcase with hnil | ⟨y, hy, hne⟩
  · have h0 : ((l.length : Int) == 0) = true := by simp [hnil]
    have h00 : (l.length == 0) = true := by simp [hnil]
    clear hnil
    go_enter Try.func19, Try.ntmps19
    go_wp2
    go_quiet (fail)
    go_wp2_with (first | (at_builtin; go_must (refine print_append_cells (w0 := w) base rfl (.tmp 21) (.tmp 23) 26 42 (.agg #[(.int .i64 0), (.int .i64 0)]) 2 16 rfl Try.underlying26 info42' rfl (by decide) (by decide) _ l.length (tc l) [.int .i64 th, .int .i64 st] rfl (by show Value.slice (some ⟨w.heap.size + 1, 0, none⟩) 1 1 = _; simp) rfl (by simp [Value.oneCell']) (HO1.out _) ((HB1.out _).mono hbase) (Nat.le_trans hbase (HB1.out _).size) (by omega) ?_); intro v1 w1 a1 _ a2 a3))
    go_ret
    exact FIN.out _ _ _ a1 a2 a3
  · have hpos : 0 < l.length := by cases l with
      | nil => simp at hy
      | cons => simp
    have h0 : ((l.length : Int) == 0) = false := beq_eq_false_iff_ne.2 (by omega)
    have h00 : (l.length == 0) = false := beq_eq_false_iff_ne.2 (by omega)
    have h000 : l ≠ [] := List.length_pos_iff.1 hpos
    obtain ⟨j, hj⟩ : ∃ j, (l.length : Int) - 1 = j := ⟨_, rfl⟩
    have j0 : 0 ≤ j := by omega
    have j1 : j < (l.length : Int) := by omega
    have hw : IntKind.i64.wrap ((l.length : Int) - 1) = j := by rw [hj]; exact IntWalk.i64_in _ (by omega)
    obtain ⟨ad, hA, hx0, hx1⟩ := at_T42 (Kd.C_alloc HC0.out (.cells #[.int .i64 th, .int .i64 st] 42)) j j0 j1
    have hrd : rd_T42 l j = y := by
      rw [List.getLast?_eq_getElem?] at hy
      unfold rd_T42
      rw [show j.toNat = l.length - 1 by omega]
      simp [hy]
    rw [hrd] at hx0 hx1
    subst hA
    have hne' : (y.f0 != th) = true := by simpa using hne
    clear hrd hy hne hj
    go_enter Try.func19, Try.ntmps19
    go_wp2
    go_quiet (fail)
    go_wp2_with (first | (at_builtin; go_must (refine print_append_cells (w0 := w) base rfl (.tmp 21) (.tmp 23) 26 42 (.agg #[(.int .i64 0), (.int .i64 0)]) 2 16 rfl Try.underlying26 info42' rfl (by decide) (by decide) _ l.length (tc l) [.int .i64 th, .int .i64 st] rfl (by show Value.slice (some ⟨w.heap.size + 1, 0, none⟩) 1 1 = _; simp) rfl (by simp [Value.oneCell']) (HO1.out _) ((HB1.out _).mono hbase) (Nat.le_trans hbase (HB1.out _).size) (by omega) ?_); intro v1 w1 a1 _ a2 a3))
    go_ret
    exact FIN.out _ _ _ a1 a2 a3

set_option maxHeartbeats 1000000 in
theorem put19_same (base : Nat) (l : List S42) (A : Option Addr) (c : Nat) (th st : Int) (w : World) (HO : OwnT w base (.slice A l.length c) l) (hbase : base ≤ w.heap.size) (hl : l.length ≤ 1000000)
    (y : S42) (hy : l.getLast? = some y) (heq : y.f0 = th) :
    Calls Try.prog 19 #[.slice A l.length c, .agg #[.int .i64 th, .int .i64 st]] w (PutPost base w (.slice A l.length c) (l.dropLast ++ [⟨th, wrap64 (st + y.f1)⟩])) := by
  obtain ⟨A', c', hAc, hcap, hC0⟩ := HO.reads
  injection hAc with hA1 _ hc1
  subst hA1 hc1
  have hpos : 0 < l.length := by cases l with
    | nil => simp at hy
    | cons => simp
  have h0 : ((l.length : Int) == 0) = false := beq_eq_false_iff_ne.2 (by omega)
  obtain ⟨j, hj⟩ : ∃ j, (l.length : Int) - 1 = j := ⟨_, rfl⟩
  have j0 : 0 ≤ j := by omega
  have j1 : j < (l.length : Int) := by omega
  have j2 : j ≤ (c : Int) := by omega
  have hw : IntKind.i64.wrap ((l.length : Int) - 1) = j := by rw [hj]; exact IntWalk.i64_in _ (by omega)
  obtain ⟨ad, hA, hx0, hx1⟩ := at_T42 (Kd.C_alloc hC0 (.cells #[.int .i64 th, .int .i64 st] 42)) j j0 j1
  have hrd : rd_T42 l j = y := by
    rw [List.getLast?_eq_getElem?] at hy
    unfold rd_T42
    rw [show j.toNat = l.length - 1 by omega]
    simp [hy]
  rw [hrd] at hx0 hx1
  subst hA
  have hne' : (y.f0 != th) = false := by simpa using heq
  have hlt : ad.block < w.heap.size := by
    obtain ⟨ad', hA', k0, _⟩ := at_T42 hC0 j j0 j1
    injection hA' with hA'
    subst hA'
    have := World.block_lt_of_cell? w _ k0
    unfold Addr.add at this
    split at this <;> exact this
  have HC0 := Lib.hid hC0
  have HOO := Lib.hid HO
  have HY := Lib.hid hy
  have HEQ := Lib.hid heq
  have HJ := Lib.hid hj
  clear hrd hy heq hj hC0 HO
  go_enter Try.func19, Try.ntmps19
  go_wp2
  go_quiet (fail)
  go_wp2
  go_region
  go_wp2
  obtain ⟨W2, hW2⟩ : ∃ W2, ((w.alloc (.cells #[.int .i64 th, .int .i64 st] 42)).drewN (nq + 1)).setCell ⟨w.heap.size, 1, none⟩ (.int .i64 (wrap64 (st + y.f1))) = W2 := ⟨_, rfl⟩
  have hb2 : Below w.heap.size w W2 := by rw [← hW2]; exact (pw_below_drewN ((Below.refl _ w).alloc (Nat.le_refl _) _) _).setCell (p := ⟨w.heap.size, 1, none⟩) (Nat.le_refl _) _
  have hk2 : W2.heap[w.heap.size]? = some (.cells #[.int .i64 th, .int .i64 (wrap64 (st + y.f1))] 42 (0, 0)) := by
    rw [← hW2]
    have h := blk_set (blk_drewN (blk_new w (.cells #[.int .i64 th, .int .i64 st] 42)) (nq + 1)) 1 (.int .i64 (wrap64 (st + y.f1)))
    simpa using h
  rw [hW2]
  clear hW2 hx0 hx1
  have k0 : W2.cell? ⟨w.heap.size, 0, none⟩ = _ := blk_cell hk2 0
  have k1 : W2.cell? ⟨w.heap.size, 1, none⟩ = _ := blk_cell hk2 1
  simp at k0 k1
  have HK2 := Lib.hid hk2
  have HB2 := Lib.hid hb2
  clear hk2 hb2
  obtain ⟨i0, hi, hz0, hz1, hz2⟩ := info_parts info42'
  have hlen : (tc (l.take j.toNat)).length = j.toNat * 2 := by rw [tc_length, List.length_take]; omega
  have hold : ∀ b, some ad = some b → ∀ k u, (tc (l.take j.toNat))[k]? = some u → (W2.alloc (.cells #[.int .i64 th, .int .i64 (wrap64 (st + y.f1))] 42)).cell? (b.add k) = some u := by
    intro b hb k u hk
    injection hb with hb
    subst hb
    refine C_cells (Kd.C_alloc (Kd.C_below HC0.out HB2.out) _) k u ?_
    have : tc l = tc (l.take j.toNat) ++ tc (l.drop j.toNat) := by rw [← tc_append, List.take_append_drop]
    rw [this, List.getElem?_append_left (List.getElem?_eq_some_iff.1 hk).1]
    exact hk
  have hnew : ∀ k u, [Value.int .i64 th, Value.int .i64 (wrap64 (st + y.f1))][k]? = some u → (W2.alloc (.cells #[.int .i64 th, .int .i64 (wrap64 (st + y.f1))] 42)).cell? ((⟨W2.heap.size, 0, none⟩ : Addr).add k) = some u := by
    intro k u hk
    rw [add_plain, blk_cell (blk_new W2 (.cells #[.int .i64 th, .int .i64 (wrap64 (st + y.f1))] 42)), ← Array.getElem?_toList]
    exact hk
  have HOLD := Lib.hid hold
  have HNEW := Lib.hid hnew
  have HLEN := Lib.hid hlen
  clear hold hnew hlen
  go_region_law ((refine step_append_grows rfl (.tmp 40) (.tmp 42) 26 rfl 42 i0 (.agg #[(.int .i64 0), (.int .i64 0)]) 2 16 Try.underlying26 hi hz0 hz1 hz2 rfl (by decide) (some ad) j.toNat j.toNat (tc (l.take j.toNat)) rfl (by simp) HLEN.out HOLD.out ⟨W2.heap.size, 0, none⟩ 1 1 [.int .i64 th, .int .i64 (wrap64 (st + y.f1))] rfl rfl HNEW.out (by simp [Value.oneCell']) (by omega) (by unfold maxLen; omega) (by omega) ?_; intro v1 w1 ho1 hg1))
  go_wp2
  go_ret
  obtain ⟨g, cap, rfl, hgb, _⟩ := ho1.form (by omega)
  refine ⟨_, rfl, ?_, ?_, .inr ⟨g, rfl, ?_⟩⟩
  · have hdl : l.dropLast = l.take j.toNat := by rw [List.dropLast_eq_take]; congr 1; have := HJ.out; omega
    have hn : (l.take j.toNat).length = j.toNat := by rw [List.length_take]; omega
    unfold OwnT
    rw [hdl, tc_append, List.length_append, hn]
    exact own_weaken ho1 (Nat.le_trans hbase (Nat.le_trans HB2.out.size (by simp)))
  · refine World.grownBy.trans (grown_of_below (below_drew (HB2.out.alloc HB2.out.size _)) _) (hg1.but _)
  · exact Nat.le_trans (Nat.le_trans HB2.out.size (by simp)) hgb

theorem put19 (base : Nat) (l : List S42) (A : Option Addr) (c : Nat) (th st : Int) (w : World) (HO : OwnT w base (.slice A l.length c) l) (hbase : base ≤ w.heap.size) (hl : l.length ≤ 1000000) :
    Calls Try.prog 19 #[.slice A l.length c, .agg #[.int .i64 th, .int .i64 st]] w (PutPost base w (.slice A l.length c) (putL l th st)) := by
  cases hy : l.getLast? with
  | none =>
    have h : l = [] ∨ ∃ y, l.getLast? = some y ∧ y.f0 ≠ th := .inl (by simpa using hy)
    rw [putL_new h]
    exact put19_new base l A c th st w HO hbase hl h
  | some y =>
    by_cases he : y.f0 = th
    · have : putL l th st = l.dropLast ++ [⟨th, wrap64 (st + y.f1)⟩] := by simp [putL, hy, he]
      rw [this]
      exact put19_same base l A c th st w HO hbase hl y hy he
    · have h : l = [] ∨ ∃ y, l.getLast? = some y ∧ y.f0 ≠ th := .inr ⟨y, hy, he⟩
      rw [putL_new h]
      exact put19_new base l A c th st w HO hbase hl h
end Go.Proofs.Ytlpfjlmeohaagaa
