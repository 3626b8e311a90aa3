/- The walks of TapeJoins, part C: slices.Values over turns, tape.folded to an int, tape.steps. -/
import Derived.RangeFuncNested
import Derived.RangeFuncBound
import Derived.RangeFuncBox
import Derived.RangeFuncCalls
import Derived.RangeFuncLeaves
import Derived.Shelf.Abstract
import Derived.Shelf.RegionOpen
import Derived.WalkKit
import Derived.OwnWalkIn
import Derived.TacticsInMore
import Derived.LoopNIn
import Derived.LoopIn
import Derived.Test.YtlpfjlmeohaagaaB
namespace Go.Proofs.Ytlpfjlmeohaagaa
open Go.RowKit Go.Shelf Go.Proofs.Ytlpfjlmeohaagaa.PTapeJoins Go.Proofs.YtlpfjlmeohaagaaW.PrintWords
set_option linter.unusedVariables false
set_option linter.unusedSimpArgs false
attribute [local go_sem] Oper.semAt_some

/-- A turn as a value. -/
def turnV (x : S42) : Value := .agg #[.int .i64 x.f0, .int .i64 x.f1]

theorem take_rd (l : List S42) (k : Nat) (h : k < l.length) : l.take (k + 1) = l.take k ++ [rd_T42 l (k : Int)] := by
  rw [List.take_succ_eq_append_getElem h]
  simp [rd_T42, h]

theorem F_belowN {n₀ : Nat} {W W1 : World} {A : Option Addr} {n : Nat} {xs : List S42} (h : Kd.F k42 W (fun k => k < n₀) A n xs) (hb : Below n₀ W W1) : Kd.F k42 W1 (fun k => k < n₀) A n xs :=
  Kd.F_step h (fun k hk _ => hb.block k hk)

set_option maxRecDepth 100000 in
set_option maxHeartbeats 2000000 in
theorem values33_in (F : Fence) (n : Nat) (h33 : F.fn 33) (hro : F.round = none) (hn : 1 ≤ n) (l Bs n₀ : Nat) (A : Option Addr) (c : Nat) (xs : List S42) (J Jx : List S42 → World → Prop)
    (W : World) (hJ : AbidesFrom W.heap.size J)
    (hY : ∀ pre x W, J pre W → pre.length < xs.length → YieldAt F (n - 1) Try.prog l #[.agg #[.int .i64 x.f0, .int .i64 x.f1]] W fun e W' =>
      (e = .returned (.bool true) ∧ J (pre ++ [x]) W' ∧ Below n₀ W W') ∨ (e = .returned (.bool false) ∧ Jx (pre ++ [x]) W'))
    (hn0 : n₀ ≤ W.heap.size)
    (hBs : W.cell? ⟨Bs, 0, none⟩ = some (.slice A xs.length c)) (hF : Kd.F k42 W (fun k => k < n₀) A xs.length xs) (h0 : J [] W) :
    CallsIn F n Try.prog 33 #[.func (.yield l) #[] #[], .pointer (some ⟨Bs, 0, none⟩)] W fun e W' => (∃ v, e = .returned v) ∧
      ((∃ ys, ys = xs ∧ J ys W') ∨ (∃ pre, pre <+: xs ∧ Jx pre W')) := by
  have hmax : xs.length ≤ 9223372036854775807 := Kd.F_max hF
  have HF := Lib.hid hF
  clear hF
  refine callsIn_of_wp Try.func33 rfl h33 ?_ hro
  simp only [Try.ntmps33, List.size_toArray, List.length_cons, List.length_nil, Nat.reduceAdd, Nat.reduceSub, Array.replicate_succ, Array.replicate_zero, List.push_toArray, List.append_toArray, List.nil_append, List.cons_append]
  gi_wp2
  gi_loopw [7] (fun i wr => ∃ k : Nat, k ≤ xs.length ∧ i = .int .i64 k ∧ J (xs.take k) wr ∧ Below n₀ W wr)
    (fun i _ => xs.length - (intOf i).toNat)
  case atStart => exact ⟨0, Nat.zero_le _, rfl, h0, Below.refl _ _⟩
  case round =>
    obtain ⟨k, hk, rfl, hJs, hnx⟩ := hrel
    have HN := Lib.hid hnx
    clear hnx
    by_cases hlt : k < xs.length
    · obtain ⟨ad, hA, hx0, hx1⟩ := at_T42 (Kd.F_now (F_belowN HF.out HN.out)) (k : Int) (by omega) (by exact_mod_cast hlt)
      subst hA
      simp only [Int.toNat_natCast] at hx0 hx1
      obtain ⟨x, hx⟩ : ∃ x, rd_T42 xs (k : Int) = x := ⟨_, rfl⟩
      have htk := take_rd xs k hlt
      rw [hx] at hx0 hx1 htk
      have HX := Lib.hid htk
      clear hx htk
      obtain ⟨x0, x1⟩ := x
      have hJs' : J (xs.take k) (wr.alloc (.cells #[.int .i64 x0, .int .i64 x1] 42)) := by
        exact hJ _ _ _ none hJs (World.grownBy_alloc _ _ _) (fun r e => by cases e)
      have hk' : (xs.take k).length < xs.length := by rw [List.length_take]; omega
      obtain ⟨fn, tmps, assign, body, hy, hR⟩ := hY _ ⟨x0, x1⟩ _ hJs' hk'
      dsimp only at hy
      clear hJs hJs' hk'
      gi_wp2
      refine hR.mono ?_
      rintro e W3 (⟨rfl, hJ3, hk3⟩ | ⟨rfl, hJx3⟩)
      · gi_wp2
        go_roundw
        case rel => exact ⟨k + 1, by omega, by simp, by rw [HX.out]; exact hJ3, (HN.out.alloc (Nat.le_trans hn0 HN.out.size) _).trans hk3⟩
        case measure => simp [intOf]; omega
      · gi_wp2
        refine bodyPost_ret (results_none rfl _ _ _) rfl ?_
        exact ⟨⟨_, rfl⟩, .inr ⟨_, ⟨xs.drop (k + 1), by rw [← HX.out]; exact List.take_append_drop _ _⟩, hJx3⟩⟩
    · obtain rfl : k = xs.length := by omega
      gi_wp2
      go_end0
      exact ⟨⟨_, rfl⟩, .inl ⟨_, rfl, by rw [List.take_length] at hJs; exact hJs⟩⟩

theorem values33_stops (F : Fence) (n : Nat) (h33 : F.fn 33) (hro : F.round = none) (hn : 1 ≤ n) (Bs n₀ : Nat) (A : Option Addr) (c : Nat) (xs : List S42) (w : World) (hBs : Bs < w.heap.size) (hn₀ : n₀ ≤ w.heap.size)
    (hc : w.cell? ⟨Bs, 0, none⟩ = some (.slice A xs.length c)) (hF : Kd.F k42 w (fun k => k < n₀) A xs.length xs) :
    SeqStopsK F n Try.prog 33 #[.pointer (some ⟨Bs, 0, none⟩)] (fun x : S42 => #[Value.agg #[.int .i64 x.f0, .int .i64 x.f1]]) (Below n₀) (fun ys => ys = xs) (fun pre => pre <+: xs) xs.length w := fun l J Jx W hW hJ _ hY h0 =>
  values33_in F n h33 hro hn l Bs n₀ A c xs J Jx W hJ hY (Nat.le_trans hn₀ hW.size) ((hW.cell (p := ⟨Bs, 0, none⟩) hBs).trans hc) (F_belowN hF (hW.mono hn₀)) h0

theorem values29_in (F : Fence) (n : Nat) (h29 : F.fn 29) (hro : F.round = none) (a : Option Addr) (len cap : Nat) (w : World) :
    CallsIn F n Try.prog 29 #[.slice a len cap] w fun e w' => e = .returned (.func (.func 33) #[] #[.pointer (some ⟨w.heap.size, 0, none⟩)]) ∧ w' = w.alloc (.cells #[.slice a len cap] 26) := by
  refine callsIn_of_wp Try.func29 rfl h29 ?_ hro
  simp only [Try.ntmps29, List.size_toArray, List.length_cons, List.length_nil, Nat.reduceAdd, Nat.reduceSub, Array.replicate_succ, Array.replicate_zero, List.push_toArray, List.append_toArray, List.nil_append, List.cons_append]
  gi_wp2
  go_ret
  exact ⟨rfl, rfl⟩

def sumW (n : Int) (l : List S42) : Int := l.foldl (fun n x => wrap64 (n + x.f1)) n
theorem sumW_snoc (n : Int) (l : List S42) (x : S42) : sumW n (l ++ [x]) = wrap64 (sumW n l + x.f1) := by simp [sumW]

theorem blk_own {W W' : World} {g : Nat} {row : Option Nat} {cs : Array Value} {t : TypeId} (h : W.heap[g]? = some (.cells cs t (0, 0))) (hg : W.grownBy W' row) (hr : ∀ r, row = some r → ∃ o : Obj, W.heap[r]? = some o ∧ o.isCells = false) :
    W'.heap[g]? = some (.cells cs t (0, 0)) :=
  (hg.block g (blk_lt h) (fun e => by
    obtain ⟨o, ho, hc⟩ := hr g e.symm
    rw [h] at ho
    injection ho with ho
    subst ho
    simp [Obj.isCells] at hc)).trans h

set_option maxRecDepth 100000 in
set_option maxHeartbeats 2000000 in
theorem folded27 (A : Option Addr) (c : Nat) (xs : List S42) (w : World)
    (hF : Kd.F k42 w (fun k => k < w.heap.size) A xs.length xs) (s0 : Int) :
    Calls Try.prog 27 #[.slice A xs.length c, .int .i64 s0, .func (.func 28) #[] #[]] w fun e W' => e = .returned (.int .i64 (sumW s0 xs)) ∧ Below w.heap.size w W' := by
  refine (callsIn_wide (n := 9)).1 ?_
  refine callsIn_of_wp_marks Try.func27 rfl trivial ?_ rfl
  simp only [Try.ntmps27, List.size_toArray, List.length_cons, List.length_nil, Nat.reduceAdd, Nat.reduceSub, Array.replicate_succ, Array.replicate_zero, List.push_toArray, List.append_toArray, List.nil_append, List.cons_append]
  gi_wp2_with (refine ⟨trivial, ?_⟩; gi_at_call 29; refine (values29_in Fence.wide 8 trivial rfl _ _ _ _).mono ?_; rintro e w' ⟨rfl, rfl⟩)
  have b0 := blk_alloc (blk_alloc (blk_new w (.cells #[.int .i64 s0] 3)) (.cells #[.func (.func 28) #[] #[]] 65)) (.cells #[.slice A xs.length c] 26)
  have b1 := blk_alloc (blk_new (w.alloc (.cells #[.int .i64 s0] 3)) (.cells #[.func (.func 28) #[] #[]] 65)) (.cells #[.slice A xs.length c] 26)
  have b2 := blk_new ((w.alloc (.cells #[.int .i64 s0] 3)).alloc (.cells #[.func (.func 28) #[] #[]] 65)) (.cells #[.slice A xs.length c] 26)
  rw [World.size_alloc] at b1
  rw [World.size_alloc, World.size_alloc] at b2
  have hB0 : Below w.heap.size w (((w.alloc (.cells #[.int .i64 s0] 3)).alloc (.cells #[.func (.func 28) #[] #[]] 65)).alloc (.cells #[.slice A xs.length c] 26)) := (((Below.refl _ w).alloc (Nat.le_refl _) _).alloc (by simp) _).alloc (by simp; omega) _
  have hF0 := F_belowN hF hB0
  obtain ⟨W0, hW0⟩ : ∃ W0, ((w.alloc (.cells #[.int .i64 s0] 3)).alloc (.cells #[.func (.func 28) #[] #[]] 65)).alloc (.cells #[.slice A xs.length c] 26) = W0 := ⟨_, rfl⟩
  have hsz : W0.heap.size = w.heap.size + 3 := by rw [← hW0]; simp
  rw [hW0] at b0 b1 b2 hB0 hF0 ⊢
  clear hW0 hF
  refine wpIn_rangeFunc_ownH rfl (by omega) (gf := 33) (lb := #[.pointer (some ⟨w.heap.size + 1 + 1, 0, none⟩)]) rfl trivial (enters_of Try.func33 (by kernel_rfl) rfl)
    (values33_stops Fence.wide 8 trivial rfl (by omega) (w.heap.size + 1 + 1) w.heap.size A c xs W0 (by omega) (by omega) (blk_cell b2 0) hF0) belowK_t (belowK_b (by omega)) (Below.refl _ _) (fun _ => rfl)
    (fun pre W => (W.heap[w.heap.size]? = some (.cells #[.int .i64 (sumW s0 pre)] 3 (0, 0)) ∧ W.heap[w.heap.size + 1]? = some (.cells #[.func (.func 28) #[] #[]] 65 (0, 0))) ∧ Below w.heap.size w W)
    (fun _ _ _ => False)
    (OwnFrom.and (Own.from (fun s A B row hs hg hr => ⟨blk_own hs.1 hg hr, blk_own hs.2 hg hr⟩) _) (ownFrom_below (Nat.le_refl _) (by omega)))
    (fun _ _ _ _ _ hs _ _ => hs)
    ⟨⟨b0, b1⟩, hB0⟩
    (fun x a' W => ∃ Bx, W.heap[Bx]? = some (.cells #[.int .i64 x.f0, .int .i64 x.f1] 42 (0, 0)) ∧ a' = { tmps := #[Value.slice A xs.length c, Value.int IntKind.i64 s0, Value.func (Fn.func 28) #[] #[], undef, Value.pointer (some { block := w.heap.size, off := 0 }), Value.pointer (some { block := w.heap.size + 1, off := 0 }), Value.int IntKind.i64 0, .pointer (some ⟨Bx, 0, none⟩), Value.slice A xs.length c, Value.func (Fn.func 33) #[] #[Value.pointer (some { block := w.heap.size + 1 + 1, off := 0 })], .agg #[.int .i64 x.f0, .int .i64 x.f1], undef, undef, undef, undef, undef], defers := [] })
    (fun x a' s A B row hs hg hr => by
      obtain ⟨Bx, h2, h3⟩ := hs
      exact ⟨Bx, blk_own h2 hg (fun r e => (hr r e).2), h3⟩) ?assign ?body ?done ?stop
  case assign =>
    rintro l pre x W K ⟨⟨i0, i1⟩, iB⟩ hK
    have hlt := blk_lt i1
    have HK := Lib.hid hK
    clear hK
    gi_wp2
    exact HK.out _ _ ((KeepsOthers.alloc _ _).from _) ((Below.refl _ W).alloc iB.size _) ⟨⟨blk_alloc i0 _, blk_alloc i1 _⟩, iB.alloc iB.size _⟩ ⟨W.heap.size, blk_new W _, rfl⟩
  case body =>
    rintro l pre x a' W hl ⟨r, hr⟩ ⟨⟨i0, i1⟩, iB⟩ ⟨Bx, bX, rfl⟩ hlt
    have c0 : W.cell? ⟨w.heap.size, 0, none⟩ = _ := blk_cell i0 0
    have f0 := blk_frozen i0 0
    have c1 : W.cell? ⟨w.heap.size + 1, 0, none⟩ = _ := blk_cell i1 0
    have d0 : W.cell? ⟨Bx, 0, none⟩ = _ := blk_cell bX 0
    have d1 : W.cell? ⟨Bx, 1, none⟩ = _ := blk_cell bX 1
    simp at c0 c1 d0 d1
    have I0 := Lib.hid i0
    have I1 := Lib.hid i1
    have IB := Lib.hid iB
    have BX := Lib.hid bX
    have HR := Lib.hid hr
    have hs0 := blk_lt i0
    clear i0 i1 iB bX hr
    gi_wp2_with (refine ⟨trivial, ?_⟩; gi_at_call 28; refine (CallsIn.inRound l (callsIn_wide.2 (add28 _ _ _ _))).mono ?_; rintro e w' ⟨rfl, rfl⟩)
    have hsz' : w.heap.size ≤ (W.setCell ⟨w.heap.size, 0, none⟩ (.int .i64 (wrap64 (sumW s0 pre + x.f1)))).heap.size := by simpa using IB.out.size
    refine ⟨((KeepsOthers.setCell _ _ _).trans (KeepsOthers.alloc _ _)).from _, ((Below.refl w.heap.size W).setCell (p := ⟨w.heap.size, 0, none⟩) (Nat.le_refl _) _).alloc hsz' _, ⟨?_, ?_⟩, (IB.out.setCell (p := ⟨w.heap.size, 0, none⟩) (Nat.le_refl _) _).alloc hsz' _⟩
    · have h := blk_alloc (blk_set I0.out 0 (.int .i64 (wrap64 (sumW s0 pre + x.f1)))) (.cells #[.int .i64 x.f0, .int .i64 x.f1] 42)
      rw [sumW_snoc]
      simpa using h
    · exact blk_alloc (blk_far I1.out (by simp) _) _
  case done =>
    rintro D ys W hD rfl ⟨⟨i0, i1⟩, iB⟩ hK
    have c0 : W.cell? ⟨w.heap.size, 0, none⟩ = _ := blk_cell i0 0
    simp at c0
    have IB := Lib.hid iB
    clear i0 i1 iB
    gi_wp2
    refine ⟨by simp, .inl ⟨_, _, rfl, run_takeDeferred hK, ?_⟩⟩
    exact ⟨_, results_tmp rfl _ _ _, rfl, IB.out.trans (belowK_b (w := w) (Nat.le_refl _) W D _ _ (by omega) hK rfl rfl)⟩
  case stop =>
    rintro D c pre W _ _ h _
    exact h.elim

theorem steps17 (t : S32) (A : Option Addr) (c : Nat) (w : World) (hF : Kd.F k42 w (fun k => k < w.heap.size) A t.f1.length t.f1) :
    Calls Try.prog 17 #[.agg #[.int .u32 t.f0, .slice A t.f1.length c, .int .i64 t.f2.f0, .int .i64 t.f2.f1, .int .i64 t.f2.f2, .int .i64 t.f2.f3]] w fun e w' => e = .returned (.int .i64 (sumW 0 t.f1)) ∧ Below w.heap.size w w' := by
  have hF1 : ∀ o, Kd.F k42 (w.alloc o) (fun k => k < (w.alloc o).heap.size) A t.f1.length t.f1 := fun o => Kd.F_mono (Kd.F_alloc hF o) (fun k hk => by simp; omega)
  go_enter Try.func17, Try.ntmps17
  go_wp2_with (first | (go_at_call 27; refine (folded27 _ _ _ _ (hF1 _) _).mono ?_; rintro e w1 ⟨rfl, hb1⟩))
  go_ret
  exact ⟨rfl, ((Below.refl w.heap.size w).alloc (Nat.le_refl _) _).trans (hb1.mono (by simp))⟩
end Go.Proofs.Ytlpfjlmeohaagaa
