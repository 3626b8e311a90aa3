/- The walks of TapeJoins, part E: tape.folded to turns. -/
import Derived.Test.YtlpfjlmeohaagaaD
namespace Go.Proofs.Ytlpfjlmeohaagaa
open Go.RowKit Go.Shelf Go.Proofs.Ytlpfjlmeohaagaa.PTapeJoins Go.Proofs.YtlpfjlmeohaagaaW.PrintWords
set_option linter.unusedVariables false
set_option linter.unusedSimpArgs false
attribute [local go_sem] Oper.semAt_some

def puts (l0 l : List S42) : List S42 := l.foldl (fun a x => putL a x.f0 x.f1) l0
theorem puts_snoc (l0 l : List S42) (x : S42) : puts l0 (l ++ [x]) = putL (puts l0 l) x.f0 x.f1 := by simp [puts]
theorem putL_length (l : List S42) (a b : Int) : (putL l a b).length ≤ l.length + 1 := by
  unfold putL
  split
  · simp
  · split <;> simp
theorem puts_length (l0 l : List S42) : (puts l0 l).length ≤ l0.length + l.length := by
  induction l generalizing l0 with
  | nil => simp [puts]
  | cons x l ih =>
    have h1 := ih (putL l0 x.f0 x.f1)
    have h2 := putL_length l0 x.f0 x.f1
    simp only [puts, List.foldl_cons, List.length_cons] at h1 ⊢
    omega

set_option maxRecDepth 100000 in
set_option maxHeartbeats 2000000 in
theorem folded18 (A : Option Addr) (c : Nat) (xs : List S42) (w : World) (n₀ base : Nat) (hn : n₀ ≤ base) (hbase : base ≤ w.heap.size)
    (hF : Kd.F k42 w (fun k => k < n₀) A xs.length xs) (A0 : Option Addr) (c0 : Nat) (l0 : List S42) (HO : OwnT w base (.slice A0 l0.length c0) l0) (hl : l0.length + xs.length ≤ 1000000) :
    Calls Try.prog 18 #[.slice A xs.length c, .slice A0 l0.length c0, .func (.func 19) #[] #[]] w (PutPost base w (.slice A0 l0.length c0) (puts l0 xs)) := by
  have HO1 := Lib.hid HO
  clear HO
  refine (callsIn_wide (n := 9)).1 ?_
  refine callsIn_of_wp_marks Try.func18 rfl trivial ?_ rfl
  simp only [Try.ntmps18, List.size_toArray, List.length_cons, List.length_nil, Nat.reduceAdd, Nat.reduceSub, Array.replicate_succ, Array.replicate_zero, List.push_toArray, List.append_toArray, List.nil_append, List.cons_append]
  gi_wp2_with (refine ⟨trivial, ?_⟩; gi_at_call 29; refine (values29_in Fence.wide 8 trivial rfl _ _ _ _).mono ?_; rintro e w' ⟨rfl, rfl⟩)
  have b0 := blk_alloc (blk_alloc (blk_new w (.cells #[.slice A0 l0.length c0] 26)) (.cells #[.func (.func 19) #[] #[]] 57)) (.cells #[.slice A xs.length c] 26)
  have b1 := blk_alloc (blk_new (w.alloc (.cells #[.slice A0 l0.length c0] 26)) (.cells #[.func (.func 19) #[] #[]] 57)) (.cells #[.slice A xs.length c] 26)
  have b2 := blk_new ((w.alloc (.cells #[.slice A0 l0.length c0] 26)).alloc (.cells #[.func (.func 19) #[] #[]] 57)) (.cells #[.slice A xs.length c] 26)
  rw [World.size_alloc] at b1
  rw [World.size_alloc, World.size_alloc] at b2
  have hB0 : Below w.heap.size w (((w.alloc (.cells #[.slice A0 l0.length c0] 26)).alloc (.cells #[.func (.func 19) #[] #[]] 57)).alloc (.cells #[.slice A xs.length c] 26)) := (((Below.refl _ w).alloc (Nat.le_refl _) _).alloc (by simp) _).alloc (by simp; omega) _
  have hF0 := F_belowN hF (hB0.mono (Nat.le_trans hn hbase))
  obtain ⟨W0, hW0⟩ : ∃ W0, ((w.alloc (.cells #[.slice A0 l0.length c0] 26)).alloc (.cells #[.func (.func 19) #[] #[]] 57)).alloc (.cells #[.slice A xs.length c] 26) = W0 := ⟨_, rfl⟩
  have hsz : W0.heap.size = w.heap.size + 3 := by rw [← hW0]; simp
  rw [hW0] at b0 b1 b2 hB0 hF0 ⊢
  clear hW0 hF
  refine wpIn_rangeFunc_ownH rfl (by omega) (gf := 33) (lb := #[.pointer (some ⟨w.heap.size + 1 + 1, 0, none⟩)]) rfl trivial (enters_of Try.func33 (by kernel_rfl) rfl)
    (values33_stops Fence.wide 8 trivial rfl (by omega) (w.heap.size + 1 + 1) n₀ A c xs W0 (by omega) (by omega) (blk_cell b2 0) hF0) belowK_t (belowK_b (by omega)) (Below.refl _ _) (fun _ => rfl)
    (fun pre W => ((∃ v, Boxed W w.heap.size 26 v ∧ W.ownsRow base 42 2 v (puts l0 pre).length (tc (puts l0 pre)) ∧ (v.ownBlock = (Value.slice A0 l0.length c0).ownBlock ∨ ∃ b, v.ownBlock = some b ∧ w.heap.size ≤ b)) ∧ W.heap[w.heap.size + 1]? = some (.cells #[.func (.func 19) #[] #[]] 57 (0, 0))) ∧ w.grownBy W (Value.slice A0 l0.length c0).ownBlock)
    (fun _ _ _ => False)
    (OwnFrom.and (OwnFrom.and (Own.from (holdsRow_own base w.heap.size 26 42 2 (fun pre => (puts l0 pre).length) (fun pre => tc (puts l0 pre)) (fun pre v => (v.ownBlock = (Value.slice A0 l0.length c0).ownBlock ∨ ∃ b, v.ownBlock = some b ∧ w.heap.size ≤ b))) _) (Own.from (fun s A B row hs hg hr => blk_own hs hg hr) _)) (fun s A B row hs hg hr => World.grownBy.andThen hs hg (fun k hk => .inl (by have := (hr k hk).1; omega))))
    (fun _ _ _ _ _ hs _ _ => hs)
    ⟨⟨⟨_, b0, HO1.out.below hB0, .inl rfl⟩, b1⟩, grown_of_below hB0 _⟩
    (fun x a' W => ∃ Bx, W.heap[Bx]? = some (.cells #[.int .i64 x.f0, .int .i64 x.f1] 42 (0, 0)) ∧ a' = { tmps := #[Value.slice A xs.length c, Value.slice A0 l0.length c0, Value.func (Fn.func 19) #[] #[], undef, Value.pointer (some { block := w.heap.size, off := 0 }), Value.pointer (some { block := w.heap.size + 1, off := 0 }), Value.slice none 0 0, .pointer (some ⟨Bx, 0, none⟩), Value.slice A xs.length c, Value.func (Fn.func 33) #[] #[Value.pointer (some { block := w.heap.size + 1 + 1, off := 0 })], .agg #[.int .i64 x.f0, .int .i64 x.f1], undef, undef, undef, undef, undef], defers := [] })
    (fun x a' s A B row hs hg hr => by
      obtain ⟨Bx, h2, h3⟩ := hs
      exact ⟨Bx, blk_own h2 hg (fun r e => (hr r e).2), h3⟩) ?assign ?body ?done ?stop
  case assign =>
    rintro l pre x W K ⟨⟨⟨v, i0, iO, iv⟩, i1⟩, iG⟩ hK
    have HK := Lib.hid hK
    have HI := Lib.hid (And.intro i0 (And.intro iO (And.intro iv (And.intro i1 iG))))
    clear hK i0 iO iv i1 iG
    gi_wp2
    obtain ⟨i0, iO, iv, i1, iG⟩ := HI.out
    exact HK.out _ _ ((KeepsOthers.alloc _ _).from _) ((Below.refl _ W).alloc (Nat.le_trans (Nat.le_trans hn hbase) iG.size) _) ⟨⟨⟨v, blk_alloc i0 _, iO.alloc _, iv⟩, blk_alloc i1 _⟩, iG.trans (World.grownBy_alloc _ _ _)⟩ ⟨W.heap.size, blk_new W _, rfl⟩
  case body =>
    rintro l pre x a' W hl ⟨r, hr⟩ ⟨⟨⟨v, i0, iO, iv⟩, i1⟩, iG⟩ ⟨Bx, bX, rfl⟩ hlt
    have iO' : OwnT W base v (puts l0 pre) := iO
    obtain ⟨Av, cv, rfl, hcv, hCv⟩ := iO'.reads
    have c0 : W.cell? ⟨w.heap.size, 0, none⟩ = _ := blk_cell i0 0
    have f0 := blk_frozen i0 0
    have c1 : W.cell? ⟨w.heap.size + 1, 0, none⟩ = _ := blk_cell i1 0
    have d0 : W.cell? ⟨Bx, 0, none⟩ = _ := blk_cell bX 0
    have d1 : W.cell? ⟨Bx, 1, none⟩ = _ := blk_cell bX 1
    simp at c0 c1 d0 d1
    have hpl := puts_length l0 pre
    have HP := put19 base (puts l0 pre) Av cv x.f0 x.f1 W iO' (Nat.le_trans hbase iG.size) (by omega)
    have HP' := Lib.hid HP
    have HI := Lib.hid (And.intro i0 (And.intro iO (And.intro iv (And.intro i1 iG))))
    have HR := Lib.hid hr
    have hs0 := blk_lt i0
    clear i0 iO iv i1 iG iO' bX hr hCv HP
    gi_wp2_with (refine ⟨trivial, ?_⟩; gi_at_call 19; refine (CallsIn.inRound l (callsIn_wide.2 HP'.out)).mono ?_; rintro e w' ⟨v', rfl, p1, p2, p3⟩; have g0 := (blk_grown HI.out.1 p2 (own_ne HI.out.2.1 HI.out.1 (by decide))); have e0 : w'.cell? ⟨w.heap.size, 0, none⟩ = _ := blk_cell g0 0; have e1 := blk_frozen g0 0; simp at e0; have G0 := Lib.hid g0; clear g0; obtain ⟨A2, c2, rfl, _, _⟩ := p1.reads; have P := Lib.hid (And.intro p1 (And.intro p2 p3)); clear p1 p2 p3)
    obtain ⟨p1, p2, p3⟩ := P.out
    obtain ⟨i0, iO, iv, i1, iG⟩ := HI.out
    have hlen : (putL (puts l0 pre) x.f0 x.f1) = puts l0 (pre ++ [x]) := (puts_snoc _ _ _).symm
    rw [hlen] at p1 p3 ⊢
    have hown : ∀ k, (Value.slice Av (puts l0 pre).length cv).ownBlock = some k → base ≤ k := own_base iO
    have q1 : w'.heap[w.heap.size]? = _ := G0.out
    have q2 := blk_set q1 0 (.slice A2 (puts l0 (pre ++ [x])).length c2)
    have hne1 : some w.heap.size ≠ (Value.slice A2 (puts l0 (pre ++ [x])).length c2).ownBlock := own_ne p1 q1 (by decide)
    have hsz1 : w.heap.size ≤ W.heap.size := iG.size
    refine ⟨(KeepsOthers.trans (KeepsOthers.of_grownBy p2 ?_) (KeepsOthers.setCell _ _ _)).from _, ?_, ⟨⟨⟨_, ?_, own_setCell p1 (by simpa using hne1) _, ?_⟩, ?_⟩, ?_⟩⟩
    · intro k o hk ho
      obtain ⟨cs, hcs⟩ := own_typed iO k hk
      rw [hcs] at ho
      injection ho with ho
      subst ho
      rfl
    · exact ((Below.refl n₀ W).grown p2 (Nat.le_trans (Nat.le_trans hn hbase) hsz1) (fun k hk => Nat.le_trans hn (hown k hk))).setCell (p := ⟨w.heap.size, 0, none⟩) (Nat.le_trans hn hbase) _
    · simpa [Boxed] using q2
    · rcases p3 with p3 | ⟨b, hb, hle⟩
      · rw [p3]; exact iv
      · exact .inr ⟨b, hb, Nat.le_trans hsz1 hle⟩
    · refine blk_far (blk_grown i1 p2 (own_ne iO i1 (by decide))) (by simp) _
    · refine World.grownBy.andThen (World.grownBy.andThen iG p2 ?_) (gset (World.grownBy.refl _ _) 0 _) (fun k hk => .inl (by injection hk with hk; omega))
      · intro k hk
        rcases iv with iv | ⟨b, hb, hle⟩
        · right; rw [← iv]; exact hk
        · left; rw [hb] at hk; injection hk with hk; omega
  case done =>
    rintro D ys W hD rfl ⟨⟨⟨v, i0, iO, iv⟩, i1⟩, iG⟩ hK
    have c0 : W.cell? ⟨w.heap.size, 0, none⟩ = _ := blk_cell i0 0
    simp at c0
    have HI := Lib.hid (And.intro iO (And.intro iv iG))
    clear i0 i1 iO iv iG
    gi_wp2
    refine ⟨by simp, .inl ⟨_, _, rfl, run_takeDeferred hK, ?_⟩⟩
    obtain ⟨iO, iv, iG⟩ := HI.out
    refine ⟨_, results_tmp rfl _ _ _, v, rfl, ownsRow_putObj iO _ hK rfl, ?_, iv⟩
    exact World.grownBy.andThen iG (grownBy_putObj' W D (.deferred none)) (fun k hk => .inl (by injection hk with hk; omega))
  case stop =>
    rintro D c pre W _ _ h _
    exact h.elim
end Go.Proofs.Ytlpfjlmeohaagaa
