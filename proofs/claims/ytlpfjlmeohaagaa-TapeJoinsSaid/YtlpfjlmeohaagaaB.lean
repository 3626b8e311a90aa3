/- The walks of TapeJoins, part B: tape.of, the closures that clear a result, tape.caught. -/
import Derived.Test.YtlpfjlmeohaagaaA
namespace Go.Proofs.Ytlpfjlmeohaagaa
open Go.RowKit Go.Proofs.Ytlpfjlmeohaagaa.PTapeJoins Go.Proofs.YtlpfjlmeohaagaaW.PrintWords
set_option linter.unusedVariables false
set_option linter.unusedSimpArgs false

theorem of_yes (t : S32) (A : Option Addr) (c : Nat) (w : World) (hC : Kd.C k42 w A t.f1.length t.f1) (hc : t.f1.length ≤ c) (hok : okB t = true) :
    Calls Try.prog 16 #[.agg #[.int .u32 t.f0, .slice A t.f1.length c, .int .i64 t.f2.f0, .int .i64 t.f2.f1, .int .i64 t.f2.f2, .int .i64 t.f2.f3]] w fun e w' =>
      e = .returned (.agg #[.int .u32 t.f0, .slice A t.f1.length c, .int .i64 t.f2.f0, .int .i64 t.f2.f1, .int .i64 t.f2.f2, .int .i64 t.f2.f3]) ∧ Below w.heap.size w w' := by
  have hv : chkV (okB t) = 0 := by simp [chkV, hok]
  have HV := Lib.hid hv
  clear hv hok
  have K := fun (o1 o2 : Obj) => check20 t A c _ (Kd.C_below (Kd.C_below hC (below_alloc (Below.refl _ w) o1)) (below_alloc (Below.refl _ _) o2)) hc
  rw [HV.out] at K
  have HC := Lib.hid hC
  clear hC
  go_enter Try.func16, Try.ntmps16
  go_wp2_with (first | (go_at_call 20; refine (K _ _).mono ?_; rintro e w1 ⟨rfl, hb1⟩; (obtain ⟨hc1, hf1⟩ := bcell hb1); have hz1 := hb1.size; simp only [World.size_alloc] at hz1) | (go_at_call 15; refine (must_yes _ _).mono ?_; rintro e w2 ⟨rfl, rfl⟩))
  refine bodyPost_ret (v := .agg #[.int .u32 t.f0, .slice A t.f1.length c, .int .i64 t.f2.f0, .int .i64 t.f2.f1, .int .i64 t.f2.f2, .int .i64 t.f2.f3]) ?_ rfl ⟨rfl, ?_⟩
  · simp [results, Try.results16, go_sem, hc1, hz1]
  · have hb1' : Below w.heap.size w w1 := (((Below.refl w.heap.size w).alloc (Nat.le_refl _) _).alloc (by simp) _).trans (hb1.mono (by simp; omega))
    repeat (refine Below.setCell ?_ (Nat.le_add_right _ _) _)
    exact hb1'

theorem of_no (t : S32) (A : Option Addr) (c : Nat) (w : World) (hC : Kd.C k42 w A t.f1.length t.f1) (hc : t.f1.length ≤ c) (hok : okB t = false) :
    Calls Try.prog 16 #[.agg #[.int .u32 t.f0, .slice A t.f1.length c, .int .i64 t.f2.f0, .int .i64 t.f2.f1, .int .i64 t.f2.f2, .int .i64 t.f2.f3]] w fun e w' =>
      e = .panicked [{ v := .iface 33 (.int .i64 2), recovered := false }] ∧ Below w.heap.size w w' := by
  have hv : chkV (okB t) = 2 := by simp [chkV, hok]
  have HV := Lib.hid hv
  clear hv hok
  have K := fun (o1 o2 : Obj) => check20 t A c _ (Kd.C_below (Kd.C_below hC (below_alloc (Below.refl _ w) o1)) (below_alloc (Below.refl _ _) o2)) hc
  rw [HV.out] at K
  have HC := Lib.hid hC
  clear hC
  go_enter Try.func16, Try.ntmps16
  go_wp2_with (first | (go_at_call 20; refine (K _ _).mono ?_; rintro e w1 ⟨rfl, hb1⟩; (obtain ⟨hc1, hf1⟩ := bcell hb1); have hz1 := hb1.size; simp only [World.size_alloc] at hz1) | (go_at_call 15; refine (must_no _ _).mono ?_; rintro e w2 ⟨rfl, rfl⟩))
  refine ⟨rfl, rfl, ?_⟩
  exact (((Below.refl w.heap.size w).alloc (Nat.le_refl _) _).alloc (by simp) _).trans (hb1.mono (by simp; omega))


/-- The cells of a block that is known whole. -/
theorem blk_known {w : World} {g : Nat} {t : TypeId} {cs : Array Value} (h : w.heap[g]? = some (.cells cs t (0, 0))) : (∀ i, w.cell? ⟨g, i, none⟩ = cs[i]?) ∧ (∀ i, w.frozen? ⟨g, i, none⟩ = false) := ⟨fun i => blk_cell h i, fun i => blk_frozen h i⟩

theorem gset {a w : World} {b : Nat} (h : a.grownBy w (some b)) (i : Nat) (v : Value) : a.grownBy (w.setCell ⟨b, i, none⟩ v) (some b) :=
  h.trans ⟨rfl, rfl, rfl, by simp, fun k hk hne => Below.heap_setCell w ⟨b, i, none⟩ v k (fun e => hne (by rw [e]))⟩

theorem clear14 (w : World) (b : Nat) (c0 c1 c2 c3 c4 c5 : Value) (hh : w.heap[b]? = some (.cells #[c0, c1, c2, c3, c4, c5] 32 (0, 0))) :
    Calls Try.prog 14 #[.pointer (some ⟨b, 0, none⟩)] w fun e w' => e = .returned (.tuple #[]) ∧ w.grownBy w' (some b) ∧ w'.heap[b]? = some (.cells #[.int .u32 0, .slice none 0 0, .int .i64 0, .int .i64 0, .int .i64 0, .int .i64 0] 32 (0, 0)) := by
  have f0 : ∀ i, w.frozen? ⟨b, i, none⟩ = false := fun i => blk_frozen hh i
  have h0 : w.cell? ⟨b, 0, none⟩ = some c0 := blk_cell hh 0
  have h1 : w.cell? ⟨b, 1, none⟩ = some c1 := blk_cell hh 1
  have h2 : w.cell? ⟨b, 2, none⟩ = some c2 := blk_cell hh 2
  have h3 : w.cell? ⟨b, 3, none⟩ = some c3 := blk_cell hh 3
  have h4 : w.cell? ⟨b, 4, none⟩ = some c4 := blk_cell hh 4
  have h5 : w.cell? ⟨b, 5, none⟩ = some c5 := blk_cell hh 5
  have HH := Lib.hid hh
  clear hh
  go_enter Try.func14, Try.ntmps14
  go_wp2
  go_end0
  refine ⟨rfl, ?_, ?_⟩
  · repeat (refine gset ?_ _ _)
    exact World.grownBy.refl _ _
  · have hh := HH.out
    have hh := blk_set hh 0 (.int .u32 0)
    have hh := blk_set hh 1 (.slice none 0 0)
    have hh := blk_set hh 2 (.int .i64 0)
    have hh := blk_set hh 3 (.int .i64 0)
    have hh := blk_set hh 4 (.int .i64 0)
    have hh := blk_set hh 5 (.int .i64 0)
    simpa using hh

theorem clear24 (w : World) (b : Nat) (c0 : Value) (hh : w.heap[b]? = some (.cells #[c0] 3 (0, 0))) :
    Calls Try.prog 24 #[.pointer (some ⟨b, 0, none⟩)] w fun e w' => e = .returned (.tuple #[]) ∧ w.grownBy w' (some b) ∧ w'.heap[b]? = some (.cells #[.int .i64 0] 3 (0, 0)) := by
  have f0 : ∀ i, w.frozen? ⟨b, i, none⟩ = false := fun i => blk_frozen hh i
  have h0 : w.cell? ⟨b, 0, none⟩ = some c0 := blk_cell hh 0
  have HH := Lib.hid hh
  clear hh
  go_enter Try.func24, Try.ntmps24
  go_wp2
  go_end0
  refine ⟨rfl, gset (World.grownBy.refl _ _) _ _, ?_⟩
  have hh := blk_set HH.out 0 (.int .i64 0)
  simpa using hh

theorem clear25 (w : World) (b : Nat) (c0 : Value) (hh : w.heap[b]? = some (.cells #[c0] 22 (0, 0))) :
    Calls Try.prog 25 #[.pointer (some ⟨b, 0, none⟩)] w fun e w' => e = .returned (.tuple #[]) ∧ w.grownBy w' (some b) ∧ w'.heap[b]? = some (.cells #[.slice none 0 0] 22 (0, 0)) := by
  have f0 : ∀ i, w.frozen? ⟨b, i, none⟩ = false := fun i => blk_frozen hh i
  have h0 : w.cell? ⟨b, 0, none⟩ = some c0 := blk_cell hh 0
  have HH := Lib.hid hh
  clear hh
  go_enter Try.func25, Try.ntmps25
  go_wp2
  go_end0
  refine ⟨rfl, gset (World.grownBy.refl _ _) _ _, ?_⟩
  have hh := blk_set HH.out 0 (.slice none 0 0)
  simpa using hh

theorem caught_idle (p : Addr) (f : Value) (w : World) :
    CallsD Try.prog 13 #[.pointer (some p), f] .returning w fun e u' w' => e = .returned (.tuple #[]) ∧ u' = .returning ∧ w' = w := by
  refine callsD_of_wpS Try.func13 rfl fun c₀ cs hu => ?_
  apply wpS_seq
  apply wpS_region
  simp [wpOpsS, go_sem, recoverD, hu, Try.ntmps13, Exit.thenS]
  apply wpS_seq
  apply wpS_region
  simp [wpOpsS, go_sem, recoverD, hu, Try.ntmps13, Exit.thenS]
  refine wpS_cond (t := false) (by simp [Act.eval, Array.replicate]) ?_
  simp only [Bool.false_eq_true, if_false]
  refine wpS_of_wp (wp_skip ?_)
  cases c₀
  simp_all [bodyPostS, results, Try.results13]

theorem ta33 (n : Int) (w : World) : (Instr.typeAssert (.iface 33 (.int .i64 n)) 20 33 false).run Try.prog w = .ok (.int .i64 n) w := by kernel_rfl

theorem caught_panics (pe b G : Nat) (c : Value) (n : Int) (older : List PanicEntry) (w : World) (R : World → Prop) (hcell : w.cell? ⟨pe, 0, none⟩ = some c) (hfr : w.frozen? ⟨pe, 0, none⟩ = false)
    (hent : ∀ args w, (callFunc G args).run Try.prog w = .ok (.enter G args) w)
    (hcall : Calls Try.prog G #[.pointer (some ⟨b, 0, none⟩)] (w.setCell ⟨pe, 0, none⟩ (.int .i64 n)) fun e w' => e = .returned (.tuple #[]) ∧ R w') :
    CallsD Try.prog 13 #[.pointer (some ⟨pe, 0, none⟩), .func (.func G) #[] #[.pointer (some ⟨b, 0, none⟩)]] (.panicking ({ v := .iface 33 (.int .i64 n), recovered := false } :: older)) w fun e u' w' =>
      e = .returned (.tuple #[]) ∧ u' = .panicking ({ v := .iface 33 (.int .i64 n), recovered := true } :: older) ∧ R w' := by
  refine callsD_of_wpS Try.func13 rfl fun c₀ cs hu => ?_
  apply wpS_seq
  apply wpS_region
  simp [wpOpsS, go_sem, recoverD, hu, Try.ntmps13, Exit.thenS]
  apply wpS_seq
  apply wpS_region
  simp [wpOpsS, go_sem, recoverD, hu, Try.ntmps13, Exit.thenS]
  refine wpS_cond (t := true) (by simp [Act.eval, Array.replicate]) ?_
  simp only [if_true]
  refine wpS_of_wp ?_
  have hta := ta33
  have HU := Lib.hid hu
  clear hu
  go_wp2_with fail
  refine hcall.mono ?_
  rintro e w' ⟨rfl, hR⟩
  go_wp2
  exact ⟨rfl, _, rfl, .tuple #[], by simp [results, Try.results13], rfl, rfl, hR⟩

/-- steps$1 -/
theorem add28 (n : Int) (x0 x1 : Int) (w : World) : Calls Try.prog 28 #[.int .i64 n, .agg #[.int .i64 x0, .int .i64 x1]] w fun e w' => e = .returned (.int .i64 (wrap64 (n + x1))) ∧ w' = w.alloc (.cells #[.int .i64 x0, .int .i64 x1] 42) := by
  go_enter Try.func28, Try.ntmps28
  go_wp2
  go_ret
  exact ⟨rfl, rfl⟩
end Go.Proofs.Ytlpfjlmeohaagaa
