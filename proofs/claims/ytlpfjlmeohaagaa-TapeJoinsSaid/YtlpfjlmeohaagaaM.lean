/- The walks of TapeJoins, part M: tape.Cut. -/
import Derived.Test.YtlpfjlmeohaagaaL
import Derived.Deep.RegionHeld3
import Derived.Deep.RegionLawGrows
namespace Go.Proofs.Ytlpfjlmeohaagaa
open Go.RowKit Go.Shelf Go.Proofs.Ytlpfjlmeohaagaa.PTapeJoins Go.Proofs.YtlpfjlmeohaagaaW.PrintWords
set_option linter.unusedVariables false
set_option linter.unusedSimpArgs false

def cutFrom (x0 x1 m : Int) : Nat → Int
  | 0 => 0
  | 1 => x0
  | 2 => x1
  | _ => m
def cutTo (x0 x1 m : Int) : Nat → Int
  | 0 => x0
  | 1 => x1
  | _ => m
def cutP (t : S32) (x0 x1 m : Int) (k : Nat) : S32 := if k < 2 then ⟨(partR t (cutFrom x0 x1 m k) (cutTo x0 x1 m k)).f0, (partR t (cutFrom x0 x1 m k) (cutTo x0 x1 m k)).f1, ⟨1, 0, 0, 0⟩⟩ else partR t (cutFrom x0 x1 m k) (cutTo x0 x1 m k)
def cutL (t : S32) (x0 x1 m : Int) (k : Nat) : List S32 := (List.range k).map (cutP t x0 x1 m)
theorem cutL_succ (t : S32) (x0 x1 m : Int) (k : Nat) : cutL t x0 x1 m (k + 1) = cutL t x0 x1 m k ++ [cutP t x0 x1 m k] := by simp [cutL, List.range_succ]

structure CutSt (t : S32) (A : Option Addr) (c : Nat) (x0 x1 m : Int) (w : World) (bt g3 : Nat) (cur : Array Value) (n3 k : Nat) (v : Value) (wr : World) : Prop where
  ho : wr.heap[w.heap.size + 1]? = some (.cells #[v] 22 (0, 0))
  he : wr.heap[w.heap.size + 1 + 1]? = some (.cells #[.int .i64 0] 33 (0, 0))
  hb : Below w.heap.size w wr
  ht : wr.heap[bt]? = some (.cells #[.int .u32 t.f0, .slice A t.f1.length c, .int .i64 t.f2.f0, .int .i64 t.f2.f1, .int .i64 t.f2.f2, .int .i64 t.f2.f3] 53 (0, 0))
  hr : wr.heap[g3]? = some (.cells cur 3 (0, 0))
  hn : n3 ≤ wr.heap.size
  hR : k32.R 32 wr n3 (fun k => n3 ≤ k) v (cutL t x0 x1 m k)
  l1 : w.heap.size + 1 + 1 < n3
  l2 : bt < n3
  l3 : g3 < n3
  l4 : bt ≠ w.heap.size + 1
  l5 : g3 ≠ w.heap.size + 1

theorem tc_repsM (w : World) (base : Nat) (ok : Nat → Prop) (xs : List S42) : Reps (k42.M w base ok) 2 xs (tc xs) := (tc_reps w xs).imp_ (fun p cs h => by
  have := k42_open h
  subst this
  exact k42_mkM w base ok p)
theorem own_R {W : World} {base base' : Nat} {v : Value} {xs : List S42} (h : OwnT W base v xs) (hb : base' ≤ base) : k42.R 42 W base' (fun k => base ≤ k) v xs :=
  ⟨fun k hk => own_base h k hk, tc xs, own_weaken h hb, tc_repsM _ _ _ _⟩

theorem info32 : (Try.prog.info? 32).map (fun i => (i.zero, i.size, i.bytes)) = some (some (.agg #[(.int .u32 0), .slice none 0 0, (.int .i64 0), (.int .i64 0), (.int .i64 0), (.int .i64 0)]), k32.sz, 64) := by kernel_rfl

theorem cut_next {t : S32} {A : Option Addr} {c : Nat} {x0 x1 m : Int} {w : World} {bt g3 : Nat} {cur : Array Value} {n3 k : Nat} {v v1 : Value} {wr W w5 : World} (h : CutSt t A c x0 x1 m w bt g3 cur n3 k v wr) (hbW : Below wr.heap.size wr W)
    (hb1 : Below n3 W w5) (hR1 : k32.R 32 w5 n3 (fun k => n3 ≤ k) v1 (cutL t x0 x1 m k ++ [cutP t x0 x1 m k])) : CutSt t A c x0 x1 m w bt g3 cur n3 (k + 1) v1 (w5.setCell ⟨w.heap.size + 1, 0, none⟩ v1) where
  ho := by
    have l1 := h.l1
    have h1 := blk_set ((hb1.block (w.heap.size + 1) (by omega)).trans (blk_below h.ho hbW)) 0 v1
    simpa using h1
  he := blk_far ((hb1.block (w.heap.size + 1 + 1) h.l1).trans (blk_below h.he hbW)) (by simp) _
  hb := by
    have l1 := h.l1
    exact ((h.hb.trans (hbW.mono h.hb.size)).trans (hb1.mono (by omega))).setCell (p := ⟨w.heap.size + 1, 0, none⟩) (by simp) _
  ht := blk_far ((hb1.block bt h.l2).trans (blk_below h.ht hbW)) (fun e => h.l4 (by simpa using e)) _
  hr := blk_far ((hb1.block g3 h.l3).trans (blk_below h.hr hbW)) (fun e => h.l5 (by simpa using e)) _
  hn := by
    have h1 := hb1.size
    have h2 := hbW.size
    have h3 := h.hn
    simp
    omega
  hR := by
    have l1 := h.l1
    rw [cutL_succ]
    exact Kd.R_far hR1 (p := ⟨w.heap.size + 1, 0, none⟩) (fun k hk => by show k ≠ w.heap.size + 1; omega) _
  l1 := h.l1
  l2 := h.l2
  l3 := h.l3
  l4 := h.l4
  l5 := h.l5

theorem row3 {W : World} {base g cap : Nat} {a b c : Value} (h : W.ownsRow base 3 1 (.slice (some ⟨g, 0, none⟩) (2 + 1) cap) (2 + 1) [a, b, c]) : ∃ cur, W.heap[g]? = some (.cells cur 3 (0, 0)) ∧ cur[0]? = some a ∧ cur[1]? = some b ∧ cur[2]? = some c ∧ base ≤ g := by
  obtain ⟨_, h | ⟨g', cap', cur, e, hg, hh, h1, h2, h3, h4⟩⟩ := h
  · simp at h
  · injection e with e1 e2 e3
    injection e1 with e1
    injection e1 with e1
    subst e1
    refine ⟨cur, hh, ?_, ?_, ?_, hg⟩
    · have := congrArg (·[0]?) h4
      simpa [List.getElem?_take] using this
    · have := congrArg (·[1]?) h4
      simpa [List.getElem?_take] using this
    · have := congrArg (·[2]?) h4
      simpa [List.getElem?_take] using this

def CutEnds (t : S32) (x0 x1 : Int) (w : World) (e : Ending) (w' : World) : Prop :=
  (x0 < x1 → ∃ g c', e = .returned (.tuple #[.slice (some ⟨g, 0, none⟩) 3 c', .int .i64 0]) ∧ 3 ≤ c' ∧ k32.C w' (some ⟨g, 0, none⟩) 3 (cutL t x0 x1 (sumW 0 t.f1) 3) ∧ Below w.heap.size w w') ∧
  (¬ x0 < x1 → e = .returned (.tuple #[.slice none 0 0, .int .i64 2]) ∧ Below w.heap.size w w')

theorem results11 (W : World) (bo be : Nat) (cn ce : Value) (tmps : Array Value)
    (ho : W.heap[bo]? = some (.cells #[cn] 22 (0, 0))) (he : W.heap[be]? = some (.cells #[ce] 33 (0, 0)))
    (t2 : tmps[4]? = some (.pointer (some ⟨bo, 0, none⟩))) (t3 : tmps[5]? = some (.pointer (some ⟨be, 0, none⟩))) :
    (results Try.f11 tmps).run Try.prog W = .ok (.tuple #[cn, ce]) W := by
  have k0 : W.cell? ⟨bo, 0, none⟩ = some cn := blk_cell ho 0
  have e0 : W.cell? ⟨be, 0, none⟩ = some ce := blk_cell he 0
  clear ho he
  simp [results, Try.results11, go_sem, t2, t3, k0, e0]

theorem ent25 : ∀ args w, (callFunc 25 args).run Try.prog w = .ok (.enter 25 args) w := enters_of Try.func25 (by kernel_rfl) rfl

theorem cut_fails {t : S32} {x0 x1 : Int} (w W : World) (bt g3 : Nat) (v : Value) (tmps : Array Value) (hgt : ¬ x0 < x1) (ho : W.heap[w.heap.size + 1]? = some (.cells #[v] 22 (0, 0))) (he : W.heap[w.heap.size + 1 + 1]? = some (.cells #[.int .i64 0] 33 (0, 0))) (hB : Below w.heap.size w W)
    (t2 : tmps[4]? = some (.pointer (some ⟨w.heap.size + 1, 0, none⟩))) (t3 : tmps[5]? = some (.pointer (some ⟨w.heap.size + 1 + 1, 0, none⟩))) :
    bodyPostD Try.prog Try.f11 (CutEnds t x0 x1 w) (.panic [{ v := .iface 33 (.int .i64 2), recovered := false }])
      { tmps := tmps, defers := [{ target := .fn (.func 13) #[], args := #[.pointer (some ⟨w.heap.size + 1 + 1, 0, none⟩), .func (.func 25) #[] #[.pointer (some ⟨w.heap.size + 1, 0, none⟩)]] }] } W := by
  have hne : w.heap.size + 1 ≠ w.heap.size + 1 + 1 := by omega
  refine leaves_cons (f := 13) (args := #[.pointer (some ⟨w.heap.size + 1 + 1, 0, none⟩), .func (.func 25) #[] #[.pointer (some ⟨w.heap.size + 1, 0, none⟩)]]) (by simp) (by simp [go_sem]) ?_
  have hcl := clear25 (W.setCell ⟨w.heap.size + 1 + 1, 0, none⟩ (.int .i64 2)) (w.heap.size + 1) v (blk_far ho hne _)
  refine (caught_panics (w.heap.size + 1 + 1) (w.heap.size + 1) 25 (.int .i64 0) 2 [] W (fun w' => (W.setCell ⟨w.heap.size + 1 + 1, 0, none⟩ (.int .i64 2)).grownBy w' (some (w.heap.size + 1)) ∧ w'.heap[w.heap.size + 1]? = some (.cells #[.slice none 0 0] 22 (0, 0))) (blk_cell he 0) (blk_frozen he 0) ent25 (hcl.mono fun e w' h => ⟨h.1, h.2⟩)).mono ?_
  rintro e u' w' ⟨rfl, rfl, hg, hz⟩
  have he' : w'.heap[w.heap.size + 1 + 1]? = some (.cells #[.int .i64 2] 33 (0, 0)) := blk_grown (by simpa using blk_set he 0 (.int .i64 2)) hg (by simp)
  have hr : (results Try.f11 tmps).run Try.prog w' = .ok (.tuple #[.slice none 0 0, .int .i64 2]) w' :=
    results11 w' (w.heap.size + 1) (w.heap.size + 1 + 1) _ _ tmps hz he' t2 t3
  refine ⟨_, hr, fun h => absurd h hgt, fun _ => ⟨rfl, ?_⟩⟩
  exact ((hB.setCell (p := ⟨w.heap.size + 1 + 1, 0, none⟩) (by simp; omega) _).grown hg (by simpa using hB.size) (fun k hk => by injection hk with hk; omega))

theorem info3' : (Try.prog.info? 3).map (fun i => (i.zero, i.size, i.bytes)) = some (some (.int .i64 0), 1, 8) := by kernel_rfl

theorem row_cells {W : World} {b : Nat} {cs : Array Value} {τ : TypeId} (h : W.heap[b]? = some (.cells cs τ (0, 0))) (l : List Value) (hl : cs = l.toArray) : ∀ b', some (⟨b, 0, none⟩ : Addr) = some b' → ∀ j u, l[j]? = some u → W.cell? (b'.add j) = some u := by
  intro b' hb' j u hj
  injection hb' with hb'
  subst hb' hl
  rw [add_plain, blk_cell h, ← Array.getElem?_toList]
  exact hj

set_option maxRecDepth 100000 in
set_option maxHeartbeats 2000000 in
theorem cut11 (t : S32) (A : Option Addr) (c : Nat) (x0 x1 : Int) (ba : Nat) (τ : Nat) (w : World) (hF : Kd.F k42 w (fun k => k < w.heap.size) A t.f1.length t.f1) (hc : t.f1.length ≤ c) (hok : okB t = true) (hlen : t.f1.length ≤ 1000) (hx0 : 0 ≤ x0) (hx0m : x0 ≤ sumW 0 t.f1) (hx1m : x1 ≤ sumW 0 t.f1)
    (hba : w.heap[ba]? = some (.cells #[.int .i64 x0, .int .i64 x1] τ (0, 0))) :
    Calls Try.prog 11 #[.agg #[.int .u32 t.f0, .slice A t.f1.length c, .int .i64 t.f2.f0, .int .i64 t.f2.f1, .int .i64 t.f2.f2, .int .i64 t.f2.f3], .slice (some ⟨ba, 0, none⟩) 2 2] w (CutEnds t x0 x1 w) := by
  have HF := Lib.hid hF
  have HF0 := Lib.hid hF
  have hmf : ∀ (fn : Fn) (first cap : Array Value) (w : World), (Instr.makeFunc fn first cap).run Try.prog w = .ok (.func fn first cap) w := fun _ _ _ _ => rfl
  clear hF
  go_enter_defers Try.func11, Try.ntmps11
  go_wp2_with fail
  have b1 := blk_alloc (blk_new (w.alloc (.cells #[.int .u32 t.f0, .slice A t.f1.length c, .int .i64 t.f2.f0, .int .i64 t.f2.f1, .int .i64 t.f2.f2, .int .i64 t.f2.f3] 32)) (.cells #[.slice none 0 0] 22)) (.cells #[.int .i64 0] 33)
  have b2 := blk_new ((w.alloc (.cells #[.int .u32 t.f0, .slice A t.f1.length c, .int .i64 t.f2.f0, .int .i64 t.f2.f1, .int .i64 t.f2.f2, .int .i64 t.f2.f3] 32)).alloc (.cells #[.slice none 0 0] 22)) (.cells #[.int .i64 0] 33)
  rw [World.size_alloc] at b1
  rw [World.size_alloc, World.size_alloc] at b2
  have hB0 := (((Below.refl _ w).alloc (Nat.le_refl _) (.cells #[.int .u32 t.f0, .slice A t.f1.length c, .int .i64 t.f2.f0, .int .i64 t.f2.f1, .int .i64 t.f2.f2, .int .i64 t.f2.f3] 32)).alloc (by simp) (.cells #[.slice none 0 0] 22)).alloc (by simp; omega) (.cells #[.int .i64 0] 33)
  obtain ⟨W0, hW0⟩ : ∃ W0, ((w.alloc (.cells #[.int .u32 t.f0, .slice A t.f1.length c, .int .i64 t.f2.f0, .int .i64 t.f2.f1, .int .i64 t.f2.f2, .int .i64 t.f2.f3] 32)).alloc (.cells #[.slice none 0 0] 22)).alloc (.cells #[.int .i64 0] 33) = W0 := ⟨_, rfl⟩
  rw [hW0] at b1 b2 hB0 ⊢
  clear hW0
  have hF0 := F_belowN HF.out hB0
  have hba0 := blk_below hba hB0
  have HH := Lib.hid (And.intro b1 (And.intro b2 (And.intro hB0 (And.intro hF0 hba0))))
  clear b1 b2 hB0 hF0 HF hba hba0
  go_at_call 16
  refine (of_yes t A c _ (Kd.F_now HH.out.2.2.2.1) hc hok).mono ?_
  rintro e w1 ⟨rfl, hb1⟩
  have e1 := blk_below HH.out.1 hb1
  have e2 := blk_below HH.out.2.1 hb1
  have e3 := HH.out.2.2.1.trans (hb1.mono HH.out.2.2.1.size)
  have e4 := F_belowN HH.out.2.2.2.1 (hb1.mono HH.out.2.2.1.size)
  have e5 := blk_below HH.out.2.2.2.2 hb1
  have a0 : w1.cell? ⟨ba, 0, none⟩ = _ := blk_cell e5 0
  have a1 : w1.cell? ⟨ba, 1, none⟩ = _ := blk_cell e5 1
  simp at a0 a1
  have hs0 := blk_lt e5
  have hs1 := blk_lt e2
  clear HH hb1
  have H1 := Lib.hid (And.intro e1 (And.intro e2 (And.intro e3 (And.intro e4 e5))))
  clear e1 e2 e3 e4 e5
  go_wp2_with fail
  have hw1 : ∀ v : Obj, Kd.F k42 (w1.alloc v) (fun k => k < (w1.alloc v).heap.size) A t.f1.length t.f1 := fun v => Kd.F_mono (Kd.F_alloc H1.out.2.2.2.1 v) (fun k hk => by have := H1.out.2.2.1.size; simp; omega)
  obtain ⟨W1, hW1⟩ : ∃ W1, w1.alloc (.cells #[.int .u32 t.f0, .slice A t.f1.length c, .int .i64 t.f2.f0, .int .i64 t.f2.f1, .int .i64 t.f2.f2, .int .i64 t.f2.f3] 53) = W1 := ⟨_, rfl⟩
  obtain ⟨bt, hbt⟩ : ∃ bt, w1.heap.size = bt := ⟨_, rfl⟩
  have d1 := blk_alloc H1.out.1 (.cells #[.int .u32 t.f0, .slice A t.f1.length c, .int .i64 t.f2.f0, .int .i64 t.f2.f1, .int .i64 t.f2.f2, .int .i64 t.f2.f3] 53)
  have d2 := blk_alloc H1.out.2.1 (.cells #[.int .u32 t.f0, .slice A t.f1.length c, .int .i64 t.f2.f0, .int .i64 t.f2.f1, .int .i64 t.f2.f2, .int .i64 t.f2.f3] 53)
  have d3 := H1.out.2.2.1.alloc H1.out.2.2.1.size (.cells #[.int .u32 t.f0, .slice A t.f1.length c, .int .i64 t.f2.f0, .int .i64 t.f2.f1, .int .i64 t.f2.f2, .int .i64 t.f2.f3] 53)
  have d4 := F_belowN H1.out.2.2.2.1 ((Below.refl _ w1).alloc H1.out.2.2.1.size (.cells #[.int .u32 t.f0, .slice A t.f1.length c, .int .i64 t.f2.f0, .int .i64 t.f2.f1, .int .i64 t.f2.f2, .int .i64 t.f2.f3] 53))
  have d5 := blk_alloc H1.out.2.2.2.2 (.cells #[.int .u32 t.f0, .slice A t.f1.length c, .int .i64 t.f2.f0, .int .i64 t.f2.f1, .int .i64 t.f2.f2, .int .i64 t.f2.f3] 53)
  have d6 := blk_new w1 (.cells #[.int .u32 t.f0, .slice A t.f1.length c, .int .i64 t.f2.f0, .int .i64 t.f2.f1, .int .i64 t.f2.f2, .int .i64 t.f2.f3] 53)
  rw [hW1] at d1 d2 d3 d4 d5 d6 ⊢
  rw [hbt] at d6 ⊢
  have hbt' : W1.heap.size = bt + 1 := by rw [← hW1, ← hbt]; simp
  clear H1 hw1 hW1 hbt a0 a1 hs0 hs1
  have H1 := Lib.hid (And.intro d1 (And.intro d2 (And.intro d3 (And.intro d4 (And.intro d5 d6)))))
  have y0 : W1.cell? ⟨bt, 0, none⟩ = _ := blk_cell d6 0
  have y1 : W1.cell? ⟨bt, 1, none⟩ = _ := blk_cell d6 1
  have y2 : W1.cell? ⟨bt, 2, none⟩ = _ := blk_cell d6 2
  have y3 : W1.cell? ⟨bt, 3, none⟩ = _ := blk_cell d6 3
  have y4 : W1.cell? ⟨bt, 4, none⟩ = _ := blk_cell d6 4
  have y5 : W1.cell? ⟨bt, 5, none⟩ = _ := blk_cell d6 5
  simp at y0 y1 y2 y3 y4 y5
  obtain ⟨m, hm⟩ : ∃ m, sumW 0 t.f1 = m := ⟨_, rfl⟩
  have HM := Lib.hid hm
  have hK17 : Hid (Calls Try.prog 17 #[.agg #[.int .u32 t.f0, .slice A t.f1.length c, .int .i64 t.f2.f0, .int .i64 t.f2.f1, .int .i64 t.f2.f2, .int .i64 t.f2.f3]] W1.drew (fun e w' => e = .returned (.int .i64 m) ∧ Below W1.drew.heap.size W1.drew w')) := Lib.hid (hm ▸ steps17 t A c W1.drew (Kd.F_mono (F_belowN H1.out.2.2.2.1 ((Below.refl _ W1).drew)) (fun k hk => by have := H1.out.2.2.1.size; simp; omega)))
  rw [hm] at hx0m hx1m
  clear hm
  clear d1 d2 d3 d4 d5 d6
  obtain ⟨i0, hi, hz0, hz1, hz2⟩ := info_parts info3'
  go_region_held3 (fun w' => w'.cell? ⟨bt, 0, none⟩ = some (.int .u32 t.f0) ∧ w'.cell? ⟨bt, 1, none⟩ = some (.slice A t.f1.length c) ∧ w'.cell? ⟨bt, 2, none⟩ = some (.int .i64 t.f2.f0) ∧ w'.cell? ⟨bt, 3, none⟩ = some (.int .i64 t.f2.f1) ∧ w'.cell? ⟨bt, 4, none⟩ = some (.int .i64 t.f2.f2) ∧ w'.cell? ⟨bt, 5, none⟩ = some (.int .i64 t.f2.f3)) (first | exact HS3.out | exact HS2.out | go_keep)
    (first
      | (go_at_call 17; refine hK17.out.mono ?_; rintro e w2 ⟨rfl, hb2⟩; have hb2' : Below W1.heap.size W1 w2 := ((Below.refl _ W1).drew).trans hb2; (obtain ⟨hcc, hff⟩ := bcell hb2'); have s0 := hbt' ; have HS2 : Hid (w2.cell? ⟨bt, 0, none⟩ = some (.int .u32 t.f0) ∧ w2.cell? ⟨bt, 1, none⟩ = some (.slice A t.f1.length c) ∧ w2.cell? ⟨bt, 2, none⟩ = some (.int .i64 t.f2.f0) ∧ w2.cell? ⟨bt, 3, none⟩ = some (.int .i64 t.f2.f1) ∧ w2.cell? ⟨bt, 4, none⟩ = some (.int .i64 t.f2.f2) ∧ w2.cell? ⟨bt, 5, none⟩ = some (.int .i64 t.f2.f3)) := Lib.hid ⟨by rw [hcc _ _ (by omega)]; exact y0, by rw [hcc _ _ (by omega)]; exact y1, by rw [hcc _ _ (by omega)]; exact y2, by rw [hcc _ _ (by omega)]; exact y3, by rw [hcc _ _ (by omega)]; exact y4, by rw [hcc _ _ (by omega)]; exact y5⟩; have HB2 := Lib.hid hb2'; clear hb2 hb2' hcc hff)
      | (refine step_append_grows rfl (.tmp 19) (.tmp 22) 62 rfl 3 i0 (.int .i64 0) 1 8 Try.underlying62 hi hz0 hz1 hz2 rfl (by decide) (some ⟨ba, 0, none⟩) 2 2 [.int .i64 x0, .int .i64 x1] rfl (by simp) rfl (row_cells (blk_alloc (blk_below H1.out.2.2.2.2.1 HB2.out) _) _ rfl) ⟨w2.heap.size, 0, none⟩ 1 1 [.int .i64 m] rfl rfl (row_cells (blk_new w2 (.cells #[.int .i64 m] 3)) _ rfl _ rfl) (by simp [Value.oneCell']) (by decide) (by decide) (by decide) ?_; intro v' w3 hown hgrow; have hb3 : Below W1.heap.size W1 w3 := HB2.out.trans ((((Below.refl _ w2).alloc (Nat.le_refl _) _).grown hgrow (by simp) (fun k hk => by simp at hk)).mono HB2.out.size); (obtain ⟨hcc, hff⟩ := bcell hb3); have HS3 : Hid (w3.cell? ⟨bt, 0, none⟩ = some (.int .u32 t.f0) ∧ w3.cell? ⟨bt, 1, none⟩ = some (.slice A t.f1.length c) ∧ w3.cell? ⟨bt, 2, none⟩ = some (.int .i64 t.f2.f0) ∧ w3.cell? ⟨bt, 3, none⟩ = some (.int .i64 t.f2.f1) ∧ w3.cell? ⟨bt, 4, none⟩ = some (.int .i64 t.f2.f2) ∧ w3.cell? ⟨bt, 5, none⟩ = some (.int .i64 t.f2.f3)) := Lib.hid ⟨by rw [hcc _ _ (by omega)]; exact y0, by rw [hcc _ _ (by omega)]; exact y1, by rw [hcc _ _ (by omega)]; exact y2, by rw [hcc _ _ (by omega)]; exact y3, by rw [hcc _ _ (by omega)]; exact y4, by rw [hcc _ _ (by omega)]; exact y5⟩; (obtain ⟨g3, cap3, rfl, hg3, hcap3⟩ := hown.form (by decide)); have HB3 := Lib.hid hb3; have HO3 := Lib.hid hown; clear hown hgrow hb3 hcc hff)
      | fail)
  obtain ⟨cur, r0, r1, r2, r3, r4⟩ := row3 HO3.out
  have hsz3 := HB3.out.size
  obtain ⟨n3, hn3⟩ : ∃ n3, w3.heap.size = n3 := ⟨_, rfl⟩
  have d1 := blk_below H1.out.1 HB3.out
  have d2 := blk_below H1.out.2.1 HB3.out
  have d3 := H1.out.2.2.1.trans (HB3.out.mono H1.out.2.2.1.size)
  have d6 := blk_below H1.out.2.2.2.2.2 HB3.out
  have HF : Hid (∀ W, Below w.heap.size w W → Kd.F k42 W (fun k => k < w.heap.size) A t.f1.length t.f1) := Lib.hid (fun W hW => F_belowN HF0.out hW)
  have hg3lt := blk_lt r0
  clear H1 HB3 HO3 HS3 HS2 HB2 hK17 y0 y1 y2 y3 y4 y5
  have hst : CutSt t A c x0 x1 m w bt g3 cur n3 0 (.slice none 0 0) w3 := ⟨d1, d2, d3, d6, r0, Nat.le_of_eq hn3.symm, Kd.R_nil _ _ _ _ _, hn3 ▸ blk_lt d2, hn3 ▸ blk_lt d6, hn3 ▸ blk_lt r0, blk_ne d6 d1 (by decide), blk_ne r0 d1 (by decide)⟩
  have HST := Lib.hid hst
  have HROW := Lib.hid (And.intro r1 (And.intro r2 r3))
  clear d1 d2 d3 d6 r0 r1 r2 r3 hst
  have HP : Hid (∀ f u W, 0 ≤ f → f ≤ u → u ≤ m → Below w.heap.size w W → Calls Try.prog 26 #[.agg #[.int .u32 t.f0, .slice A t.f1.length c, .int .i64 t.f2.f0, .int .i64 t.f2.f1, .int .i64 t.f2.f2, .int .i64 t.f2.f3], .int .i64 f, .int .i64 u] W (PartPost W (partR t f u))) :=
    Lib.hid (fun f u W h0 h1 h2 hb => part26 t A c f u W (Kd.F_mono (HF.out W hb) (fun k hk => by have := hb.size; omega)) hc hok hlen h0 h1 (by rw [HM.out]; exact h2))
  simp only [Nat.reduceAdd]
  go_wp2_with fail
  go_loopw [7, 25] (fun v7 v25 wr => ∃ (k : Nat) (v : Value), k ≤ 3 ∧ v25 = .int .i64 k ∧ v7 = .int .i64 (cutFrom x0 x1 m k) ∧ (2 ≤ k → x0 < x1) ∧ CutSt t A c x0 x1 m w bt g3 cur n3 k v wr)
    (fun _ v25 _ => 3 - (intOf v25).toNat)
  case atStart => exact ⟨0, _, by omega, rfl, rfl, by omega, HST.out⟩
  case round =>
    obtain ⟨k, v, hk, rfl, rfl, hgood, hst⟩ := hrel
    clear HST hsz3
    obtain rfl | rfl | rfl | rfl : k = 0 ∨ k = 1 ∨ k = 2 ∨ k = 3 := by omega
    · obtain ⟨Av, cv, rfl⟩ := Kd.R_slice hst.hR
      have q0 : wr.cell? ⟨g3, 0, none⟩ = some (.int .i64 x0) := (blk_cell hst.hr 0).trans HROW.out.1
      have t0 : wr.cell? ⟨bt, 0, none⟩ = _ := blk_cell hst.ht 0
      have t1 : wr.cell? ⟨bt, 1, none⟩ = _ := blk_cell hst.ht 1
      have t2 : wr.cell? ⟨bt, 2, none⟩ = _ := blk_cell hst.ht 2
      have t3 : wr.cell? ⟨bt, 3, none⟩ = _ := blk_cell hst.ht 3
      have t4 : wr.cell? ⟨bt, 4, none⟩ = _ := blk_cell hst.ht 4
      have t5 : wr.cell? ⟨bt, 5, none⟩ = _ := blk_cell hst.ht 5
      simp at t0 t1 t2 t3 t4 t5
      have ST := Lib.hid hst
      clear hst
      go_wp2_with (first | (go_at_call 15; refine (must_yes _ _).mono ?_; rintro e wz ⟨rfl, rfl⟩))
      go_at_call 26
      refine (HP.out 0 x0 wr (by omega) hx0 hx0m ST.out.hb).mono ?_
      rintro e w2 ⟨v', rfl, p1, p2⟩
      obtain ⟨A2, c2, rfl, _, _⟩ := p1.reads
      have hbW : Below wr.heap.size wr (w2.alloc (.cells #[.int .u32 (partR t (0) (x0)).f0, .slice A2 (partR t (0) (x0)).f1.length c2, .int .i64 1, .int .i64 0, .int .i64 0, .int .i64 0] 32)) := p2.alloc p2.size _
      have ho2 := blk_below ST.out.ho hbW
      have q1 : (w2.alloc (.cells #[.int .u32 (partR t (0) (x0)).f0, .slice A2 (partR t (0) (x0)).f1.length c2, .int .i64 1, .int .i64 0, .int .i64 0, .int .i64 0] 32)).cell? ⟨w.heap.size + 1, 0, none⟩ = _ := blk_cell ho2 0
      have f1 := blk_frozen ho2 0
      simp at q1
      have hs2 : w.heap.size + 1 < w2.heap.size := by have := p2.size; have := ST.out.hn; have := ST.out.l1; omega
      have hM : k32.M (w2.alloc (.cells #[.int .u32 (partR t (0) (x0)).f0, .slice A2 (partR t (0) (x0)).f1.length c2, .int .i64 1, .int .i64 0, .int .i64 0, .int .i64 0] 32)) n3 (fun k => wr.heap.size ≤ k) (cutP t x0 x1 m 0) (#[.int .u32 (partR t (0) (x0)).f0, .slice A2 (partR t (0) (x0)).f1.length c2, .int .i64 1, .int .i64 0, .int .i64 0, .int .i64 0] : Array Value).toList :=
        k32_mkM _ _ _ (cutP t x0 x1 m 0) (own_R (p1.below ((Below.refl _ w2).alloc (Nat.le_refl _) _)) ST.out.hn)
      have HW := Lib.hid hbW
      have HMM := Lib.hid hM
      clear p1 p2 q0 t0 t1 t2 t3 t4 t5 hbW ho2 hM
      go_wp2_with (first | (at_builtin; go_must (refine Kd.R_append k32 (w0 := w2.alloc (.cells #[.int .u32 (partR t (0) (x0)).f0, .slice A2 (partR t (0) (x0)).f1.length c2, .int .i64 1, .int .i64 0, .int .i64 0, .int .i64 0] 32)) n3 rfl (.tmp 54) (.tmp 56) 22 32 (.agg #[(.int .u32 0), .slice none 0 0, (.int .i64 0), (.int .i64 0), (.int .i64 0), (.int .i64 0)]) 64 rfl Try.underlying22 info32 rfl (by decide) (by decide) _ (cutL t x0 x1 m 0) (cutP t x0 x1 m 0) (#[.int .u32 (partR t (0) (x0)).f0, .slice A2 (partR t (0) (x0)).f1.length c2, .int .i64 1, .int .i64 0, .int .i64 0, .int .i64 0] : Array Value).toList (fun k => n3 ≤ k) (fun k => wr.heap.size ≤ k) rfl (by show Value.slice (some ⟨w2.heap.size + 1, 0, none⟩) 1 1 = _; simp) HMM.out (by intro k hk; exact ⟨Nat.le_trans ST.out.hn hk, fun e => by have := (Kd.R_bound ST.out.hR).1 k e.symm; omega⟩) (by intro k hk; have := HW.out.size; have := ST.out.hn; omega) (Kd.R_below ST.out.hR HW.out) (Below.refl _ _) (Nat.le_trans ST.out.hn HW.out.size) (by simp [cutL]) ?_); intro v1 w5 hR1 hb1 _ _; (obtain ⟨A3, c3, rfl⟩ := Kd.R_slice hR1); have ho5 := (hb1.block _ (Nat.lt_of_succ_lt ST.out.l1)).trans (blk_below ST.out.ho HW.out); (have q5 : w5.cell? ⟨w.heap.size + 1, 0, none⟩ = _ := blk_cell ho5 0); have f5 := blk_frozen ho5 0; simp at q5; have HNEXT := Lib.hid (cut_next ST.out HW.out hb1 hR1); clear hR1 hb1 ho5))
      go_roundw
      case rel => exact ⟨1, _, by omega, by go_num, rfl, by omega, HNEXT.out⟩
      case measure => simp [intOf]
    · by_cases hgt : x0 < x1
      · have hgt' : decide (cutFrom x0 x1 m 1 < x1) = true := decide_eq_true hgt
        obtain ⟨Av, cv, rfl⟩ := Kd.R_slice hst.hR
        have q0 : wr.cell? ⟨g3, 1, none⟩ = some (.int .i64 x1) := (blk_cell hst.hr 1).trans HROW.out.2.1
        have t0 : wr.cell? ⟨bt, 0, none⟩ = _ := blk_cell hst.ht 0
        have t1 : wr.cell? ⟨bt, 1, none⟩ = _ := blk_cell hst.ht 1
        have t2 : wr.cell? ⟨bt, 2, none⟩ = _ := blk_cell hst.ht 2
        have t3 : wr.cell? ⟨bt, 3, none⟩ = _ := blk_cell hst.ht 3
        have t4 : wr.cell? ⟨bt, 4, none⟩ = _ := blk_cell hst.ht 4
        have t5 : wr.cell? ⟨bt, 5, none⟩ = _ := blk_cell hst.ht 5
        simp at t0 t1 t2 t3 t4 t5
        have ST := Lib.hid hst
        clear hst
        go_wp2_with (first | (go_at_call 15; refine (must_yes _ _).mono ?_; rintro e wz ⟨rfl, rfl⟩))
        go_at_call 26
        refine (HP.out (x0) (x1) wr hx0 (by omega) hx1m ST.out.hb).mono ?_
        rintro e w2 ⟨v', rfl, p1, p2⟩
        obtain ⟨A2, c2, rfl, _, _⟩ := p1.reads
        have hbW : Below wr.heap.size wr (w2.alloc (.cells #[.int .u32 (partR t (x0) (x1)).f0, .slice A2 (partR t (x0) (x1)).f1.length c2, .int .i64 1, .int .i64 0, .int .i64 0, .int .i64 0] 32)) := p2.alloc p2.size _
        have ho2 := blk_below ST.out.ho hbW
        have q1 : (w2.alloc (.cells #[.int .u32 (partR t (x0) (x1)).f0, .slice A2 (partR t (x0) (x1)).f1.length c2, .int .i64 1, .int .i64 0, .int .i64 0, .int .i64 0] 32)).cell? ⟨w.heap.size + 1, 0, none⟩ = _ := blk_cell ho2 0
        have f1 := blk_frozen ho2 0
        simp at q1
        have hs2 : w.heap.size + 1 < w2.heap.size := by have := p2.size; have := ST.out.hn; have := ST.out.l1; omega
        have hM : k32.M (w2.alloc (.cells #[.int .u32 (partR t (x0) (x1)).f0, .slice A2 (partR t (x0) (x1)).f1.length c2, .int .i64 1, .int .i64 0, .int .i64 0, .int .i64 0] 32)) n3 (fun k => wr.heap.size ≤ k) (cutP t x0 x1 m 1) (#[.int .u32 (partR t (x0) (x1)).f0, .slice A2 (partR t (x0) (x1)).f1.length c2, .int .i64 1, .int .i64 0, .int .i64 0, .int .i64 0] : Array Value).toList :=
          k32_mkM _ _ _ (cutP t x0 x1 m 1) (own_R (p1.below ((Below.refl _ w2).alloc (Nat.le_refl _) _)) ST.out.hn)
        have HW := Lib.hid hbW
        have HMM := Lib.hid hM
        clear p1 p2 q0 t0 t1 t2 t3 t4 t5 hbW ho2 hM
        go_wp2_with (first | (at_builtin; go_must (refine Kd.R_append k32 (w0 := w2.alloc (.cells #[.int .u32 (partR t (x0) (x1)).f0, .slice A2 (partR t (x0) (x1)).f1.length c2, .int .i64 1, .int .i64 0, .int .i64 0, .int .i64 0] 32)) n3 rfl (.tmp 54) (.tmp 56) 22 32 (.agg #[(.int .u32 0), .slice none 0 0, (.int .i64 0), (.int .i64 0), (.int .i64 0), (.int .i64 0)]) 64 rfl Try.underlying22 info32 rfl (by decide) (by decide) _ (cutL t x0 x1 m 1) (cutP t x0 x1 m 1) (#[.int .u32 (partR t (x0) (x1)).f0, .slice A2 (partR t (x0) (x1)).f1.length c2, .int .i64 1, .int .i64 0, .int .i64 0, .int .i64 0] : Array Value).toList (fun k => n3 ≤ k) (fun k => wr.heap.size ≤ k) rfl (by show Value.slice (some ⟨w2.heap.size + 1, 0, none⟩) 1 1 = _; simp) HMM.out (by intro k hk; exact ⟨Nat.le_trans ST.out.hn hk, fun e => by have := (Kd.R_bound ST.out.hR).1 k e.symm; omega⟩) (by intro k hk; have := HW.out.size; have := ST.out.hn; omega) (Kd.R_below ST.out.hR HW.out) (Below.refl _ _) (Nat.le_trans ST.out.hn HW.out.size) (by simp [cutL]) ?_); intro v1 w5 hR1 hb1 _ _; (obtain ⟨A3, c3, rfl⟩ := Kd.R_slice hR1); have ho5 := (hb1.block _ (Nat.lt_of_succ_lt ST.out.l1)).trans (blk_below ST.out.ho HW.out); (have q5 : w5.cell? ⟨w.heap.size + 1, 0, none⟩ = _ := blk_cell ho5 0); have f5 := blk_frozen ho5 0; simp at q5; have HNEXT := Lib.hid (cut_next ST.out HW.out hb1 hR1); clear hR1 hb1 ho5))
        go_roundw
        case rel => exact ⟨2, _, by omega, by go_num, rfl, fun _ => hgt, HNEXT.out⟩
        case measure => simp [intOf]
      · have hgt' : decide (cutFrom x0 x1 m 1 < x1) = false := decide_eq_false hgt
        have q0 : wr.cell? ⟨g3, 1, none⟩ = some (.int .i64 x1) := (blk_cell hst.hr 1).trans HROW.out.2.1
        have ST := Lib.hid hst
        clear hst
        go_wp2_with (first | (go_at_call 15; refine (must_no _ _).mono ?_; rintro e wz ⟨rfl, rfl⟩))
        exact cut_fails w wr bt g3 v _ (by omega) ST.out.ho ST.out.he ST.out.hb rfl rfl
    · obtain ⟨Av, cv, rfl⟩ := Kd.R_slice hst.hR
      have q0 : wr.cell? ⟨g3, 2, none⟩ = some (.int .i64 m) := (blk_cell hst.hr 2).trans HROW.out.2.2
      have t0 : wr.cell? ⟨bt, 0, none⟩ = _ := blk_cell hst.ht 0
      have t1 : wr.cell? ⟨bt, 1, none⟩ = _ := blk_cell hst.ht 1
      have t2 : wr.cell? ⟨bt, 2, none⟩ = _ := blk_cell hst.ht 2
      have t3 : wr.cell? ⟨bt, 3, none⟩ = _ := blk_cell hst.ht 3
      have t4 : wr.cell? ⟨bt, 4, none⟩ = _ := blk_cell hst.ht 4
      have t5 : wr.cell? ⟨bt, 5, none⟩ = _ := blk_cell hst.ht 5
      simp at t0 t1 t2 t3 t4 t5
      have ST := Lib.hid hst
      clear hst
      go_wp2_with (first | (go_at_call 15; refine (must_yes _ _).mono ?_; rintro e wz ⟨rfl, rfl⟩))
      go_at_call 26
      refine (HP.out (x1) (m) wr (by have := hgood (by omega); omega) hx1m (Int.le_refl _) ST.out.hb).mono ?_
      rintro e w2 ⟨v', rfl, p1, p2⟩
      obtain ⟨A2, c2, rfl, _, _⟩ := p1.reads
      have hbW : Below wr.heap.size wr (w2.alloc (.cells #[.int .u32 (partR t (x1) (m)).f0, .slice A2 (partR t (x1) (m)).f1.length c2, .int .i64 (partR t (x1) (m)).f2.f0, .int .i64 (partR t (x1) (m)).f2.f1, .int .i64 (partR t (x1) (m)).f2.f2, .int .i64 (partR t (x1) (m)).f2.f3] 32)) := p2.alloc p2.size _
      have ho2 := blk_below ST.out.ho hbW
      have q1 : (w2.alloc (.cells #[.int .u32 (partR t (x1) (m)).f0, .slice A2 (partR t (x1) (m)).f1.length c2, .int .i64 (partR t (x1) (m)).f2.f0, .int .i64 (partR t (x1) (m)).f2.f1, .int .i64 (partR t (x1) (m)).f2.f2, .int .i64 (partR t (x1) (m)).f2.f3] 32)).cell? ⟨w.heap.size + 1, 0, none⟩ = _ := blk_cell ho2 0
      have f1 := blk_frozen ho2 0
      simp at q1
      have hs2 : w.heap.size + 1 < w2.heap.size := by have := p2.size; have := ST.out.hn; have := ST.out.l1; omega
      have hM : k32.M (w2.alloc (.cells #[.int .u32 (partR t (x1) (m)).f0, .slice A2 (partR t (x1) (m)).f1.length c2, .int .i64 (partR t (x1) (m)).f2.f0, .int .i64 (partR t (x1) (m)).f2.f1, .int .i64 (partR t (x1) (m)).f2.f2, .int .i64 (partR t (x1) (m)).f2.f3] 32)) n3 (fun k => wr.heap.size ≤ k) (cutP t x0 x1 m 2) (#[.int .u32 (partR t (x1) (m)).f0, .slice A2 (partR t (x1) (m)).f1.length c2, .int .i64 (partR t (x1) (m)).f2.f0, .int .i64 (partR t (x1) (m)).f2.f1, .int .i64 (partR t (x1) (m)).f2.f2, .int .i64 (partR t (x1) (m)).f2.f3] : Array Value).toList :=
        k32_mkM _ _ _ (cutP t x0 x1 m 2) (own_R (p1.below ((Below.refl _ w2).alloc (Nat.le_refl _) _)) ST.out.hn)
      have HW := Lib.hid hbW
      have HMM := Lib.hid hM
      clear p1 p2 q0 t0 t1 t2 t3 t4 t5 hbW ho2 hM
      go_wp2_with (first | (at_builtin; go_must (refine Kd.R_append k32 (w0 := w2.alloc (.cells #[.int .u32 (partR t (x1) (m)).f0, .slice A2 (partR t (x1) (m)).f1.length c2, .int .i64 (partR t (x1) (m)).f2.f0, .int .i64 (partR t (x1) (m)).f2.f1, .int .i64 (partR t (x1) (m)).f2.f2, .int .i64 (partR t (x1) (m)).f2.f3] 32)) n3 rfl (.tmp 54) (.tmp 56) 22 32 (.agg #[(.int .u32 0), .slice none 0 0, (.int .i64 0), (.int .i64 0), (.int .i64 0), (.int .i64 0)]) 64 rfl Try.underlying22 info32 rfl (by decide) (by decide) _ (cutL t x0 x1 m 2) (cutP t x0 x1 m 2) (#[.int .u32 (partR t (x1) (m)).f0, .slice A2 (partR t (x1) (m)).f1.length c2, .int .i64 (partR t (x1) (m)).f2.f0, .int .i64 (partR t (x1) (m)).f2.f1, .int .i64 (partR t (x1) (m)).f2.f2, .int .i64 (partR t (x1) (m)).f2.f3] : Array Value).toList (fun k => n3 ≤ k) (fun k => wr.heap.size ≤ k) rfl (by show Value.slice (some ⟨w2.heap.size + 1, 0, none⟩) 1 1 = _; simp) HMM.out (by intro k hk; exact ⟨Nat.le_trans ST.out.hn hk, fun e => by have := (Kd.R_bound ST.out.hR).1 k e.symm; omega⟩) (by intro k hk; have := HW.out.size; have := ST.out.hn; omega) (Kd.R_below ST.out.hR HW.out) (Below.refl _ _) (Nat.le_trans ST.out.hn HW.out.size) (by simp [cutL]) ?_); intro v1 w5 hR1 hb1 _ _; (obtain ⟨A3, c3, rfl⟩ := Kd.R_slice hR1); have ho5 := (hb1.block _ (Nat.lt_of_succ_lt ST.out.l1)).trans (blk_below ST.out.ho HW.out); (have q5 : w5.cell? ⟨w.heap.size + 1, 0, none⟩ = _ := blk_cell ho5 0); have f5 := blk_frozen ho5 0; simp at q5; have HNEXT := Lib.hid (cut_next ST.out HW.out hb1 hR1); clear hR1 hb1 ho5))
      go_roundw
      case rel => exact ⟨3, _, by omega, by go_num, rfl, fun _ => hgood (by omega), HNEXT.out⟩
      case measure => simp [intOf]
    · obtain ⟨Av, cv, rfl⟩ := Kd.R_slice hst.hR
      have q0 : wr.cell? ⟨w.heap.size + 1, 0, none⟩ = _ := blk_cell hst.ho 0
      have f0 := blk_frozen hst.ho 0
      have q1 : wr.cell? ⟨w.heap.size + 1 + 1, 0, none⟩ = _ := blk_cell hst.he 0
      have f1 := blk_frozen hst.he 0
      simp at q0 q1
      have s0 := blk_lt hst.ho
      have s1 := blk_lt hst.he
      have ST := Lib.hid hst
      clear hst
      go_wp2_with fail
      have ho := ST.out.ho
      have he := ST.out.he
      have hb := ST.out.hb
      obtain ⟨_, hcap, hC⟩ := Kd.R_reads' ST.out.hR
      have hlen3 : (cutL t x0 x1 m 3).length = 3 := by simp [cutL]
      obtain ⟨inner, hin, _⟩ := ST.out.hR.2
      obtain ⟨g, cap, hv, _, _⟩ := hin.form (by rw [hlen3]; decide)
      injection hv with hv _ _
      subst hv
      rw [hlen3] at hcap hC ho ⊢
      refine leaves_cons (f := 13) (args := #[.pointer (some ⟨w.heap.size + 1 + 1, 0, none⟩), .func (.func 25) #[] #[.pointer (some ⟨w.heap.size + 1, 0, none⟩)]]) (by simp) (by simp [go_sem]) ?_
      refine (caught_idle ⟨w.heap.size + 1 + 1, 0, none⟩ _ _).mono ?_
      rintro e u' w' ⟨rfl, rfl, rfl⟩
      have z1 := blk_far (blk_set ho 0 (.slice (some ⟨g, 0, none⟩) 3 cv)) (p := ⟨w.heap.size + 1 + 1, 0, none⟩) (by simp) (.int .i64 0)
      have z2 := blk_set (blk_far he (p := ⟨w.heap.size + 1, 0, none⟩) (by simp) (.slice (some ⟨g, 0, none⟩) 3 cv)) 0 (.int .i64 0)
      refine ⟨_, results11 _ (w.heap.size + 1) (w.heap.size + 1 + 1) _ _ _ (by simpa using z1) (by simpa using z2) rfl rfl, fun _ => ⟨g, cv, rfl, hcap, ?_, ?_⟩, fun h => absurd (hgood (by omega)) h⟩
      · rw [HM.out]
        have l1 := ST.out.l1
        exact (Kd.R_reads' (Kd.R_far (Kd.R_far ST.out.hR (p := ⟨w.heap.size + 1, 0, none⟩) (fun k hk => by show k ≠ w.heap.size + 1; omega) _) (p := ⟨w.heap.size + 1 + 1, 0, none⟩) (fun k hk => by show k ≠ w.heap.size + 1 + 1; omega) _)).2.2
      · exact (hb.setCell (p := ⟨w.heap.size + 1, 0, none⟩) (by simp) _).setCell (p := ⟨w.heap.size + 1 + 1, 0, none⟩) (by simp; omega) _
end Go.Proofs.Ytlpfjlmeohaagaa
