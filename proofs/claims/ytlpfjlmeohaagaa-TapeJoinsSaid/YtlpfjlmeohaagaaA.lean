/-
  The walks of TapeJoins, part A: must, num, log.within, log.ends, log.Check: what each comes to, at every input whose slice can be read.
-/
import Derived.Test.YtlpfjlmeohaagaaPTapeJoinsx0
import Derived.Test.YtlpfjlmeohaagaaPTapeJoinsx1
import Derived.WalkLawsBesides
import Derived.WalkSpells
import Derived.Outline
import Derived.Defers
import Derived.Recover
import Derived.Lib.Hide
namespace Go.Proofs.Ytlpfjlmeohaagaa
open Go.RowKit Go.Proofs.Ytlpfjlmeohaagaa.PTapeJoins Go.Proofs.YtlpfjlmeohaagaaW.PrintWords
set_option linter.unusedVariables false
set_option linter.unusedSimpArgs false

theorem must_yes (e : Int) (w : World) : Calls Try.prog 15 #[.bool true, .int .i64 e] w fun en w' => en = .returned (.tuple #[]) ∧ w = w' := by
  go_enter Try.func15, Try.ntmps15
  go_wp2
  go_end0
  exact ⟨rfl, rfl⟩

theorem must_no (e : Int) (w : World) : Calls Try.prog 15 #[.bool false, .int .i64 e] w fun en w' => en = .panicked [{ v := .iface 33 (.int .i64 e), recovered := false }] ∧ w = w' := by
  go_enter Try.func15, Try.ntmps15
  go_wp2
  exact ⟨rfl, rfl, rfl⟩

theorem num_any (e : Int) (w : World) : Calls Try.prog 9 #[.int .i64 e] w fun en w' => en = .returned (.int .i64 e) ∧ w = w' := by
  go_enter Try.func9, Try.ntmps9
  go_wp2
  go_ret
  exact ⟨rfl, rfl⟩

theorem bcell {W w1 : World} (hb : Below W.heap.size W w1) : (∀ b o, b < W.heap.size → w1.cell? ⟨b, o, none⟩ = W.cell? ⟨b, o, none⟩) ∧ (∀ b o, b < W.heap.size → w1.frozen? ⟨b, o, none⟩ = W.frozen? ⟨b, o, none⟩) :=
  ⟨fun b o h => hb.cell (p := ⟨b, o, none⟩) h, fun b o h => hb.frozen (p := ⟨b, o, none⟩) h⟩

def wi (a lo hi : Int) : Bool := decide (lo ≤ a) && decide (a ≤ hi)

theorem within31 (a lo hi : Int) (w : World) : Calls Try.prog 31 #[.int .i64 a, .int .i64 lo, .int .i64 hi] w fun e w' => e = .returned (.bool (wi a lo hi)) ∧ w = w' := by
  by_cases h : lo ≤ a
  · have h1 : wi a lo hi = decide (a ≤ hi) := by simp [wi, h]
    rw [h1]; clear h1
    go_enter Try.func31, Try.ntmps31
    go_wp2
    go_ret
    exact ⟨rfl, rfl⟩
  · have h1 : wi a lo hi = false := by simp [wi, h]
    rw [h1]; clear h1
    go_enter Try.func31, Try.ntmps31
    go_wp2
    go_ret
    exact ⟨rfl, rfl⟩
theorem within34 (a lo hi : Int) (w : World) : Calls Try.prog 34 #[.int .i64 a, .int .i64 lo, .int .i64 hi] w fun e w' => e = .returned (.bool (wi a lo hi)) ∧ w = w' := by
  by_cases h : lo ≤ a
  · have h1 : wi a lo hi = decide (a ≤ hi) := by simp [wi, h]
    rw [h1]; clear h1
    go_enter Try.func34, Try.ntmps34
    go_wp2
    go_ret
    exact ⟨rfl, rfl⟩
  · have h1 : wi a lo hi = false := by simp [wi, h]
    rw [h1]; clear h1
    go_enter Try.func34, Try.ntmps34
    go_wp2
    go_ret
    exact ⟨rfl, rfl⟩
theorem within35 (a lo hi : Int) (w : World) : Calls Try.prog 35 #[.int .i64 a, .int .i64 lo, .int .i64 hi] w fun e w' => e = .returned (.bool (wi a lo hi)) ∧ w = w' := by
  by_cases h : lo ≤ a
  · have h1 : wi a lo hi = decide (a ≤ hi) := by simp [wi, h]
    rw [h1]; clear h1
    go_enter Try.func35, Try.ntmps35
    go_wp2
    go_ret
    exact ⟨rfl, rfl⟩
  · have h1 : wi a lo hi = false := by simp [wi, h]
    rw [h1]; clear h1
    go_enter Try.func35, Try.ntmps35
    go_wp2
    go_ret
    exact ⟨rfl, rfl⟩

def endsB (k t th st : Int) : Bool := if k = 4 then wi t 1 5 && (wi th 0 7 && wi st 0 511) else wi k 1 3 && (t == 0 && (th == 0 && st == 0))

theorem ends30 (k t th st : Int) (w : World) : Calls Try.prog 30 #[.agg #[.int .i64 k, .int .i64 t, .int .i64 th, .int .i64 st]] w fun e w' => e = .returned (.bool (endsB k t th st)) ∧ Below w.heap.size w w' := by
  by_cases h : k = 4
  · subst h
    by_cases h1 : wi t 1 5 = true
    · by_cases h2 : wi th 0 7 = true
      · have hf : endsB 4 t th st = wi st 0 511 := by simp [endsB, h1, h2]
        rw [hf]; clear hf
        go_enter Try.func30, Try.ntmps30
        go_wp2_with (first | (go_at_call 34; refine (within34 _ _ _ _).mono ?_; rintro e w' ⟨rfl, rfl⟩) | (go_at_call 31; refine (within31 _ _ _ _).mono ?_; rintro e w' ⟨rfl, rfl⟩))
        go_ret
        exact ⟨rfl, (Below.refl _ _).alloc (Nat.le_refl _) _⟩
      · have h2' : wi th 0 7 = false := by simpa using h2
        have hf : endsB 4 t th st = false := by simp [endsB, h2']
        rw [hf]; clear hf h2
        go_enter Try.func30, Try.ntmps30
        go_wp2_with (first | (go_at_call 34; refine (within34 _ _ _ _).mono ?_; rintro e w' ⟨rfl, rfl⟩) | (go_at_call 31; refine (within31 _ _ _ _).mono ?_; rintro e w' ⟨rfl, rfl⟩))
        go_ret
        exact ⟨rfl, (Below.refl _ _).alloc (Nat.le_refl _) _⟩
    · have h1' : wi t 1 5 = false := by simpa using h1
      have hf : endsB 4 t th st = false := by simp [endsB, h1']
      rw [hf]; clear hf h1
      go_enter Try.func30, Try.ntmps30
      go_wp2_with (first | (go_at_call 34; refine (within34 _ _ _ _).mono ?_; rintro e w' ⟨rfl, rfl⟩) | (go_at_call 31; refine (within31 _ _ _ _).mono ?_; rintro e w' ⟨rfl, rfl⟩))
      go_ret
      exact ⟨rfl, (Below.refl _ _).alloc (Nat.le_refl _) _⟩
  · have hk : (k == 4) = false := by simpa using h
    by_cases h1 : wi k 1 3 = true
    · have hf : endsB k t th st = (t == 0 && (th == 0 && st == 0)) := by simp [endsB, h1, h]
      rw [hf]; clear hf
      have eqk := eqA30
      go_enter Try.func30, Try.ntmps30
      go_wp2_with (first | (go_at_call 35; refine (within35 _ _ _ _).mono ?_; rintro e w' ⟨rfl, rfl⟩))
      go_ret
      exact ⟨rfl, (Below.refl _ _).alloc (Nat.le_refl _) _⟩
    · have h1' : wi k 1 3 = false := by simpa using h1
      have hf : endsB k t th st = false := by simp [endsB, h1', h]
      rw [hf]; clear hf h1
      go_enter Try.func30, Try.ntmps30
      go_wp2_with (first | (go_at_call 35; refine (within35 _ _ _ _).mono ?_; rintro e w' ⟨rfl, rfl⟩))
      go_ret
      exact ⟨rfl, (Below.refl _ _).alloc (Nat.le_refl _) _⟩

def okT : List S42 → Int → Int → Bool
  | [], _, _ => true
  | x :: l, all, last => wi x.f0 0 7 && (wi x.f1 1 (2147483647 - all) && ((x.f0 != last) && okT l (all + x.f1) x.f0))

def okB (t : S32) : Bool := decide (t.f1.length ≤ 65536) && (endsB t.f2.f0 t.f2.f1 t.f2.f2 t.f2.f3 && okT t.f1 0 (-1))

theorem addr_add0 (ad : Addr) : ad.add (Int.toNat 0 * 2) = ad := by
  obtain ⟨b, o, m⟩ := ad
  unfold Addr.add
  cases m <;> simp

def chkV (b : Bool) : Int := if b then 0 else 2

theorem wi_iff {a lo hi : Int} : wi a lo hi = true ↔ lo ≤ a ∧ a ≤ hi := by simp [wi]

theorem drop_rd (l : List S42) (k : Nat) (h : k < l.length) : l.drop k = rd_T42 l (k : Int) :: l.drop (k + 1) := by
  rw [List.drop_eq_getElem_cons h]
  simp [rd_T42, h]

def vOut (t : S32) (A : Option Addr) (c : Nat) : Value := .agg #[.int .u32 t.f0, .slice A t.f1.length c, .int .i64 t.f2.f0, .int .i64 t.f2.f1, .int .i64 t.f2.f2, .int .i64 t.f2.f3]

/-- the loop's state -/
structure ChkSt (l : List S42) (w0 : World) (k : Nat) (all last : Int) (w : World) : Prop where
  hk : k ≤ l.length
  h0 : 0 ≤ all
  h1 : all ≤ 2147483647
  hok : okT l 0 (-1) = okT (l.drop k) all last
  hb : Below w0.heap.size w0 w

set_option maxHeartbeats 1000000 in
theorem check20 (t : S32) (A : Option Addr) (c : Nat) (w : World) (hC : Kd.C k42 w A t.f1.length t.f1) (hc : t.f1.length ≤ c) :
    Calls Try.prog 20 #[.agg #[.int .u32 t.f0, .slice A t.f1.length c, .int .i64 t.f2.f0, .int .i64 t.f2.f1, .int .i64 t.f2.f2, .int .i64 t.f2.f3]] w fun e w' => e = .returned (.int .i64 (chkV (okB t))) ∧ Below w.heap.size w w' := by
  obtain ⟨h, l, o⟩ := t
  obtain ⟨o0, o1, o2, o3⟩ := o
  dsimp only at hC hc ⊢
  have hmax : l.length ≤ 9223372036854775807 := Kd.C_max hC
  have HC := Lib.hid hC
  clear hC
  have h65 : ((65536 : Int)) = 65536 := rfl
  clear h65
  by_cases hlen : l.length ≤ 65536
  · by_cases hen : endsB o0 o1 o2 o3 = true
    · have hf : okB ⟨h, l, ⟨o0, o1, o2, o3⟩⟩ = okT l 0 (-1) := by simp [okB, hlen, hen]
      rw [hf]
      clear hf
      go_enter Try.func20, Try.ntmps20
      go_wp2_with (first | (go_at_call 30; refine (ends30 _ _ _ _ _).mono ?_; rintro e w1 ⟨rfl, hb1⟩; (obtain ⟨hc1, hf1⟩ := bcell hb1)))
      have hb1' : Below w.heap.size w w1 := ((Below.refl w.heap.size w).alloc (Nat.le_refl _) _).trans (hb1.mono (by simp))
      clear hb1
      have HB1 := Lib.hid hb1'
      clear hb1'
      go_loopw [3, 4, 5, 20] (fun v3 v4 v5 v20 wr => ∃ (k : Nat) (all last : Int), v20 = .int .i64 k ∧ v4 = .bool true ∧ v3 = .int .i64 all ∧ v5 = .int .i64 last ∧ ChkSt l w k all last wr)
        (fun _ _ _ v20 _ => l.length - (intOf v20).toNat)
      case atStart => exact ⟨0, 0, -1, rfl, rfl, rfl, rfl, ⟨Nat.zero_le _, by omega, by omega, rfl, HB1.out⟩⟩
      case round =>
        clear hc1 hf1 HB1
        obtain ⟨k, all, last, rfl, rfl, rfl, rfl, st⟩ := hrel
        by_cases hlt : k < l.length
        · obtain ⟨ad, hA, hx0, hx1⟩ := at_T42 (Kd.C_below HC.out st.hb) (k : Int) (by omega) (by exact_mod_cast hlt)
          have hok := st.hok
          rw [drop_rd l k hlt] at hok
          obtain ⟨x, hx⟩ : ∃ x, rd_T42 l (k : Int) = x := ⟨_, rfl⟩
          rw [hx] at hok hx0 hx1
          clear hx
          obtain ⟨x0, x1⟩ := x
          subst hA
          simp only [Int.toNat_natCast] at hx0 hx1
          simp only [okT] at hok
          have h0 := st.h0
          have h1 := st.h1
          have HOK := Lib.hid hok
          clear hok
          have ST := Lib.hid st
          clear st
          by_cases c1 : wi x0 0 7 = true
          · by_cases c2 : wi x1 1 (2147483647 - all) = true
            · by_cases c3 : (x0 != last) = true
              · have c2' := wi_iff.1 c2
                have h4 := c2'.1
                have h5 := c2'.2
                clear c2'
                go_wp2_with (first | (go_at_call 31; refine (within31 _ _ _ _).mono ?_; rintro e w1 ⟨rfl, rfl⟩))
                go_quiet (fail)
                go_wp2
                go_roundw
                case rel => exact ⟨k + 1, all + x1, x0, by go_num, rfl, rfl, rfl, by exact ⟨by omega, by omega, by omega, by rw [HOK.out, c1, c2, c3]; simp, pw_below_drewN (ST.out.hb.alloc ST.out.hb.size _) _⟩⟩
                case measure => simp [intOf]; omega
              · have c3' : (x0 != last) = false := by simpa using c3
                have c2' := wi_iff.1 c2
                have h4 := c2'.1
                have h5 := c2'.2
                clear c2' c3
                go_wp2_with (first | (go_at_call 31; refine (within31 _ _ _ _).mono ?_; rintro e w1 ⟨rfl, rfl⟩))
                go_ret
                exact ⟨by rw [HOK.out, c1, c2, c3']; rfl, ST.out.hb.alloc ST.out.hb.size _⟩
            · have c2' : wi x1 1 (2147483647 - all) = false := by simpa using c2
              clear c2
              go_wp2_with (first | (go_at_call 31; refine (within31 _ _ _ _).mono ?_; rintro e w1 ⟨rfl, rfl⟩))
              go_ret
              exact ⟨by rw [HOK.out, c1, c2']; rfl, ST.out.hb.alloc ST.out.hb.size _⟩
          · have c1' : wi x0 0 7 = false := by simpa using c1
            clear c1
            go_wp2_with (first | (go_at_call 31; refine (within31 _ _ _ _).mono ?_; rintro e w1 ⟨rfl, rfl⟩))
            go_ret
            exact ⟨by rw [HOK.out, c1']; rfl, ST.out.hb.alloc ST.out.hb.size _⟩
        · have hkk := st.hk
          obtain rfl : k = l.length := by omega
          have hok := st.hok
          simp only [List.drop_length, okT] at hok
          have HOK := Lib.hid hok
          clear hok
          have ST := Lib.hid st
          clear st
          go_wp2
          go_ret
          exact ⟨by rw [HOK.out]; rfl, ST.out.hb⟩
    · have hen' : endsB o0 o1 o2 o3 = false := by simpa using hen
      have hf : okB ⟨h, l, ⟨o0, o1, o2, o3⟩⟩ = false := by simp [okB, hen']
      rw [hf]
      clear hf hen
      by_cases hl : l = []
      · subst hl
        go_enter Try.func20, Try.ntmps20
        go_wp2_with (first | (go_at_call 30; refine (ends30 _ _ _ _ _).mono ?_; rintro e w1 ⟨rfl, hb1⟩; (obtain ⟨hc1, hf1⟩ := bcell hb1)))
        have hb1' : Below w.heap.size w w1 := ((Below.refl w.heap.size w).alloc (Nat.le_refl _) _).trans (hb1.mono (by simp))
        clear hb1
        have HB1 := Lib.hid hb1'
        clear hb1'
        refine wp_loop_rounds 1 ?_; rw [rounds_succ]
        go_wp2
        go_ret
        exact ⟨rfl, HB1.out⟩
      · have hp : 0 < l.length := List.length_pos_iff.2 hl
        go_enter Try.func20, Try.ntmps20
        go_wp2_with (first | (go_at_call 30; refine (ends30 _ _ _ _ _).mono ?_; rintro e w1 ⟨rfl, hb1⟩; (obtain ⟨hc1, hf1⟩ := bcell hb1)))
        have hb1' : Below w.heap.size w w1 := ((Below.refl w.heap.size w).alloc (Nat.le_refl _) _).trans (hb1.mono (by simp))
        clear hb1
        obtain ⟨ad, hA, hx0, hx1⟩ := at_T42 (Kd.C_below HC.out hb1') 0 (by omega) (by exact_mod_cast hp)
        subst hA
        rw [show ad.add (Int.toNat 0 * 2) = ad from addr_add0 ad] at hx0 hx1
        have HB1 := Lib.hid hb1'
        clear hb1'
        refine wp_loop_rounds 1 ?_; rw [rounds_succ]
        go_wp2
        go_ret
        exact ⟨rfl, HB1.out.alloc HB1.out.size _⟩
  · have hf : okB ⟨h, l, ⟨o0, o1, o2, o3⟩⟩ = false := by simp [okB, hlen]
    rw [hf]
    clear hf
    have hp : 0 < l.length := by omega
    obtain ⟨ad, hA, hx0, hx1⟩ := at_T42 (Kd.C_below HC.out (below_alloc (Below.refl _ w) (.cells #[.int .u32 h, .slice A l.length c, .int .i64 o0, .int .i64 o1, .int .i64 o2, .int .i64 o3] 32))) 0 (by omega) (by exact_mod_cast hp)
    subst hA
    rw [show ad.add (Int.toNat 0 * 2) = ad from addr_add0 ad] at hx0 hx1
    go_enter Try.func20, Try.ntmps20
    go_wp2
    refine wp_loop_rounds 1 ?_; rw [rounds_succ]
    go_wp2
    go_ret
    exact ⟨rfl, ((Below.refl w.heap.size w).alloc (Nat.le_refl _) _).alloc (by simp) _⟩
end Go.Proofs.Ytlpfjlmeohaagaa
