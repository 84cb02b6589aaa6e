/- Proved here: contracts of the reference, of head and of AnnotMore. Conditions: none beyond the statement's own. -/
import Derived.Test.YtoefoaabnjeofaaGreatWe
set_option linter.unusedVariables false
set_option linter.unusedSimpArgs false
set_option linter.constructorNameAsVariable false
namespace Go.Proofs.YtoefoaabnjeofaaGreat
open Go.SX
set_option maxHeartbeats 4000000
set_option maxRecDepth 20000
def G125 : Gv := ⟨[], [], []⟩
theorem abs05 {x : Int} {h : RO} {m : Hp} (hx : -65536 ≤ x ∧ x ≤ 65536) : Con Tryz.prog 125 [.int .i64 x] h m fun e h' m' => e = .returned (.int .i64 (abs64 x)) ∧ h' = h ∧ m' = m := by
  refine fn_of (nt := 9) T Tryz.func125 rfl (by kernel_rfl) Tryz.ntmps125 (by simp) T_ok T_mixed fun C hC => ?_
  simp only [Tryz.f125, argFr, Nat.zero_add, Nat.reduceAdd] at hC ⊢
  ((try (conv => whnf)); repeat ((first | refine And.intro ?_ True.intro | refine And.intro ⟨by omega, by omega⟩ ?_ | refine ⟨_, (by assumption : RO.c _ _ _ = _), ?_⟩ | refine ⟨_, _, _, (by assumption : (_ : Option Obj) = _), ?_⟩ | refine ⟨_, _, _, (by assumption : RO.c _ _ _ = _), ?_⟩ | refine ⟨_, (by assumption : Row _ _ _ _), ?_⟩ | refine ⟨_, (by assumption : Cell _ _ _ _ _), ?_⟩ | refine ⟨_, _, _, (by assumption : Cell _ _ _ _ _), ?_⟩ | refine ⟨_, Or.inl (by assumption), ?_⟩ | refine ⟨_, _, _, Or.inl (by assumption), ?_⟩ | refine And.intro (ints_one _) ?_ | refine And.intro (by omega) ?_ | refine d1 ?_ | refine d2 ?_ | refine d3 ?_ | refine d4 ?_ | refine go G125 400 hC (by kernel_rfl) ?_); (conv => whnf)))
  refine ⟨fun hq => ?_, fun hq => ?_⟩
  · ((try (conv => whnf)); repeat ((first | refine And.intro ?_ True.intro | refine And.intro ⟨by omega, by omega⟩ ?_ | refine ⟨_, (by assumption : RO.c _ _ _ = _), ?_⟩ | refine ⟨_, _, _, (by assumption : (_ : Option Obj) = _), ?_⟩ | refine ⟨_, _, _, (by assumption : RO.c _ _ _ = _), ?_⟩ | refine ⟨_, (by assumption : Row _ _ _ _), ?_⟩ | refine ⟨_, (by assumption : Cell _ _ _ _ _), ?_⟩ | refine ⟨_, _, _, (by assumption : Cell _ _ _ _ _), ?_⟩ | refine ⟨_, Or.inl (by assumption), ?_⟩ | refine ⟨_, _, _, Or.inl (by assumption), ?_⟩ | refine And.intro (ints_one _) ?_ | refine And.intro (by omega) ?_ | refine d1 ?_ | refine d2 ?_ | refine d3 ?_ | refine d4 ?_ | refine go G125 400 hC (by kernel_rfl) ?_); (conv => whnf)))
    have hq : x < 0 := by simpa using hq
    have e : max 0 (IntKind.i64.wrap (0 - x)) = abs64 x := by rw [w64 (by omega) (by omega), abs64_small hx.1 hx.2, if_pos hq]; omega
    exact ⟨by rw [← e]; rfl, rfl, rfl⟩
  · ((try (conv => whnf)); repeat ((first | refine And.intro ?_ True.intro | refine And.intro ⟨by omega, by omega⟩ ?_ | refine ⟨_, (by assumption : RO.c _ _ _ = _), ?_⟩ | refine ⟨_, _, _, (by assumption : (_ : Option Obj) = _), ?_⟩ | refine ⟨_, _, _, (by assumption : RO.c _ _ _ = _), ?_⟩ | refine ⟨_, (by assumption : Row _ _ _ _), ?_⟩ | refine ⟨_, (by assumption : Cell _ _ _ _ _), ?_⟩ | refine ⟨_, _, _, (by assumption : Cell _ _ _ _ _), ?_⟩ | refine ⟨_, Or.inl (by assumption), ?_⟩ | refine ⟨_, _, _, Or.inl (by assumption), ?_⟩ | refine And.intro (ints_one _) ?_ | refine And.intro (by omega) ?_ | refine d1 ?_ | refine d2 ?_ | refine d3 ?_ | refine d4 ?_ | refine go G125 400 hC (by kernel_rfl) ?_); (conv => whnf)))
    have hq : ¬ x < 0 := by simpa using hq
    exact ⟨by rw [abs64, if_neg hq]; rfl, rfl, rfl⟩
def G124 : Gv := ⟨[], [], []⟩
theorem var05 {x : Int} {h : RO} {m : Hp} (hx : 1 ≤ x ∧ x ≤ 65536) : Con Tryz.prog 124 [.int .i64 x] h m fun e h' m' => e = .returned (.bool true) ∧ h' = h ∧ m' = m := by
  refine fn_of (nt := 9) T Tryz.func124 rfl (by kernel_rfl) Tryz.ntmps124 (by simp) T_ok T_mixed fun C hC => ?_
  simp only [Tryz.f124, argFr, Nat.zero_add, Nat.reduceAdd] at hC ⊢
  ((try (conv => whnf)); repeat ((first | refine And.intro ?_ True.intro | refine And.intro ⟨by omega, by omega⟩ ?_ | refine ⟨_, (by assumption : RO.c _ _ _ = _), ?_⟩ | refine ⟨_, _, _, (by assumption : (_ : Option Obj) = _), ?_⟩ | refine ⟨_, _, _, (by assumption : RO.c _ _ _ = _), ?_⟩ | refine ⟨_, (by assumption : Row _ _ _ _), ?_⟩ | refine ⟨_, (by assumption : Cell _ _ _ _ _), ?_⟩ | refine ⟨_, _, _, (by assumption : Cell _ _ _ _ _), ?_⟩ | refine ⟨_, Or.inl (by assumption), ?_⟩ | refine ⟨_, _, _, Or.inl (by assumption), ?_⟩ | refine And.intro (ints_one _) ?_ | refine And.intro (by omega) ?_ | refine d1 ?_ | refine d2 ?_ | refine d3 ?_ | refine d4 ?_ | refine go G124 400 hC (by kernel_rfl) ?_); (conv => whnf)))
  refine ⟨fun hq => ?_, fun hq => ?_⟩ <;> ((try (conv => whnf)); repeat ((first | refine And.intro ?_ True.intro | refine And.intro ⟨by omega, by omega⟩ ?_ | refine ⟨_, (by assumption : RO.c _ _ _ = _), ?_⟩ | refine ⟨_, _, _, (by assumption : (_ : Option Obj) = _), ?_⟩ | refine ⟨_, _, _, (by assumption : RO.c _ _ _ = _), ?_⟩ | refine ⟨_, (by assumption : Row _ _ _ _), ?_⟩ | refine ⟨_, (by assumption : Cell _ _ _ _ _), ?_⟩ | refine ⟨_, _, _, (by assumption : Cell _ _ _ _ _), ?_⟩ | refine ⟨_, Or.inl (by assumption), ?_⟩ | refine ⟨_, _, _, Or.inl (by assumption), ?_⟩ | refine And.intro (ints_one _) ?_ | refine And.intro (by omega) ?_ | refine d1 ?_ | refine d2 ?_ | refine d3 ?_ | refine d4 ?_ | refine go G124 400 hC (by kernel_rfl) ?_); (conv => whnf)))
  · exact ⟨by rw [show decide (x ≤ 65536) = true by simpa using hx.2]; rfl, rfl, rfl⟩
  · exact absurd hq (by simp; omega)
def G56 : Gv := ⟨[], [], [(4, .one 0 (.one 1 (.one 2 (.one 3 (.fork 4 (.fork 5 (.one 6 (.one 7 (.one 8 (.one 9 (.one 10 (.one 11 (.one 12 (.one 13 (.one 14 (.one 16 (.one 17 (.one 18 (.one 19 (.one 20 (.fork 15 (.fork 21 (.one 22 (.one 23 (.one 24 (.nil)))) .stop) .stop))))))))))))))) .stop) .stop)))))]⟩
theorem normal05 {u : Value} {l : List Int} {h : RO} {m : Hp} (ha : IntS h u l) (hn : normal l = true) : Con Tryz.prog 56 [u] h m fun e h' m' => e = .returned (.bool true) ∧ h' = h ∧ m' = m := by
  obtain ⟨a, c, rfl, -⟩ := ha.s
  have hla := ha.len
  obtain ⟨hn1, hn2⟩ := normal_iff.1 hn
  have hab : ∀ x ∈ l, -65536 ≤ x ∧ x ≤ 65536 ∧ 1 ≤ abs64 x ∧ abs64 x ≤ 65536 := fun x hx => by
    have := hn1 x hx
    rw [abs64_small (by omega) (by omega)]; split <;> omega
  refine fn_of (nt := 35) T Tryz.func56 rfl (by kernel_rfl) Tryz.ntmps56 (by simp) T_ok T_mixed fun C hC => ?_
  simp only [Tryz.f56, argFr, Nat.zero_add, Nat.reduceAdd] at hC ⊢
  ((try (conv => whnf)); repeat ((first | refine And.intro ?_ True.intro | refine And.intro ⟨by omega, by omega⟩ ?_ | refine ⟨_, (by assumption : RO.c _ _ _ = _), ?_⟩ | refine ⟨_, _, _, (by assumption : (_ : Option Obj) = _), ?_⟩ | refine ⟨_, _, _, (by assumption : RO.c _ _ _ = _), ?_⟩ | refine ⟨_, (by assumption : Row _ _ _ _), ?_⟩ | refine ⟨_, (by assumption : Cell _ _ _ _ _), ?_⟩ | refine ⟨_, _, _, (by assumption : Cell _ _ _ _ _), ?_⟩ | refine ⟨_, Or.inl (by assumption), ?_⟩ | refine ⟨_, _, _, Or.inl (by assumption), ?_⟩ | refine And.intro (ints_one _) ?_ | refine And.intro (by omega) ?_ | refine d1 ?_ | refine d2 ?_ | refine d3 ?_ | refine d4 ?_ | refine go G56 400 hC (by kernel_rfl) ?_); (conv => whnf)))
  refine halt (sx_loopK (X := Nat) [0] (fun i => [(3, .v (.int .i64 i))]) (fun _ => []) (fun i h' m' => i ≤ l.length ∧ h' = h ∧ m' = m) (fun i => l.length - i) 0 (by repeat (first | exact Keep.nil | apply Keep.cons rfl | apply Keep.skip rfl)) ⟨[], ⟨by simp [sinj], by repeat (first | exact trivial | refine ⟨rfl, ?_⟩ | refine ⟨⟨rfl, rfl⟩, ?_⟩ | refine ⟨⟨rfl, rfl, rfl⟩, ?_⟩ | refine ⟨stepI (by omega), ?_⟩ | refine ⟨by assumption, ?_⟩), by repeat (first | exact trivial | refine ⟨rfl, ?_⟩ | refine ⟨⟨rfl, rfl, rfl⟩, ?_⟩ | refine ⟨by assumption, ?_⟩)⟩⟩ ⟨by omega, rfl, rfl⟩ ?_)
  rintro i h' m' - ⟨hi, rfl, rfl⟩
  ((try (conv => whnf)); repeat ((first | refine And.intro ?_ True.intro | refine And.intro ⟨by omega, by omega⟩ ?_ | refine ⟨_, (by assumption : RO.c _ _ _ = _), ?_⟩ | refine ⟨_, _, _, (by assumption : (_ : Option Obj) = _), ?_⟩ | refine ⟨_, _, _, (by assumption : RO.c _ _ _ = _), ?_⟩ | refine ⟨_, (by assumption : Row _ _ _ _), ?_⟩ | refine ⟨_, (by assumption : Cell _ _ _ _ _), ?_⟩ | refine ⟨_, _, _, (by assumption : Cell _ _ _ _ _), ?_⟩ | refine ⟨_, Or.inl (by assumption), ?_⟩ | refine ⟨_, _, _, Or.inl (by assumption), ?_⟩ | refine And.intro (ints_one _) ?_ | refine And.intro (by omega) ?_ | refine d1 ?_ | refine d2 ?_ | refine d3 ?_ | refine d4 ?_ | refine go G56 400 hC (by kernel_rfl) ?_); (conv => whnf)))
  refine ⟨fun hlt => ?_, fun hge => ?_⟩
  · have hlt : i < l.length := by simpa using hlt
    obtain ⟨p, q, rfl, hc⟩ := ha.get hlt
    have c1 := hc i hlt
    have hx := hab _ (g_mem hlt)
    have c00 : 0 < i → h'.c p (q + (IntKind.i64.wrap ((i : Int) - 1)).toNat) = some (.int .i64 (g l (i - 1))) := fun h0 => by
      rw [predI (i := i) (by omega) h0]; exact hc (i - 1) (by omega)
    ((try (conv => whnf)); repeat ((first | refine And.intro ?_ True.intro | refine And.intro ⟨by omega, by omega⟩ ?_ | refine ⟨_, (by assumption : RO.c _ _ _ = _), ?_⟩ | refine ⟨_, _, _, (by assumption : (_ : Option Obj) = _), ?_⟩ | refine ⟨_, _, _, (by assumption : RO.c _ _ _ = _), ?_⟩ | refine ⟨_, (by assumption : Row _ _ _ _), ?_⟩ | refine ⟨_, (by assumption : Cell _ _ _ _ _), ?_⟩ | refine ⟨_, _, _, (by assumption : Cell _ _ _ _ _), ?_⟩ | refine ⟨_, Or.inl (by assumption), ?_⟩ | refine ⟨_, _, _, Or.inl (by assumption), ?_⟩ | refine And.intro (ints_one _) ?_ | refine And.intro (by omega) ?_ | refine d1 ?_ | refine d2 ?_ | refine d3 ?_ | refine d4 ?_ | refine go G56 400 hC (by kernel_rfl) ?_); (conv => whnf)))
    (refine Con.mono (abs05 ⟨hx.1, hx.2.1⟩) ?_; rintro _ _ _ - ⟨rfl, rfl, rfl⟩; ((try (conv => whnf)); repeat ((first | refine And.intro ?_ True.intro | refine And.intro ⟨by omega, by omega⟩ ?_ | refine ⟨_, (by assumption : RO.c _ _ _ = _), ?_⟩ | refine ⟨_, _, _, (by assumption : (_ : Option Obj) = _), ?_⟩ | refine ⟨_, _, _, (by assumption : RO.c _ _ _ = _), ?_⟩ | refine ⟨_, (by assumption : Row _ _ _ _), ?_⟩ | refine ⟨_, (by assumption : Cell _ _ _ _ _), ?_⟩ | refine ⟨_, _, _, (by assumption : Cell _ _ _ _ _), ?_⟩ | refine ⟨_, Or.inl (by assumption), ?_⟩ | refine ⟨_, _, _, Or.inl (by assumption), ?_⟩ | refine And.intro (ints_one _) ?_ | refine And.intro (by omega) ?_ | refine d1 ?_ | refine d2 ?_ | refine d3 ?_ | refine d4 ?_ | refine go G56 400 hC (by kernel_rfl) ?_); (conv => whnf))))
    (refine Con.mono (var05 hx.2.2) ?_; rintro _ _ _ - ⟨rfl, rfl, rfl⟩; ((try (conv => whnf)); repeat ((first | refine And.intro ?_ True.intro | refine And.intro ⟨by omega, by omega⟩ ?_ | refine ⟨_, (by assumption : RO.c _ _ _ = _), ?_⟩ | refine ⟨_, _, _, (by assumption : (_ : Option Obj) = _), ?_⟩ | refine ⟨_, _, _, (by assumption : RO.c _ _ _ = _), ?_⟩ | refine ⟨_, (by assumption : Row _ _ _ _), ?_⟩ | refine ⟨_, (by assumption : Cell _ _ _ _ _), ?_⟩ | refine ⟨_, _, _, (by assumption : Cell _ _ _ _ _), ?_⟩ | refine ⟨_, Or.inl (by assumption), ?_⟩ | refine ⟨_, _, _, Or.inl (by assumption), ?_⟩ | refine And.intro (ints_one _) ?_ | refine And.intro (by omega) ?_ | refine d1 ?_ | refine d2 ?_ | refine d3 ?_ | refine d4 ?_ | refine go G56 400 hC (by kernel_rfl) ?_); (conv => whnf))))
    refine ⟨fun h0 => ?_, fun h0 => ?_⟩ <;> ((try (conv => whnf)); repeat ((first | refine And.intro ?_ True.intro | refine And.intro ⟨by omega, by omega⟩ ?_ | refine ⟨_, (by assumption : RO.c _ _ _ = _), ?_⟩ | refine ⟨_, _, _, (by assumption : (_ : Option Obj) = _), ?_⟩ | refine ⟨_, _, _, (by assumption : RO.c _ _ _ = _), ?_⟩ | refine ⟨_, (by assumption : Row _ _ _ _), ?_⟩ | refine ⟨_, (by assumption : Cell _ _ _ _ _), ?_⟩ | refine ⟨_, _, _, (by assumption : Cell _ _ _ _ _), ?_⟩ | refine ⟨_, Or.inl (by assumption), ?_⟩ | refine ⟨_, _, _, Or.inl (by assumption), ?_⟩ | refine And.intro (ints_one _) ?_ | refine And.intro (by omega) ?_ | refine d1 ?_ | refine d2 ?_ | refine d3 ?_ | refine d4 ?_ | refine go G56 400 hC (by kernel_rfl) ?_); (conv => whnf)))
    · have h0 : 0 < i := by simpa using h0
      have e0 := predI (i := i) (by omega) h0
      have c0 := c00 h0
      have hx0 := hab _ (g_mem (l := l) (i := i - 1) (by omega))
      have hlt0 := hn2 (i - 1) (by omega)
      rw [show i - 1 + 1 = i by omega] at hlt0
      ((try (conv => whnf)); repeat ((first | refine And.intro ?_ True.intro | refine And.intro ⟨by omega, by omega⟩ ?_ | refine ⟨_, (by assumption : RO.c _ _ _ = _), ?_⟩ | refine ⟨_, _, _, (by assumption : (_ : Option Obj) = _), ?_⟩ | refine ⟨_, _, _, (by assumption : RO.c _ _ _ = _), ?_⟩ | refine ⟨_, (by assumption : Row _ _ _ _), ?_⟩ | refine ⟨_, (by assumption : Cell _ _ _ _ _), ?_⟩ | refine ⟨_, _, _, (by assumption : Cell _ _ _ _ _), ?_⟩ | refine ⟨_, Or.inl (by assumption), ?_⟩ | refine ⟨_, _, _, Or.inl (by assumption), ?_⟩ | refine And.intro (ints_one _) ?_ | refine And.intro (by omega) ?_ | refine d1 ?_ | refine d2 ?_ | refine d3 ?_ | refine d4 ?_ | refine go G56 400 hC (by kernel_rfl) ?_); (conv => whnf)))
      (refine Con.mono (abs05 ⟨hx.1, hx.2.1⟩) ?_; rintro _ _ _ - ⟨rfl, rfl, rfl⟩; ((try (conv => whnf)); repeat ((first | refine And.intro ?_ True.intro | refine And.intro ⟨by omega, by omega⟩ ?_ | refine ⟨_, (by assumption : RO.c _ _ _ = _), ?_⟩ | refine ⟨_, _, _, (by assumption : (_ : Option Obj) = _), ?_⟩ | refine ⟨_, _, _, (by assumption : RO.c _ _ _ = _), ?_⟩ | refine ⟨_, (by assumption : Row _ _ _ _), ?_⟩ | refine ⟨_, (by assumption : Cell _ _ _ _ _), ?_⟩ | refine ⟨_, _, _, (by assumption : Cell _ _ _ _ _), ?_⟩ | refine ⟨_, Or.inl (by assumption), ?_⟩ | refine ⟨_, _, _, Or.inl (by assumption), ?_⟩ | refine And.intro (ints_one _) ?_ | refine And.intro (by omega) ?_ | refine d1 ?_ | refine d2 ?_ | refine d3 ?_ | refine d4 ?_ | refine go G56 400 hC (by kernel_rfl) ?_); (conv => whnf))))
      (refine Con.mono (abs05 ⟨hx0.1, hx0.2.1⟩) ?_; rintro _ _ _ - ⟨rfl, rfl, rfl⟩; ((try (conv => whnf)); repeat ((first | refine And.intro ?_ True.intro | refine And.intro ⟨by omega, by omega⟩ ?_ | refine ⟨_, (by assumption : RO.c _ _ _ = _), ?_⟩ | refine ⟨_, _, _, (by assumption : (_ : Option Obj) = _), ?_⟩ | refine ⟨_, _, _, (by assumption : RO.c _ _ _ = _), ?_⟩ | refine ⟨_, (by assumption : Row _ _ _ _), ?_⟩ | refine ⟨_, (by assumption : Cell _ _ _ _ _), ?_⟩ | refine ⟨_, _, _, (by assumption : Cell _ _ _ _ _), ?_⟩ | refine ⟨_, Or.inl (by assumption), ?_⟩ | refine ⟨_, _, _, Or.inl (by assumption), ?_⟩ | refine And.intro (ints_one _) ?_ | refine And.intro (by omega) ?_ | refine d1 ?_ | refine d2 ?_ | refine d3 ?_ | refine d4 ?_ | refine go G56 400 hC (by kernel_rfl) ?_); (conv => whnf))))
      refine ⟨fun hq => absurd hq (by simp; omega), fun hq => ?_⟩ <;> ((try (conv => whnf)); repeat ((first | refine And.intro ?_ True.intro | refine And.intro ⟨by omega, by omega⟩ ?_ | refine ⟨_, (by assumption : RO.c _ _ _ = _), ?_⟩ | refine ⟨_, _, _, (by assumption : (_ : Option Obj) = _), ?_⟩ | refine ⟨_, _, _, (by assumption : RO.c _ _ _ = _), ?_⟩ | refine ⟨_, (by assumption : Row _ _ _ _), ?_⟩ | refine ⟨_, (by assumption : Cell _ _ _ _ _), ?_⟩ | refine ⟨_, _, _, (by assumption : Cell _ _ _ _ _), ?_⟩ | refine ⟨_, Or.inl (by assumption), ?_⟩ | refine ⟨_, _, _, Or.inl (by assumption), ?_⟩ | refine And.intro (ints_one _) ?_ | refine And.intro (by omega) ?_ | refine d1 ?_ | refine d2 ?_ | refine d3 ?_ | refine d4 ?_ | refine go G56 400 hC (by kernel_rfl) ?_); (conv => whnf)))
      exact halt ⟨i + 1, [], ⟨by simp [sinj], by repeat (first | exact trivial | refine ⟨rfl, ?_⟩ | refine ⟨⟨rfl, rfl⟩, ?_⟩ | refine ⟨⟨rfl, rfl, rfl⟩, ?_⟩ | refine ⟨stepI (by omega), ?_⟩ | refine ⟨by assumption, ?_⟩), by repeat (first | exact trivial | refine ⟨rfl, ?_⟩ | refine ⟨⟨rfl, rfl, rfl⟩, ?_⟩ | refine ⟨by assumption, ?_⟩)⟩, RO.le.refl _, ⟨hlt, rfl, rfl⟩, by omega⟩
    · exact halt ⟨i + 1, [], ⟨by simp [sinj], by repeat (first | exact trivial | refine ⟨rfl, ?_⟩ | refine ⟨⟨rfl, rfl⟩, ?_⟩ | refine ⟨⟨rfl, rfl, rfl⟩, ?_⟩ | refine ⟨stepI (by omega), ?_⟩ | refine ⟨by assumption, ?_⟩), by repeat (first | exact trivial | refine ⟨rfl, ?_⟩ | refine ⟨⟨rfl, rfl, rfl⟩, ?_⟩ | refine ⟨by assumption, ?_⟩)⟩, RO.le.refl _, ⟨hlt, rfl, rfl⟩, by omega⟩
  · ((try (conv => whnf)); repeat ((first | refine And.intro ?_ True.intro | refine And.intro ⟨by omega, by omega⟩ ?_ | refine ⟨_, (by assumption : RO.c _ _ _ = _), ?_⟩ | refine ⟨_, _, _, (by assumption : (_ : Option Obj) = _), ?_⟩ | refine ⟨_, _, _, (by assumption : RO.c _ _ _ = _), ?_⟩ | refine ⟨_, (by assumption : Row _ _ _ _), ?_⟩ | refine ⟨_, (by assumption : Cell _ _ _ _ _), ?_⟩ | refine ⟨_, _, _, (by assumption : Cell _ _ _ _ _), ?_⟩ | refine ⟨_, Or.inl (by assumption), ?_⟩ | refine ⟨_, _, _, Or.inl (by assumption), ?_⟩ | refine And.intro (ints_one _) ?_ | refine And.intro (by omega) ?_ | refine d1 ?_ | refine d2 ?_ | refine d3 ?_ | refine d4 ?_ | refine go G56 400 hC (by kernel_rfl) ?_); (conv => whnf)))
    exact ⟨rfl, rfl, rfl⟩
/-- A valid graph. -/
structure GOK (ins : List Int) (ands : List Pr) : Prop where
  ris : Rising ins
  size : 1 + ins.length + ands.length ≤ 200000
  ok : ∀ i, i < ands.length → 0 ≤ (gp ands i).1 ∧ (gp ands i).1 < ((2 * (1 + ins.length + i) : Nat) : Int) ∧ 0 ≤ (gp ands i).2 ∧ (gp ands i).2 < ((2 * (1 + ins.length + i) : Nat) : Int)
def G48 : Gv := ⟨[], [], []⟩
theorem nodes06 {a b : Option Addr} {n k c d : Nat} {h : RO} {m : Hp} (hn : n ≤ 17592186044416) (hk : k ≤ 17592186044416) :
    Con Tryz.prog 48 [.agg #[.slice a n c, .slice b k d]] h m fun e h' m' => e = .returned (.int .i64 ((1 + n + k : Nat) : Int)) ∧ m' = m := by
  refine fn_of (nt := 11) T Tryz.func48 rfl (by kernel_rfl) Tryz.ntmps48 (by simp) T_ok T_mixed fun C hC => ?_
  simp only [Tryz.f48, argFr, Nat.zero_add, Nat.reduceAdd] at hC ⊢
  ((try (conv => whnf)); repeat ((first | refine And.intro ?_ True.intro | refine And.intro ⟨by omega, by omega⟩ ?_ | refine ⟨_, (by assumption : RO.c _ _ _ = _), ?_⟩ | refine ⟨_, _, _, (by assumption : (_ : Option Obj) = _), ?_⟩ | refine ⟨_, _, _, (by assumption : RO.c _ _ _ = _), ?_⟩ | refine ⟨_, (by assumption : Row _ _ _ _), ?_⟩ | refine ⟨_, (by assumption : Cell _ _ _ _ _), ?_⟩ | refine ⟨_, _, _, (by assumption : Cell _ _ _ _ _), ?_⟩ | refine ⟨_, Or.inl (by assumption), ?_⟩ | refine ⟨_, _, _, Or.inl (by assumption), ?_⟩ | refine And.intro (ints_one _) ?_ | refine And.intro (by omega) ?_ | refine d1 ?_ | refine d2 ?_ | refine d3 ?_ | refine d4 ?_ | refine go G48 400 hC (by kernel_rfl) ?_); (conv => whnf)))
  have : IntKind.i64.wrap (IntKind.i64.wrap (1 + (n : Int)) + (k : Int)) = ((1 + n + k : Nat) : Int) := by
    rw [w64 (x := 1 + (n : Int)) (by omega) (by omega), w64 (by omega) (by omega)]; omega
  refine ⟨?_, rfl⟩
  rw [← this]; rfl
def G88 : Gv := ⟨[], [], [(4, .one 0 (.one 1 (.one 2 (.one 3 (.one 4 (.one 5 (.one 6 (.one 7 (.one 8 (.one 9 (.one 10 (.one 11 (.one 12 (.one 13 (.one 14 (.one 15 (.one 16 (.one 17 (.one 18 (.one 19 (.one 20 (.one 21 (.one 22 (.one 23 (.one 24 (.one 25 (.one 26 (.one 27 (.nil)))))))))))))))))))))))))))))]⟩
theorem inputs06 {u : Value} {l : List Int} {h : RO} {m : Hp} (ha : IntS h u l) (hr : Rising l) : Con Tryz.prog 88 [u] h m fun e h' m' => e = .returned (.bool true) ∧ h' = h ∧ m' = m := by
  obtain ⟨a, c, rfl, -⟩ := ha.s
  have hla := ha.len
  refine fn_of (nt := 38) T Tryz.func88 rfl (by kernel_rfl) Tryz.ntmps88 (by simp) T_ok T_mixed fun C hC => ?_
  simp only [Tryz.f88, argFr, Nat.zero_add, Nat.reduceAdd] at hC ⊢
  ((try (conv => whnf)); repeat ((first | refine And.intro ?_ True.intro | refine And.intro ⟨by omega, by omega⟩ ?_ | refine ⟨_, (by assumption : RO.c _ _ _ = _), ?_⟩ | refine ⟨_, _, _, (by assumption : (_ : Option Obj) = _), ?_⟩ | refine ⟨_, _, _, (by assumption : RO.c _ _ _ = _), ?_⟩ | refine ⟨_, (by assumption : Row _ _ _ _), ?_⟩ | refine ⟨_, (by assumption : Cell _ _ _ _ _), ?_⟩ | refine ⟨_, _, _, (by assumption : Cell _ _ _ _ _), ?_⟩ | refine ⟨_, Or.inl (by assumption), ?_⟩ | refine ⟨_, _, _, Or.inl (by assumption), ?_⟩ | refine And.intro (ints_one _) ?_ | refine And.intro (by omega) ?_ | refine d1 ?_ | refine d2 ?_ | refine d3 ?_ | refine d4 ?_ | refine go G88 400 hC (by kernel_rfl) ?_); (conv => whnf)))
  refine halt (sx_loopK (X := Nat) [0] (fun i => [(3, .v (.int .i64 i))]) (fun _ => []) (fun i h' m' => i ≤ l.length ∧ h' = h ∧ m' = m) (fun i => l.length - i) 0 (by repeat (first | exact Keep.nil | apply Keep.cons rfl | apply Keep.skip rfl)) ⟨[], ⟨by simp [sinj], by repeat (first | exact trivial | refine ⟨rfl, ?_⟩ | refine ⟨⟨rfl, rfl⟩, ?_⟩ | refine ⟨⟨rfl, rfl, rfl⟩, ?_⟩ | refine ⟨stepI (by omega), ?_⟩ | refine ⟨by assumption, ?_⟩), by repeat (first | exact trivial | refine ⟨rfl, ?_⟩ | refine ⟨⟨rfl, rfl, rfl⟩, ?_⟩ | refine ⟨by assumption, ?_⟩)⟩⟩ ⟨by omega, rfl, rfl⟩ ?_)
  rintro i h' m' - ⟨hi, rfl, rfl⟩
  ((try (conv => whnf)); repeat ((first | refine And.intro ?_ True.intro | refine And.intro ⟨by omega, by omega⟩ ?_ | refine ⟨_, (by assumption : RO.c _ _ _ = _), ?_⟩ | refine ⟨_, _, _, (by assumption : (_ : Option Obj) = _), ?_⟩ | refine ⟨_, _, _, (by assumption : RO.c _ _ _ = _), ?_⟩ | refine ⟨_, (by assumption : Row _ _ _ _), ?_⟩ | refine ⟨_, (by assumption : Cell _ _ _ _ _), ?_⟩ | refine ⟨_, _, _, (by assumption : Cell _ _ _ _ _), ?_⟩ | refine ⟨_, Or.inl (by assumption), ?_⟩ | refine ⟨_, _, _, Or.inl (by assumption), ?_⟩ | refine And.intro (ints_one _) ?_ | refine And.intro (by omega) ?_ | refine d1 ?_ | refine d2 ?_ | refine d3 ?_ | refine d4 ?_ | refine go G88 400 hC (by kernel_rfl) ?_); (conv => whnf)))
  refine ⟨fun hlt => ?_, fun hge => ?_⟩
  · have hlt : i < l.length := by simpa using hlt
    obtain ⟨p, q, rfl, hc⟩ := ha.get hlt
    have c1 := hc i hlt
    have hx := hr.lo _ (g_mem hlt)
    have e1 : decide (g l i < 1) = false := by simpa using hx.1
    have e2 : decide (g l i > 65536) = false := by simpa using hx.2
    ((try (conv => whnf)); repeat ((first | refine And.intro ?_ True.intro | refine And.intro ⟨by omega, by omega⟩ ?_ | refine ⟨_, (by assumption : RO.c _ _ _ = _), ?_⟩ | refine ⟨_, _, _, (by assumption : (_ : Option Obj) = _), ?_⟩ | refine ⟨_, _, _, (by assumption : RO.c _ _ _ = _), ?_⟩ | refine ⟨_, (by assumption : Row _ _ _ _), ?_⟩ | refine ⟨_, (by assumption : Cell _ _ _ _ _), ?_⟩ | refine ⟨_, _, _, (by assumption : Cell _ _ _ _ _), ?_⟩ | refine ⟨_, Or.inl (by assumption), ?_⟩ | refine ⟨_, _, _, Or.inl (by assumption), ?_⟩ | refine And.intro (ints_one _) ?_ | refine And.intro (by omega) ?_ | refine d1 ?_ | refine d2 ?_ | refine d3 ?_ | refine d4 ?_ | refine go G88 400 hC (by kernel_rfl) ?_); (conv => whnf)))
    refine ⟨fun hq1 => ?_, fun hq => absurd hq (by simp; omega)⟩
    ((try (conv => whnf)); repeat ((first | refine And.intro ?_ True.intro | refine And.intro ⟨by omega, by omega⟩ ?_ | refine ⟨_, (by assumption : RO.c _ _ _ = _), ?_⟩ | refine ⟨_, _, _, (by assumption : (_ : Option Obj) = _), ?_⟩ | refine ⟨_, _, _, (by assumption : RO.c _ _ _ = _), ?_⟩ | refine ⟨_, (by assumption : Row _ _ _ _), ?_⟩ | refine ⟨_, (by assumption : Cell _ _ _ _ _), ?_⟩ | refine ⟨_, _, _, (by assumption : Cell _ _ _ _ _), ?_⟩ | refine ⟨_, Or.inl (by assumption), ?_⟩ | refine ⟨_, _, _, Or.inl (by assumption), ?_⟩ | refine And.intro (ints_one _) ?_ | refine And.intro (by omega) ?_ | refine d1 ?_ | refine d2 ?_ | refine d3 ?_ | refine d4 ?_ | refine go G88 400 hC (by kernel_rfl) ?_); (conv => whnf)))
    refine ⟨fun hq1 => ?_, fun hq => absurd hq (by simp; omega)⟩
    ((try (conv => whnf)); repeat ((first | refine And.intro ?_ True.intro | refine And.intro ⟨by omega, by omega⟩ ?_ | refine ⟨_, (by assumption : RO.c _ _ _ = _), ?_⟩ | refine ⟨_, _, _, (by assumption : (_ : Option Obj) = _), ?_⟩ | refine ⟨_, _, _, (by assumption : RO.c _ _ _ = _), ?_⟩ | refine ⟨_, (by assumption : Row _ _ _ _), ?_⟩ | refine ⟨_, (by assumption : Cell _ _ _ _ _), ?_⟩ | refine ⟨_, _, _, (by assumption : Cell _ _ _ _ _), ?_⟩ | refine ⟨_, Or.inl (by assumption), ?_⟩ | refine ⟨_, _, _, Or.inl (by assumption), ?_⟩ | refine And.intro (ints_one _) ?_ | refine And.intro (by omega) ?_ | refine d1 ?_ | refine d2 ?_ | refine d3 ?_ | refine d4 ?_ | refine go G88 400 hC (by kernel_rfl) ?_); (conv => whnf)))
    refine ⟨fun h0 => ?_, fun h0 => ?_⟩ <;> ((try (conv => whnf)); repeat ((first | refine And.intro ?_ True.intro | refine And.intro ⟨by omega, by omega⟩ ?_ | refine ⟨_, (by assumption : RO.c _ _ _ = _), ?_⟩ | refine ⟨_, _, _, (by assumption : (_ : Option Obj) = _), ?_⟩ | refine ⟨_, _, _, (by assumption : RO.c _ _ _ = _), ?_⟩ | refine ⟨_, (by assumption : Row _ _ _ _), ?_⟩ | refine ⟨_, (by assumption : Cell _ _ _ _ _), ?_⟩ | refine ⟨_, _, _, (by assumption : Cell _ _ _ _ _), ?_⟩ | refine ⟨_, Or.inl (by assumption), ?_⟩ | refine ⟨_, _, _, Or.inl (by assumption), ?_⟩ | refine And.intro (ints_one _) ?_ | refine And.intro (by omega) ?_ | refine d1 ?_ | refine d2 ?_ | refine d3 ?_ | refine d4 ?_ | refine go G88 400 hC (by kernel_rfl) ?_); (conv => whnf)))
    · have h0 : 0 < i := by simpa using h0
      have e0 := predI (i := i) (by omega) h0
      have c0 : h'.c p (q + (IntKind.i64.wrap ((i : Int) - 1)).toNat) = some (.int .i64 (g l (i - 1))) := by rw [e0]; exact hc (i - 1) (by omega)
      have hlt0 := hr.asc (i - 1) i (by omega) hlt
      ((try (conv => whnf)); repeat ((first | refine And.intro ?_ True.intro | refine And.intro ⟨by omega, by omega⟩ ?_ | refine ⟨_, (by assumption : RO.c _ _ _ = _), ?_⟩ | refine ⟨_, _, _, (by assumption : (_ : Option Obj) = _), ?_⟩ | refine ⟨_, _, _, (by assumption : RO.c _ _ _ = _), ?_⟩ | refine ⟨_, (by assumption : Row _ _ _ _), ?_⟩ | refine ⟨_, (by assumption : Cell _ _ _ _ _), ?_⟩ | refine ⟨_, _, _, (by assumption : Cell _ _ _ _ _), ?_⟩ | refine ⟨_, Or.inl (by assumption), ?_⟩ | refine ⟨_, _, _, Or.inl (by assumption), ?_⟩ | refine And.intro (ints_one _) ?_ | refine And.intro (by omega) ?_ | refine d1 ?_ | refine d2 ?_ | refine d3 ?_ | refine d4 ?_ | refine go G88 400 hC (by kernel_rfl) ?_); (conv => whnf)))
      refine ⟨fun hq => absurd hq (by simp; omega), fun hq => ?_⟩ <;> ((try (conv => whnf)); repeat ((first | refine And.intro ?_ True.intro | refine And.intro ⟨by omega, by omega⟩ ?_ | refine ⟨_, (by assumption : RO.c _ _ _ = _), ?_⟩ | refine ⟨_, _, _, (by assumption : (_ : Option Obj) = _), ?_⟩ | refine ⟨_, _, _, (by assumption : RO.c _ _ _ = _), ?_⟩ | refine ⟨_, (by assumption : Row _ _ _ _), ?_⟩ | refine ⟨_, (by assumption : Cell _ _ _ _ _), ?_⟩ | refine ⟨_, _, _, (by assumption : Cell _ _ _ _ _), ?_⟩ | refine ⟨_, Or.inl (by assumption), ?_⟩ | refine ⟨_, _, _, Or.inl (by assumption), ?_⟩ | refine And.intro (ints_one _) ?_ | refine And.intro (by omega) ?_ | refine d1 ?_ | refine d2 ?_ | refine d3 ?_ | refine d4 ?_ | refine go G88 400 hC (by kernel_rfl) ?_); (conv => whnf)))
      exact halt ⟨i + 1, [], ⟨by simp [sinj], by repeat (first | exact trivial | refine ⟨rfl, ?_⟩ | refine ⟨⟨rfl, rfl⟩, ?_⟩ | refine ⟨⟨rfl, rfl, rfl⟩, ?_⟩ | refine ⟨stepI (by omega), ?_⟩ | refine ⟨by assumption, ?_⟩), by repeat (first | exact trivial | refine ⟨rfl, ?_⟩ | refine ⟨⟨rfl, rfl, rfl⟩, ?_⟩ | refine ⟨by assumption, ?_⟩)⟩, RO.le.refl _, ⟨hlt, rfl, rfl⟩, by omega⟩
    · exact halt ⟨i + 1, [], ⟨by simp [sinj], by repeat (first | exact trivial | refine ⟨rfl, ?_⟩ | refine ⟨⟨rfl, rfl⟩, ?_⟩ | refine ⟨⟨rfl, rfl, rfl⟩, ?_⟩ | refine ⟨stepI (by omega), ?_⟩ | refine ⟨by assumption, ?_⟩), by repeat (first | exact trivial | refine ⟨rfl, ?_⟩ | refine ⟨⟨rfl, rfl, rfl⟩, ?_⟩ | refine ⟨by assumption, ?_⟩)⟩, RO.le.refl _, ⟨hlt, rfl, rfl⟩, by omega⟩
  · ((try (conv => whnf)); repeat ((first | refine And.intro ?_ True.intro | refine And.intro ⟨by omega, by omega⟩ ?_ | refine ⟨_, (by assumption : RO.c _ _ _ = _), ?_⟩ | refine ⟨_, _, _, (by assumption : (_ : Option Obj) = _), ?_⟩ | refine ⟨_, _, _, (by assumption : RO.c _ _ _ = _), ?_⟩ | refine ⟨_, (by assumption : Row _ _ _ _), ?_⟩ | refine ⟨_, (by assumption : Cell _ _ _ _ _), ?_⟩ | refine ⟨_, _, _, (by assumption : Cell _ _ _ _ _), ?_⟩ | refine ⟨_, Or.inl (by assumption), ?_⟩ | refine ⟨_, _, _, Or.inl (by assumption), ?_⟩ | refine And.intro (ints_one _) ?_ | refine And.intro (by omega) ?_ | refine d1 ?_ | refine d2 ?_ | refine d3 ?_ | refine d4 ?_ | refine go G88 400 hC (by kernel_rfl) ?_); (conv => whnf)))
    exact ⟨rfl, rfl, rfl⟩
def G148 : Gv := ⟨[], [], []⟩
theorem has06 {u v : Value} {ins : List Int} {ands : List Pr} {e0 : Int} {h : RO} {m : Hp} (ha : IntS h u ins) (hb : PrS h v ands) (he : EdK ins.length ands.length e0) :
    Con Tryz.prog 148 [.agg #[u, v], .int .i64 e0] h m fun e h' m' => e = .returned (.bool true) ∧ m' = m := by
  obtain ⟨a, c, rfl, -⟩ := ha.s
  obtain ⟨b, d, rfl⟩ := hb.sl
  have hla := ha.len
  have hlb := hb.len
  obtain ⟨he1, he2⟩ := he
  refine fn_of (nt := 14) T Tryz.func148 rfl (by kernel_rfl) Tryz.ntmps148 (by simp) T_ok T_mixed fun C hC => ?_
  simp only [Tryz.f148, argFr, Nat.zero_add, Nat.reduceAdd] at hC ⊢
  ((try (conv => whnf)); repeat ((first | refine And.intro ?_ True.intro | refine And.intro ⟨by omega, by omega⟩ ?_ | refine ⟨_, (by assumption : RO.c _ _ _ = _), ?_⟩ | refine ⟨_, _, _, (by assumption : (_ : Option Obj) = _), ?_⟩ | refine ⟨_, _, _, (by assumption : RO.c _ _ _ = _), ?_⟩ | refine ⟨_, (by assumption : Row _ _ _ _), ?_⟩ | refine ⟨_, (by assumption : Cell _ _ _ _ _), ?_⟩ | refine ⟨_, _, _, (by assumption : Cell _ _ _ _ _), ?_⟩ | refine ⟨_, Or.inl (by assumption), ?_⟩ | refine ⟨_, _, _, Or.inl (by assumption), ?_⟩ | refine And.intro (ints_one _) ?_ | refine And.intro (by omega) ?_ | refine d1 ?_ | refine d2 ?_ | refine d3 ?_ | refine d4 ?_ | refine go G148 400 hC (by kernel_rfl) ?_); (conv => whnf)))
  refine ⟨fun hq => ?_, fun hq => absurd hq (by simp; omega)⟩
  ((try (conv => whnf)); repeat ((first | refine And.intro ?_ True.intro | refine And.intro ⟨by omega, by omega⟩ ?_ | refine ⟨_, (by assumption : RO.c _ _ _ = _), ?_⟩ | refine ⟨_, _, _, (by assumption : (_ : Option Obj) = _), ?_⟩ | refine ⟨_, _, _, (by assumption : RO.c _ _ _ = _), ?_⟩ | refine ⟨_, (by assumption : Row _ _ _ _), ?_⟩ | refine ⟨_, (by assumption : Cell _ _ _ _ _), ?_⟩ | refine ⟨_, _, _, (by assumption : Cell _ _ _ _ _), ?_⟩ | refine ⟨_, Or.inl (by assumption), ?_⟩ | refine ⟨_, _, _, Or.inl (by assumption), ?_⟩ | refine And.intro (ints_one _) ?_ | refine And.intro (by omega) ?_ | refine d1 ?_ | refine d2 ?_ | refine d3 ?_ | refine d4 ?_ | refine go G148 400 hC (by kernel_rfl) ?_); (conv => whnf)))
  refine Con.mono (nodes06 hla hlb) ?_
  rintro _ h1 m1 - ⟨rfl, rfl⟩
  ((try (conv => whnf)); repeat ((first | refine And.intro ?_ True.intro | refine And.intro ⟨by omega, by omega⟩ ?_ | refine ⟨_, (by assumption : RO.c _ _ _ = _), ?_⟩ | refine ⟨_, _, _, (by assumption : (_ : Option Obj) = _), ?_⟩ | refine ⟨_, _, _, (by assumption : RO.c _ _ _ = _), ?_⟩ | refine ⟨_, (by assumption : Row _ _ _ _), ?_⟩ | refine ⟨_, (by assumption : Cell _ _ _ _ _), ?_⟩ | refine ⟨_, _, _, (by assumption : Cell _ _ _ _ _), ?_⟩ | refine ⟨_, Or.inl (by assumption), ?_⟩ | refine ⟨_, _, _, Or.inl (by assumption), ?_⟩ | refine And.intro (ints_one _) ?_ | refine And.intro (by omega) ?_ | refine d1 ?_ | refine d2 ?_ | refine d3 ?_ | refine d4 ?_ | refine go G148 400 hC (by kernel_rfl) ?_); (conv => whnf)))
  have e2 : decide (e0 < IntKind.i64.wrap (2 * ((1 + ins.length + ands.length : Nat) : Int))) = true := by rw [w64 (by omega) (by omega)]; simp; omega
  exact ⟨by rw [← e2]; rfl, rfl⟩
def G20 : Gv := ⟨[], [], []⟩
theorem may06 {u v : Value} {ins : List Int} {ands : List Pr} {h : RO} {m : Hp} (ha : IntS h u ins) (hb : PrS h v ands) (hg : GOK ins ands) :
    Con Tryz.prog 20 [.agg #[u, v]] h m fun e h' m' => e = .returned (.bool true) ∧ m' = m := by
  obtain ⟨a, c, rfl, -⟩ := ha.s
  obtain ⟨b, d, rfl⟩ := hb.sl
  have hla := ha.len
  have hlb := hb.len
  have hgs := hg.size
  refine fn_of (nt := 52) T Tryz.func20 rfl (by kernel_rfl) Tryz.ntmps20 (by simp) T_ok T_mixed fun C hC => ?_
  simp only [Tryz.f20, argFr, Nat.zero_add, Nat.reduceAdd] at hC ⊢
  ((try (conv => whnf)); repeat ((first | refine And.intro ?_ True.intro | refine And.intro ⟨by omega, by omega⟩ ?_ | refine ⟨_, (by assumption : RO.c _ _ _ = _), ?_⟩ | refine ⟨_, _, _, (by assumption : (_ : Option Obj) = _), ?_⟩ | refine ⟨_, _, _, (by assumption : RO.c _ _ _ = _), ?_⟩ | refine ⟨_, (by assumption : Row _ _ _ _), ?_⟩ | refine ⟨_, (by assumption : Cell _ _ _ _ _), ?_⟩ | refine ⟨_, _, _, (by assumption : Cell _ _ _ _ _), ?_⟩ | refine ⟨_, Or.inl (by assumption), ?_⟩ | refine ⟨_, _, _, Or.inl (by assumption), ?_⟩ | refine And.intro (ints_one _) ?_ | refine And.intro (by omega) ?_ | refine d1 ?_ | refine d2 ?_ | refine d3 ?_ | refine d4 ?_ | refine go G20 400 hC (by kernel_rfl) ?_); (conv => whnf)))
  (refine Con.mono (inputs06 ha hg.ris) ?_; rintro _ _ _ - ⟨rfl, rfl, rfl⟩; ((try (conv => whnf)); repeat ((first | refine And.intro ?_ True.intro | refine And.intro ⟨by omega, by omega⟩ ?_ | refine ⟨_, (by assumption : RO.c _ _ _ = _), ?_⟩ | refine ⟨_, _, _, (by assumption : (_ : Option Obj) = _), ?_⟩ | refine ⟨_, _, _, (by assumption : RO.c _ _ _ = _), ?_⟩ | refine ⟨_, (by assumption : Row _ _ _ _), ?_⟩ | refine ⟨_, (by assumption : Cell _ _ _ _ _), ?_⟩ | refine ⟨_, _, _, (by assumption : Cell _ _ _ _ _), ?_⟩ | refine ⟨_, Or.inl (by assumption), ?_⟩ | refine ⟨_, _, _, Or.inl (by assumption), ?_⟩ | refine And.intro (ints_one _) ?_ | refine And.intro (by omega) ?_ | refine d1 ?_ | refine d2 ?_ | refine d3 ?_ | refine d4 ?_ | refine go G20 400 hC (by kernel_rfl) ?_); (conv => whnf))))
  refine Con.mono (nodes06 hla hlb) ?_
  rintro _ h1 m1 hle1 ⟨rfl, rfl⟩
  ((try (conv => whnf)); repeat ((first | refine And.intro ?_ True.intro | refine And.intro ⟨by omega, by omega⟩ ?_ | refine ⟨_, (by assumption : RO.c _ _ _ = _), ?_⟩ | refine ⟨_, _, _, (by assumption : (_ : Option Obj) = _), ?_⟩ | refine ⟨_, _, _, (by assumption : RO.c _ _ _ = _), ?_⟩ | refine ⟨_, (by assumption : Row _ _ _ _), ?_⟩ | refine ⟨_, (by assumption : Cell _ _ _ _ _), ?_⟩ | refine ⟨_, _, _, (by assumption : Cell _ _ _ _ _), ?_⟩ | refine ⟨_, Or.inl (by assumption), ?_⟩ | refine ⟨_, _, _, Or.inl (by assumption), ?_⟩ | refine And.intro (ints_one _) ?_ | refine And.intro (by omega) ?_ | refine d1 ?_ | refine d2 ?_ | refine d3 ?_ | refine d4 ?_ | refine go G20 400 hC (by kernel_rfl) ?_); (conv => whnf)))
  refine ⟨fun hq => absurd hq (by simp; omega), fun hq => ?_⟩
  ((try (conv => whnf)); repeat ((first | refine And.intro ?_ True.intro | refine And.intro ⟨by omega, by omega⟩ ?_ | refine ⟨_, (by assumption : RO.c _ _ _ = _), ?_⟩ | refine ⟨_, _, _, (by assumption : (_ : Option Obj) = _), ?_⟩ | refine ⟨_, _, _, (by assumption : RO.c _ _ _ = _), ?_⟩ | refine ⟨_, (by assumption : Row _ _ _ _), ?_⟩ | refine ⟨_, (by assumption : Cell _ _ _ _ _), ?_⟩ | refine ⟨_, _, _, (by assumption : Cell _ _ _ _ _), ?_⟩ | refine ⟨_, Or.inl (by assumption), ?_⟩ | refine ⟨_, _, _, Or.inl (by assumption), ?_⟩ | refine And.intro (ints_one _) ?_ | refine And.intro (by omega) ?_ | refine d1 ?_ | refine d2 ?_ | refine d3 ?_ | refine d4 ?_ | refine go G20 400 hC (by kernel_rfl) ?_); (conv => whnf)))
  refine halt (sx_loopB (X := Nat) [1] [1] (fun i => [(3, .v (.int .i64 i))]) (fun _ => []) (fun i h' m' => i ≤ ands.length ∧ h1.le h' ∧ m' = m1) (fun i => ands.length - i) 0 (by repeat (first | exact Keep.nil | apply Keep.cons rfl | apply Keep.skip rfl)) (by repeat (first | exact KeepB.nil | apply KeepB.cons rfl)) ⟨[(1, 1)], ⟨by simp [sinj], by repeat (first | exact trivial | refine ⟨rfl, ?_⟩ | refine ⟨⟨rfl, rfl⟩, ?_⟩ | refine ⟨⟨rfl, rfl, rfl⟩, ?_⟩ | refine ⟨stepI (by omega), ?_⟩ | refine ⟨by assumption, ?_⟩), by repeat (first | exact trivial | refine ⟨rfl, ?_⟩ | refine ⟨⟨rfl, rfl, rfl⟩, ?_⟩ | refine ⟨by assumption, ?_⟩)⟩⟩ ⟨by omega, RO.le.refl _, rfl⟩ ?_)
  rintro i h2 m2 - ⟨hi, hle2, rfl⟩
  ((try (conv => whnf)); repeat ((first | refine And.intro ?_ True.intro | refine And.intro ⟨by omega, by omega⟩ ?_ | refine ⟨_, (by assumption : RO.c _ _ _ = _), ?_⟩ | refine ⟨_, _, _, (by assumption : (_ : Option Obj) = _), ?_⟩ | refine ⟨_, _, _, (by assumption : RO.c _ _ _ = _), ?_⟩ | refine ⟨_, (by assumption : Row _ _ _ _), ?_⟩ | refine ⟨_, (by assumption : Cell _ _ _ _ _), ?_⟩ | refine ⟨_, _, _, (by assumption : Cell _ _ _ _ _), ?_⟩ | refine ⟨_, Or.inl (by assumption), ?_⟩ | refine ⟨_, _, _, Or.inl (by assumption), ?_⟩ | refine And.intro (ints_one _) ?_ | refine And.intro (by omega) ?_ | refine d1 ?_ | refine d2 ?_ | refine d3 ?_ | refine d4 ?_ | refine go G20 400 hC (by kernel_rfl) ?_); (conv => whnf)))
  refine ⟨fun hlt => ?_, fun hge => ?_⟩
  · have hlt : i < ands.length := by simpa using hlt
    obtain ⟨p, q, rfl, hc⟩ := (hb.mono (hle1.trans hle2)).get hlt
    obtain ⟨c1, c2⟩ := hc i hlt
    have hw : IntKind.i64.wrap (2 * IntKind.i64.wrap (IntKind.i64.wrap (1 + (ins.length : Int)) + (i : Int))) = ((2 * (1 + ins.length + i) : Nat) : Int) := by
      rw [w64 (x := 1 + (ins.length : Int)) (by omega) (by omega), w64 (x := 1 + (ins.length : Int) + i) (by omega) (by omega), w64 (by omega) (by omega)]; omega
    obtain ⟨o1, o2, o3, o4⟩ := hg.ok i hlt
    ((try (conv => whnf)); repeat ((first | refine And.intro ?_ True.intro | refine And.intro ⟨by omega, by omega⟩ ?_ | refine ⟨_, (by assumption : RO.c _ _ _ = _), ?_⟩ | refine ⟨_, _, _, (by assumption : (_ : Option Obj) = _), ?_⟩ | refine ⟨_, _, _, (by assumption : RO.c _ _ _ = _), ?_⟩ | refine ⟨_, (by assumption : Row _ _ _ _), ?_⟩ | refine ⟨_, (by assumption : Cell _ _ _ _ _), ?_⟩ | refine ⟨_, _, _, (by assumption : Cell _ _ _ _ _), ?_⟩ | refine ⟨_, Or.inl (by assumption), ?_⟩ | refine ⟨_, _, _, Or.inl (by assumption), ?_⟩ | refine And.intro (ints_one _) ?_ | refine And.intro (by omega) ?_ | refine d1 ?_ | refine d2 ?_ | refine d3 ?_ | refine d4 ?_ | refine go G20 400 hC (by kernel_rfl) ?_); (conv => whnf)))
    refine halt (sx_loopB (X := Nat) [1, 3, 4] [1] (fun k => [(5, .v (.int .i64 k))]) (fun _ => []) (fun k h' m' => k ≤ 2 ∧ h' = h2 ∧ m' = m2) (fun k => 2 - k) 0 (by repeat (first | exact Keep.nil | apply Keep.cons rfl | apply Keep.skip rfl)) (by repeat (first | exact KeepB.nil | apply KeepB.cons rfl)) ⟨[(1, 1)], ⟨by simp [sinj], by repeat (first | exact trivial | refine ⟨rfl, ?_⟩ | refine ⟨⟨rfl, rfl⟩, ?_⟩ | refine ⟨⟨rfl, rfl, rfl⟩, ?_⟩ | refine ⟨stepI (by omega), ?_⟩ | refine ⟨by assumption, ?_⟩), by repeat (first | exact trivial | refine ⟨rfl, ?_⟩ | refine ⟨⟨rfl, rfl, rfl⟩, ?_⟩ | refine ⟨by assumption, ?_⟩)⟩⟩ ⟨by omega, rfl, rfl⟩ ?_)
    rintro k h3 m3 - ⟨hk, rfl, rfl⟩
    ((try (conv => whnf)); repeat ((first | refine And.intro ?_ True.intro | refine And.intro ⟨by omega, by omega⟩ ?_ | refine ⟨_, (by assumption : RO.c _ _ _ = _), ?_⟩ | refine ⟨_, _, _, (by assumption : (_ : Option Obj) = _), ?_⟩ | refine ⟨_, _, _, (by assumption : RO.c _ _ _ = _), ?_⟩ | refine ⟨_, (by assumption : Row _ _ _ _), ?_⟩ | refine ⟨_, (by assumption : Cell _ _ _ _ _), ?_⟩ | refine ⟨_, _, _, (by assumption : Cell _ _ _ _ _), ?_⟩ | refine ⟨_, Or.inl (by assumption), ?_⟩ | refine ⟨_, _, _, Or.inl (by assumption), ?_⟩ | refine And.intro (ints_one _) ?_ | refine And.intro (by omega) ?_ | refine d1 ?_ | refine d2 ?_ | refine d3 ?_ | refine d4 ?_ | refine go G20 400 hC (by kernel_rfl) ?_); (conv => whnf)))
    refine ⟨fun hlt2 => ?_, fun hge2 => ?_⟩
    · have hlt2 : k < 2 := by have := of_decide_eq_true hlt2; omega
      have hk2 : k = 0 ∨ k = 1 := by omega
      rcases hk2 with rfl | rfl
      all_goals
        ((try (conv => whnf)); repeat ((first | refine And.intro ?_ True.intro | refine And.intro ⟨by omega, by omega⟩ ?_ | refine ⟨_, (by assumption : RO.c _ _ _ = _), ?_⟩ | refine ⟨_, _, _, (by assumption : (_ : Option Obj) = _), ?_⟩ | refine ⟨_, _, _, (by assumption : RO.c _ _ _ = _), ?_⟩ | refine ⟨_, (by assumption : Row _ _ _ _), ?_⟩ | refine ⟨_, (by assumption : Cell _ _ _ _ _), ?_⟩ | refine ⟨_, _, _, (by assumption : Cell _ _ _ _ _), ?_⟩ | refine ⟨_, Or.inl (by assumption), ?_⟩ | refine ⟨_, _, _, Or.inl (by assumption), ?_⟩ | refine And.intro (ints_one _) ?_ | refine And.intro (by omega) ?_ | refine d1 ?_ | refine d2 ?_ | refine d3 ?_ | refine d4 ?_ | refine go G20 400 hC (by kernel_rfl) ?_); (conv => whnf)))
        refine ⟨fun hq1 => ?_, fun hq => absurd hq (by simp; omega)⟩
        ((try (conv => whnf)); repeat ((first | refine And.intro ?_ True.intro | refine And.intro ⟨by omega, by omega⟩ ?_ | refine ⟨_, (by assumption : RO.c _ _ _ = _), ?_⟩ | refine ⟨_, _, _, (by assumption : (_ : Option Obj) = _), ?_⟩ | refine ⟨_, _, _, (by assumption : RO.c _ _ _ = _), ?_⟩ | refine ⟨_, (by assumption : Row _ _ _ _), ?_⟩ | refine ⟨_, (by assumption : Cell _ _ _ _ _), ?_⟩ | refine ⟨_, _, _, (by assumption : Cell _ _ _ _ _), ?_⟩ | refine ⟨_, Or.inl (by assumption), ?_⟩ | refine ⟨_, _, _, Or.inl (by assumption), ?_⟩ | refine And.intro (ints_one _) ?_ | refine And.intro (by omega) ?_ | refine d1 ?_ | refine d2 ?_ | refine d3 ?_ | refine d4 ?_ | refine go G20 400 hC (by kernel_rfl) ?_); (conv => whnf)))
        rw [hw]
        refine ⟨fun hq => absurd hq (by simp; omega), fun hq1 => ?_⟩
        ((try (conv => whnf)); repeat ((first | refine And.intro ?_ True.intro | refine And.intro ⟨by omega, by omega⟩ ?_ | refine ⟨_, (by assumption : RO.c _ _ _ = _), ?_⟩ | refine ⟨_, _, _, (by assumption : (_ : Option Obj) = _), ?_⟩ | refine ⟨_, _, _, (by assumption : RO.c _ _ _ = _), ?_⟩ | refine ⟨_, (by assumption : Row _ _ _ _), ?_⟩ | refine ⟨_, (by assumption : Cell _ _ _ _ _), ?_⟩ | refine ⟨_, _, _, (by assumption : Cell _ _ _ _ _), ?_⟩ | refine ⟨_, Or.inl (by assumption), ?_⟩ | refine ⟨_, _, _, Or.inl (by assumption), ?_⟩ | refine And.intro (ints_one _) ?_ | refine And.intro (by omega) ?_ | refine d1 ?_ | refine d2 ?_ | refine d3 ?_ | refine d4 ?_ | refine go G20 400 hC (by kernel_rfl) ?_); (conv => whnf)))
      · exact halt ⟨1, [(1, 1)], ⟨by simp [sinj], by repeat (first | exact trivial | refine ⟨rfl, ?_⟩ | refine ⟨⟨rfl, rfl⟩, ?_⟩ | refine ⟨⟨rfl, rfl, rfl⟩, ?_⟩ | refine ⟨stepI (by omega), ?_⟩ | refine ⟨by assumption, ?_⟩), by repeat (first | exact trivial | refine ⟨rfl, ?_⟩ | refine ⟨⟨rfl, rfl, rfl⟩, ?_⟩ | refine ⟨by assumption, ?_⟩)⟩, RO.le.refl _, ⟨by omega, rfl, rfl⟩, by omega⟩
      · exact halt ⟨2, [(1, 1)], ⟨by simp [sinj], by repeat (first | exact trivial | refine ⟨rfl, ?_⟩ | refine ⟨⟨rfl, rfl⟩, ?_⟩ | refine ⟨⟨rfl, rfl, rfl⟩, ?_⟩ | refine ⟨stepI (by omega), ?_⟩ | refine ⟨by assumption, ?_⟩), by repeat (first | exact trivial | refine ⟨rfl, ?_⟩ | refine ⟨⟨rfl, rfl, rfl⟩, ?_⟩ | refine ⟨by assumption, ?_⟩)⟩, RO.le.refl _, ⟨by omega, rfl, rfl⟩, by omega⟩
    · ((try (conv => whnf)); repeat ((first | refine And.intro ?_ True.intro | refine And.intro ⟨by omega, by omega⟩ ?_ | refine ⟨_, (by assumption : RO.c _ _ _ = _), ?_⟩ | refine ⟨_, _, _, (by assumption : (_ : Option Obj) = _), ?_⟩ | refine ⟨_, _, _, (by assumption : RO.c _ _ _ = _), ?_⟩ | refine ⟨_, (by assumption : Row _ _ _ _), ?_⟩ | refine ⟨_, (by assumption : Cell _ _ _ _ _), ?_⟩ | refine ⟨_, _, _, (by assumption : Cell _ _ _ _ _), ?_⟩ | refine ⟨_, Or.inl (by assumption), ?_⟩ | refine ⟨_, _, _, Or.inl (by assumption), ?_⟩ | refine And.intro (ints_one _) ?_ | refine And.intro (by omega) ?_ | refine d1 ?_ | refine d2 ?_ | refine d3 ?_ | refine d4 ?_ | refine go G20 400 hC (by kernel_rfl) ?_); (conv => whnf)))
      exact halt ⟨i + 1, [(1, 1)], ⟨by simp [sinj], by repeat (first | exact trivial | refine ⟨rfl, ?_⟩ | refine ⟨⟨rfl, rfl⟩, ?_⟩ | refine ⟨⟨rfl, rfl, rfl⟩, ?_⟩ | refine ⟨stepI (by omega), ?_⟩ | refine ⟨by assumption, ?_⟩), by repeat (first | exact trivial | refine ⟨rfl, ?_⟩ | refine ⟨⟨rfl, rfl, rfl⟩, ?_⟩ | refine ⟨by assumption, ?_⟩)⟩, RO.le.refl _, ⟨hlt, hle2, rfl⟩, by omega⟩
  · ((try (conv => whnf)); repeat ((first | refine And.intro ?_ True.intro | refine And.intro ⟨by omega, by omega⟩ ?_ | refine ⟨_, (by assumption : RO.c _ _ _ = _), ?_⟩ | refine ⟨_, _, _, (by assumption : (_ : Option Obj) = _), ?_⟩ | refine ⟨_, _, _, (by assumption : RO.c _ _ _ = _), ?_⟩ | refine ⟨_, (by assumption : Row _ _ _ _), ?_⟩ | refine ⟨_, (by assumption : Cell _ _ _ _ _), ?_⟩ | refine ⟨_, _, _, (by assumption : Cell _ _ _ _ _), ?_⟩ | refine ⟨_, Or.inl (by assumption), ?_⟩ | refine ⟨_, _, _, Or.inl (by assumption), ?_⟩ | refine And.intro (ints_one _) ?_ | refine And.intro (by omega) ?_ | refine d1 ?_ | refine d2 ?_ | refine d3 ?_ | refine d4 ?_ | refine go G20 400 hC (by kernel_rfl) ?_); (conv => whnf)))
    exact ⟨rfl, rfl⟩
def G71 : Gv := ⟨[], [], []⟩
theorem has06g {u v : Value} {ins : List Int} {ands : List Pr} {e0 : Int} {h : RO} {m : Hp} (ha : IntS h u ins) (hb : PrS h v ands) (hg : GOK ins ands) (he : EdK ins.length ands.length e0) :
    Con Tryz.prog 71 [.agg #[u, v], .int .i64 e0] h m fun e h' m' => e = .returned (.bool true) ∧ m' = m := by
  obtain ⟨a, c, rfl, -⟩ := ha.s
  obtain ⟨b, d, rfl⟩ := hb.sl
  refine fn_of (nt := 12) T Tryz.func71 rfl (by kernel_rfl) Tryz.ntmps71 (by simp) T_ok T_mixed fun C hC => ?_
  simp only [Tryz.f71, argFr, Nat.zero_add, Nat.reduceAdd] at hC ⊢
  ((try (conv => whnf)); repeat ((first | refine And.intro ?_ True.intro | refine And.intro ⟨by omega, by omega⟩ ?_ | refine ⟨_, (by assumption : RO.c _ _ _ = _), ?_⟩ | refine ⟨_, _, _, (by assumption : (_ : Option Obj) = _), ?_⟩ | refine ⟨_, _, _, (by assumption : RO.c _ _ _ = _), ?_⟩ | refine ⟨_, (by assumption : Row _ _ _ _), ?_⟩ | refine ⟨_, (by assumption : Cell _ _ _ _ _), ?_⟩ | refine ⟨_, _, _, (by assumption : Cell _ _ _ _ _), ?_⟩ | refine ⟨_, Or.inl (by assumption), ?_⟩ | refine ⟨_, _, _, Or.inl (by assumption), ?_⟩ | refine And.intro (ints_one _) ?_ | refine And.intro (by omega) ?_ | refine d1 ?_ | refine d2 ?_ | refine d3 ?_ | refine d4 ?_ | refine go G71 400 hC (by kernel_rfl) ?_); (conv => whnf)))
  refine Con.mono (may06 ha hb hg) ?_
  rintro _ h1 m1 hle1 ⟨rfl, rfl⟩
  ((try (conv => whnf)); repeat ((first | refine And.intro ?_ True.intro | refine And.intro ⟨by omega, by omega⟩ ?_ | refine ⟨_, (by assumption : RO.c _ _ _ = _), ?_⟩ | refine ⟨_, _, _, (by assumption : (_ : Option Obj) = _), ?_⟩ | refine ⟨_, _, _, (by assumption : RO.c _ _ _ = _), ?_⟩ | refine ⟨_, (by assumption : Row _ _ _ _), ?_⟩ | refine ⟨_, (by assumption : Cell _ _ _ _ _), ?_⟩ | refine ⟨_, _, _, (by assumption : Cell _ _ _ _ _), ?_⟩ | refine ⟨_, Or.inl (by assumption), ?_⟩ | refine ⟨_, _, _, Or.inl (by assumption), ?_⟩ | refine And.intro (ints_one _) ?_ | refine And.intro (by omega) ?_ | refine d1 ?_ | refine d2 ?_ | refine d3 ?_ | refine d4 ?_ | refine go G71 400 hC (by kernel_rfl) ?_); (conv => whnf)))
  refine Con.mono (has06 (ha.mono hle1) (hb.mono hle1) he) ?_
  rintro _ h2 m2 hle2 ⟨rfl, rfl⟩
  ((try (conv => whnf)); repeat ((first | refine And.intro ?_ True.intro | refine And.intro ⟨by omega, by omega⟩ ?_ | refine ⟨_, (by assumption : RO.c _ _ _ = _), ?_⟩ | refine ⟨_, _, _, (by assumption : (_ : Option Obj) = _), ?_⟩ | refine ⟨_, _, _, (by assumption : RO.c _ _ _ = _), ?_⟩ | refine ⟨_, (by assumption : Row _ _ _ _), ?_⟩ | refine ⟨_, (by assumption : Cell _ _ _ _ _), ?_⟩ | refine ⟨_, _, _, (by assumption : Cell _ _ _ _ _), ?_⟩ | refine ⟨_, Or.inl (by assumption), ?_⟩ | refine ⟨_, _, _, Or.inl (by assumption), ?_⟩ | refine And.intro (ints_one _) ?_ | refine And.intro (by omega) ?_ | refine d1 ?_ | refine d2 ?_ | refine d3 ?_ | refine d4 ?_ | refine go G71 400 hC (by kernel_rfl) ?_); (conv => whnf)))
  exact ⟨rfl, rfl⟩
end Go.Proofs.YtoefoaabnjeofaaGreat
namespace Go.Proofs.YtoefoaabnjeofaaGreat
open Go.SX
set_option maxHeartbeats 4000000
set_option maxRecDepth 20000
/-- A row of bools in memory. -/
def BoolM (m : Hp) (b n : Nat) (f : Nat → Bool) : Prop := ∃ cs : List Value, m b = some (.cells cs.toArray 4 (0, 0)) ∧ cs.length = n ∧ ∀ j, j < n → cs[j]? = some (.bool (f j))
theorem BoolM.get {h : RO} {m : Hp} {b n : Nat} {f : Nat → Bool} (r : BoolM m b n f) {j : Nat} (hj : j < n) : Cell h m b (0 + j) (.bool (f j)) := by
  obtain ⟨cs, e, _, hc⟩ := r
  exact Cell.of e (by simpa using hc j hj)
theorem BoolM.set {m : Hp} {b n : Nat} {f : Nat → Bool} (r : BoolM m b n f) {j : Nat} {v : Bool} (hj : j < n) : ∃ cs, m b = some (.cells cs 4 (0, 0)) ∧ 0 + j + 1 ≤ cs.size ∧
    BoolM (m.set b (.cells (setL cs.toList (0 + j) [.bool v]).toArray 4 (0, 0))) b n fun i => if i = j then v else f i := by
  obtain ⟨cs, e, hl, hc⟩ := r
  refine ⟨cs.toArray, e, by simp; omega, _, Hp.set_eq, by rw [setL_length]; simpa using hl, fun i hi => ?_⟩
  rw [Nat.zero_add, setL, setL, setN_eq]
  by_cases hij : i = j
  · subst hij; simp [hl, hi]
  · rw [List.getElem?_set_ne (Ne.symm hij)]; simpa [hij] using hc i hi
theorem BoolM.new (m : Hp) (b n : Nat) : BoolM (m.set b (.cells (repZ n [.bool false]).toArray 4 (0, 0))) b n fun _ => false := by
  refine ⟨_, Hp.set_eq, by rw [repZ_length]; simp, fun j hj => ?_⟩
  rw [repZ_get _ _ _ (by simpa using hj)]; simp [Nat.mod_one]
theorem BoolM.congr {m : Hp} {b n : Nat} {f f' : Nat → Bool} (r : BoolM m b n f) (h : ∀ j, j < n → f j = f' j) : BoolM m b n f' := by
  obtain ⟨cs, e, hl, hc⟩ := r
  exact ⟨cs, e, hl, fun j hj => by rw [← h j hj]; exact hc j hj⟩
theorem BoolM.stay {m m' : Hp} {b n : Nat} {f : Nat → Bool} (r : BoolM m b n f) (h : m.sub m') : BoolM m' b n f := by
  obtain ⟨cs, e, hl, hc⟩ := r
  exact ⟨cs, h _ _ e, hl, hc⟩
def G163 : Gv := ⟨[5], [], []⟩
theorem on06 {u : Value} {l : List Int} {h : RO} {m : Hp} (ha : IntS h u l) (hl : ∀ x ∈ l, x ≤ 65536) : Con Tryz.prog 163 [u] h m fun e h' m' =>
    ∃ b, e = .returned (.slice (some ⟨b, 0, none⟩) 65537 65537) ∧ BoolM m' b 65537 (fun j => decide (0 < j) && l.contains (j : Int)) ∧ m b = none ∧ m.sub m' := by
  obtain ⟨a, c, rfl, -⟩ := ha.s
  have hla := ha.len
  refine fn_of (nt := 24) T Tryz.func163 rfl (by kernel_rfl) Tryz.ntmps163 (by simp) T_ok T_mixed fun C hC => ?_
  simp only [Tryz.f163, argFr, Nat.zero_add, Nat.reduceAdd] at hC ⊢
  ((try (conv => whnf)); repeat ((first | refine And.intro ?_ True.intro | refine And.intro ⟨by omega, by omega⟩ ?_ | refine ⟨_, (by assumption : RO.c _ _ _ = _), ?_⟩ | refine ⟨_, _, _, (by assumption : (_ : Option Obj) = _), ?_⟩ | refine ⟨_, _, _, (by assumption : RO.c _ _ _ = _), ?_⟩ | refine ⟨_, (by assumption : Row _ _ _ _), ?_⟩ | refine ⟨_, (by assumption : Cell _ _ _ _ _), ?_⟩ | refine ⟨_, _, _, (by assumption : Cell _ _ _ _ _), ?_⟩ | refine ⟨_, Or.inl (by assumption), ?_⟩ | refine ⟨_, _, _, Or.inl (by assumption), ?_⟩ | refine And.intro (ints_one _) ?_ | refine And.intro (by omega) ?_ | refine d1 ?_ | refine d2 ?_ | refine d3 ?_ | refine d4 ?_ | refine go G163 400 hC (by kernel_rfl) ?_); (conv => whnf)))
  refine ⟨by decide, fun b f1 f2 f3 => ?_⟩
  ((try (conv => whnf)); repeat ((first | refine And.intro ?_ True.intro | refine And.intro ⟨by omega, by omega⟩ ?_ | refine ⟨_, (by assumption : RO.c _ _ _ = _), ?_⟩ | refine ⟨_, _, _, (by assumption : (_ : Option Obj) = _), ?_⟩ | refine ⟨_, _, _, (by assumption : RO.c _ _ _ = _), ?_⟩ | refine ⟨_, (by assumption : Row _ _ _ _), ?_⟩ | refine ⟨_, (by assumption : Cell _ _ _ _ _), ?_⟩ | refine ⟨_, _, _, (by assumption : Cell _ _ _ _ _), ?_⟩ | refine ⟨_, Or.inl (by assumption), ?_⟩ | refine ⟨_, _, _, Or.inl (by assumption), ?_⟩ | refine And.intro (ints_one _) ?_ | refine And.intro (by omega) ?_ | refine d1 ?_ | refine d2 ?_ | refine d3 ?_ | refine d4 ?_ | refine go G163 400 hC (by kernel_rfl) ?_); (conv => whnf)))
  refine halt (sx_loopB (X := Nat) [0, 3] [] (fun i => [(4, .v (.int .i64 i))]) (fun _ => []) (fun i h' m' => i ≤ l.length ∧ h.le h' ∧ m.sub m' ∧ BoolM m' b 65537 (fun j => decide (0 < j) && (l.take i).contains (j : Int))) (fun i => l.length - i) 0 (by repeat (first | exact Keep.nil | apply Keep.cons rfl | apply Keep.skip rfl)) (by repeat (first | exact KeepB.nil | apply KeepB.cons rfl)) ⟨[], ⟨by simp [sinj], by repeat (first | exact trivial | refine ⟨rfl, ?_⟩ | refine ⟨⟨rfl, rfl⟩, ?_⟩ | refine ⟨⟨rfl, rfl, rfl⟩, ?_⟩ | refine ⟨stepI (by omega), ?_⟩ | refine ⟨by assumption, ?_⟩), by repeat (first | exact trivial | refine ⟨rfl, ?_⟩ | refine ⟨⟨rfl, rfl, rfl⟩, ?_⟩ | refine ⟨by assumption, ?_⟩)⟩⟩
    ⟨by omega, RO.le.refl _, (Hp.sub.refl _).fresh f1 _, (BoolM.new m b 65537).congr fun j _ => by simp⟩ ?_)
  rintro i h2 m2 - ⟨hi, hle2, hs2, hB⟩
  ((try (conv => whnf)); repeat ((first | refine And.intro ?_ True.intro | refine And.intro ⟨by omega, by omega⟩ ?_ | refine ⟨_, (by assumption : RO.c _ _ _ = _), ?_⟩ | refine ⟨_, _, _, (by assumption : (_ : Option Obj) = _), ?_⟩ | refine ⟨_, _, _, (by assumption : RO.c _ _ _ = _), ?_⟩ | refine ⟨_, (by assumption : Row _ _ _ _), ?_⟩ | refine ⟨_, (by assumption : Cell _ _ _ _ _), ?_⟩ | refine ⟨_, _, _, (by assumption : Cell _ _ _ _ _), ?_⟩ | refine ⟨_, Or.inl (by assumption), ?_⟩ | refine ⟨_, _, _, Or.inl (by assumption), ?_⟩ | refine And.intro (ints_one _) ?_ | refine And.intro (by omega) ?_ | refine d1 ?_ | refine d2 ?_ | refine d3 ?_ | refine d4 ?_ | refine go G163 400 hC (by kernel_rfl) ?_); (conv => whnf)))
  refine ⟨fun hlt => ?_, fun hge => ?_⟩
  · have hlt : i < l.length := by simpa using hlt
    obtain ⟨p, q, rfl, hc⟩ := (ha.mono hle2).get hlt
    have c1 := hc i hlt
    have hx := hl _ (g_mem hlt)
    have htk : l.take (i + 1) = l.take i ++ [g l i] := by rw [List.take_add_one, g_get hlt]; rfl
    ((try (conv => whnf)); repeat ((first | refine And.intro ?_ True.intro | refine And.intro ⟨by omega, by omega⟩ ?_ | refine ⟨_, (by assumption : RO.c _ _ _ = _), ?_⟩ | refine ⟨_, _, _, (by assumption : (_ : Option Obj) = _), ?_⟩ | refine ⟨_, _, _, (by assumption : RO.c _ _ _ = _), ?_⟩ | refine ⟨_, (by assumption : Row _ _ _ _), ?_⟩ | refine ⟨_, (by assumption : Cell _ _ _ _ _), ?_⟩ | refine ⟨_, _, _, (by assumption : Cell _ _ _ _ _), ?_⟩ | refine ⟨_, Or.inl (by assumption), ?_⟩ | refine ⟨_, _, _, Or.inl (by assumption), ?_⟩ | refine And.intro (ints_one _) ?_ | refine And.intro (by omega) ?_ | refine d1 ?_ | refine d2 ?_ | refine d3 ?_ | refine d4 ?_ | refine go G163 400 hC (by kernel_rfl) ?_); (conv => whnf)))
    refine ⟨fun hq => ?_, fun hq => ?_⟩
    · have hq : 0 < g l i := by simpa using hq
      ((try (conv => whnf)); repeat ((first | refine And.intro ?_ True.intro | refine And.intro ⟨by omega, by omega⟩ ?_ | refine ⟨_, (by assumption : RO.c _ _ _ = _), ?_⟩ | refine ⟨_, _, _, (by assumption : (_ : Option Obj) = _), ?_⟩ | refine ⟨_, _, _, (by assumption : RO.c _ _ _ = _), ?_⟩ | refine ⟨_, (by assumption : Row _ _ _ _), ?_⟩ | refine ⟨_, (by assumption : Cell _ _ _ _ _), ?_⟩ | refine ⟨_, _, _, (by assumption : Cell _ _ _ _ _), ?_⟩ | refine ⟨_, Or.inl (by assumption), ?_⟩ | refine ⟨_, _, _, Or.inl (by assumption), ?_⟩ | refine And.intro (ints_one _) ?_ | refine And.intro (by omega) ?_ | refine d1 ?_ | refine d2 ?_ | refine d3 ?_ | refine d4 ?_ | refine go G163 400 hC (by kernel_rfl) ?_); (conv => whnf)))
      obtain ⟨cs, e1, e2, hB'⟩ := hB.set (j := (g l i).toNat) (v := true) (by omega)
      refine ⟨cs, _, e1, e2, ?_⟩
      ((try (conv => whnf)); repeat ((first | refine And.intro ?_ True.intro | refine And.intro ⟨by omega, by omega⟩ ?_ | refine ⟨_, (by assumption : RO.c _ _ _ = _), ?_⟩ | refine ⟨_, _, _, (by assumption : (_ : Option Obj) = _), ?_⟩ | refine ⟨_, _, _, (by assumption : RO.c _ _ _ = _), ?_⟩ | refine ⟨_, (by assumption : Row _ _ _ _), ?_⟩ | refine ⟨_, (by assumption : Cell _ _ _ _ _), ?_⟩ | refine ⟨_, _, _, (by assumption : Cell _ _ _ _ _), ?_⟩ | refine ⟨_, Or.inl (by assumption), ?_⟩ | refine ⟨_, _, _, Or.inl (by assumption), ?_⟩ | refine And.intro (ints_one _) ?_ | refine And.intro (by omega) ?_ | refine d1 ?_ | refine d2 ?_ | refine d3 ?_ | refine d4 ?_ | refine go G163 400 hC (by kernel_rfl) ?_); (conv => whnf)))
      refine halt ⟨i + 1, [], ⟨by simp [sinj], by repeat (first | exact trivial | refine ⟨rfl, ?_⟩ | refine ⟨⟨rfl, rfl⟩, ?_⟩ | refine ⟨⟨rfl, rfl, rfl⟩, ?_⟩ | refine ⟨stepI (by omega), ?_⟩ | refine ⟨by assumption, ?_⟩), by repeat (first | exact trivial | refine ⟨rfl, ?_⟩ | refine ⟨⟨rfl, rfl, rfl⟩, ?_⟩ | refine ⟨by assumption, ?_⟩)⟩, RO.le.refl _, ⟨hlt, hle2, hs2.fresh f1 _, BoolM.congr hB' fun j hj => ?_⟩, by omega⟩
      rw [htk]
      by_cases h0 : j = (g l i).toNat
      · subst h0; simp; omega
      · rw [if_neg h0]
        have : (j : Int) ≠ g l i := by omega
        simp [this]
    · have hq : ¬ 0 < g l i := by simpa using hq
      ((try (conv => whnf)); repeat ((first | refine And.intro ?_ True.intro | refine And.intro ⟨by omega, by omega⟩ ?_ | refine ⟨_, (by assumption : RO.c _ _ _ = _), ?_⟩ | refine ⟨_, _, _, (by assumption : (_ : Option Obj) = _), ?_⟩ | refine ⟨_, _, _, (by assumption : RO.c _ _ _ = _), ?_⟩ | refine ⟨_, (by assumption : Row _ _ _ _), ?_⟩ | refine ⟨_, (by assumption : Cell _ _ _ _ _), ?_⟩ | refine ⟨_, _, _, (by assumption : Cell _ _ _ _ _), ?_⟩ | refine ⟨_, Or.inl (by assumption), ?_⟩ | refine ⟨_, _, _, Or.inl (by assumption), ?_⟩ | refine And.intro (ints_one _) ?_ | refine And.intro (by omega) ?_ | refine d1 ?_ | refine d2 ?_ | refine d3 ?_ | refine d4 ?_ | refine go G163 400 hC (by kernel_rfl) ?_); (conv => whnf)))
      refine halt ⟨i + 1, [], ⟨by simp [sinj], by repeat (first | exact trivial | refine ⟨rfl, ?_⟩ | refine ⟨⟨rfl, rfl⟩, ?_⟩ | refine ⟨⟨rfl, rfl, rfl⟩, ?_⟩ | refine ⟨stepI (by omega), ?_⟩ | refine ⟨by assumption, ?_⟩), by repeat (first | exact trivial | refine ⟨rfl, ?_⟩ | refine ⟨⟨rfl, rfl, rfl⟩, ?_⟩ | refine ⟨by assumption, ?_⟩)⟩, RO.le.refl _, ⟨hlt, hle2, hs2, hB.congr fun j hj => ?_⟩, by omega⟩
      rw [htk]
      by_cases h0 : 0 < j
      · have : (j : Int) ≠ g l i := by omega
        simp [this]
      · simp [h0]
  · have hge : i = l.length := by simp at hge; omega
    subst hge
    rw [List.take_length] at hB
    ((try (conv => whnf)); repeat ((first | refine And.intro ?_ True.intro | refine And.intro ⟨by omega, by omega⟩ ?_ | refine ⟨_, (by assumption : RO.c _ _ _ = _), ?_⟩ | refine ⟨_, _, _, (by assumption : (_ : Option Obj) = _), ?_⟩ | refine ⟨_, _, _, (by assumption : RO.c _ _ _ = _), ?_⟩ | refine ⟨_, (by assumption : Row _ _ _ _), ?_⟩ | refine ⟨_, (by assumption : Cell _ _ _ _ _), ?_⟩ | refine ⟨_, _, _, (by assumption : Cell _ _ _ _ _), ?_⟩ | refine ⟨_, Or.inl (by assumption), ?_⟩ | refine ⟨_, _, _, Or.inl (by assumption), ?_⟩ | refine And.intro (ints_one _) ?_ | refine And.intro (by omega) ?_ | refine d1 ?_ | refine d2 ?_ | refine d3 ?_ | refine d4 ?_ | refine go G163 400 hC (by kernel_rfl) ?_); (conv => whnf)))
    exact ⟨b, rfl, hB, f1, hs2⟩
/-- The value of an edge. -/
def ofE (f : Nat → Bool) (e : Int) : Bool := !(f (e / 2).toNat == (e % 2 == 1))
def G164 : Gv := ⟨[], [], []⟩
theorem of06 {b n c : Nat} {f : Nat → Bool} {e0 : Int} {h : RO} {m : Hp} (hB : BoolM m b n f) (he : 0 ≤ e0 ∧ e0 < ((2 * n : Nat) : Int)) (hn : n ≤ 1000000) :
    Con Tryz.prog 164 [.slice (some ⟨b, 0, none⟩) n c, .int .i64 e0] h m fun e h' m' => e = .returned (.bool (ofE f e0)) ∧ h' = h ∧ m' = m := by
  have hd : e0.tdiv 2 = e0 / 2 := Int.tdiv_eq_ediv_of_nonneg he.1
  have hm : e0.tmod 2 = e0 % 2 := Int.tmod_eq_emod_of_nonneg he.1
  have hw : IntKind.i64.wrap (e0.tdiv 2) = e0 / 2 := by rw [hd, w64 (by omega) (by omega)]
  have c1 : Cell h m b (0 + (IntKind.i64.wrap (e0.tdiv 2)).toNat) (.bool (f (e0 / 2).toNat)) := by rw [hw]; exact hB.get (by omega)
  refine fn_of (nt := 14) T Tryz.func164 rfl (by kernel_rfl) Tryz.ntmps164 (by simp) T_ok T_mixed fun C hC => ?_
  simp only [Tryz.f164, argFr, Nat.zero_add, Nat.reduceAdd] at hC ⊢
  ((try (conv => whnf)); repeat ((first | refine And.intro ?_ True.intro | refine And.intro ⟨by omega, by omega⟩ ?_ | refine ⟨_, (by assumption : RO.c _ _ _ = _), ?_⟩ | refine ⟨_, _, _, (by assumption : (_ : Option Obj) = _), ?_⟩ | refine ⟨_, _, _, (by assumption : RO.c _ _ _ = _), ?_⟩ | refine ⟨_, (by assumption : Row _ _ _ _), ?_⟩ | refine ⟨_, (by assumption : Cell _ _ _ _ _), ?_⟩ | refine ⟨_, _, _, (by assumption : Cell _ _ _ _ _), ?_⟩ | refine ⟨_, Or.inl (by assumption), ?_⟩ | refine ⟨_, _, _, Or.inl (by assumption), ?_⟩ | refine And.intro (ints_one _) ?_ | refine And.intro (by omega) ?_ | refine d1 ?_ | refine d2 ?_ | refine d3 ?_ | refine d4 ?_ | refine go G164 400 hC (by kernel_rfl) ?_); (conv => whnf)))
  exact ⟨by rw [ofE, ← hm]; rfl, rfl, rfl⟩
/-- The values of the nodes. -/
def ofL (v : List Bool) (e : Int) : Bool := ofE (fun j => v.getD j false) e
def valsG (ins : List Int) (ands : List Pr) (on : Nat → Bool) : List Bool := ands.foldl (fun v p => v ++ [ofL v p.1 && ofL v p.2]) (false :: ins.map fun x => on x.toNat)
theorem valsG_snoc (ins : List Int) (ands : List Pr) (on : Nat → Bool) (p : Pr) : valsG ins (ands ++ [p]) on = valsG ins ands on ++ [ofL (valsG ins ands on) p.1 && ofL (valsG ins ands on) p.2] := by simp [valsG]
theorem valsG_len (ins : List Int) (ands : List Pr) (on : Nat → Bool) : (valsG ins ands on).length = 1 + ins.length + ands.length := by
  induction ands using snocInd with
  | h0 => simp [valsG]; omega
  | h1 l x ih => rw [valsG_snoc]; simp [ih]; omega
theorem ofE_congr {f f' : Nat → Bool} {n : Nat} {e : Int} (h : ∀ j, j < n → f j = f' j) (he : 0 ≤ e ∧ e < ((2 * n : Nat) : Int)) : ofE f e = ofE f' e := by
  rw [ofE, ofE, h _ (by omega)]
theorem getD_snoc {l : List Bool} {x : Bool} {j : Nat} : (l ++ [x]).getD j false = if j = l.length then x else l.getD j false := by
  rw [List.getD_eq_getElem?_getD, List.getD_eq_getElem?_getD]
  by_cases h : j < l.length
  · rw [List.getElem?_append_left h, if_neg (by omega)]
  · rw [List.getElem?_append_right (by omega)]
    by_cases e : j = l.length
    · subst e; simp
    · rw [if_neg e, List.getElem?_eq_none (l := [x]) (by simp; omega), List.getElem?_eq_none (l := l) (by omega)]
def G162 : Gv := ⟨[10], [2], [(9, .one 0 (.one 1 (.one 2 (.one 3 (.one 4 (.one 5 (.one 6 (.one 7 (.one 8 (.one 9 (.one 10 (.one 11 (.one 12 (.one 13 (.fork 14 (.one 15 (.one 16 (.one 17 (.one 18 (.one 19 (.one 20 (.one 21 (.one 22 (.fork 23 (.one 24 (.one 25 (.fork 26 (.nil) .stop))) .stop))))))))) .stop)))))))))))))))]⟩
theorem all06 {u v : Value} {b c2 : Nat} {on : Nat → Bool} {ins : List Int} {ands : List Pr} {h : RO} {m : Hp} (ha : IntS h u ins) (hb : PrS h v ands) (hg : GOK ins ands) (hB : BoolM m b 65537 on) :
    Con Tryz.prog 162 [.agg #[u, v], .slice (some ⟨b, 0, none⟩) 65537 c2] h m fun e h' m' =>
      ∃ r c, e = .returned (.slice (some ⟨r, 0, none⟩) (1 + ins.length + ands.length) c) ∧ BoolM m' r (1 + ins.length + ands.length) (fun j => (valsG ins ands on).getD j false) ∧ m r = none ∧ m.sub m' := by
  obtain ⟨a, ca, rfl, -⟩ := ha.s
  obtain ⟨ba, d, rfl⟩ := hb.sl
  have hla := ha.len
  have hlb := hb.len
  have hgs := hg.size
  refine fn_of (nt := 64) T Tryz.func162 rfl (by kernel_rfl) Tryz.ntmps162 (by simp) T_ok T_mixed fun C hC => ?_
  simp only [Tryz.f162, argFr, Nat.zero_add, Nat.reduceAdd] at hC ⊢
  ((try (conv => whnf)); repeat ((first | refine And.intro ?_ True.intro | refine And.intro ⟨by omega, by omega⟩ ?_ | refine ⟨_, (by assumption : RO.c _ _ _ = _), ?_⟩ | refine ⟨_, _, _, (by assumption : (_ : Option Obj) = _), ?_⟩ | refine ⟨_, _, _, (by assumption : RO.c _ _ _ = _), ?_⟩ | refine ⟨_, (by assumption : Row _ _ _ _), ?_⟩ | refine ⟨_, (by assumption : Cell _ _ _ _ _), ?_⟩ | refine ⟨_, _, _, (by assumption : Cell _ _ _ _ _), ?_⟩ | refine ⟨_, Or.inl (by assumption), ?_⟩ | refine ⟨_, _, _, Or.inl (by assumption), ?_⟩ | refine And.intro (ints_one _) ?_ | refine And.intro (by omega) ?_ | refine d1 ?_ | refine d2 ?_ | refine d3 ?_ | refine d4 ?_ | refine go G162 400 hC (by kernel_rfl) ?_); (conv => whnf)))
  intro b0 h0 hle0 hp0
  have p0 := hp0 0 _ rfl
  have p1 := hp0 1 _ rfl
  replace ha := ha.mono hle0
  replace hb := hb.mono hle0
  ((try (conv => whnf)); repeat ((first | refine And.intro ?_ True.intro | refine And.intro ⟨by omega, by omega⟩ ?_ | refine ⟨_, (by assumption : RO.c _ _ _ = _), ?_⟩ | refine ⟨_, _, _, (by assumption : (_ : Option Obj) = _), ?_⟩ | refine ⟨_, _, _, (by assumption : RO.c _ _ _ = _), ?_⟩ | refine ⟨_, (by assumption : Row _ _ _ _), ?_⟩ | refine ⟨_, (by assumption : Cell _ _ _ _ _), ?_⟩ | refine ⟨_, _, _, (by assumption : Cell _ _ _ _ _), ?_⟩ | refine ⟨_, Or.inl (by assumption), ?_⟩ | refine ⟨_, _, _, Or.inl (by assumption), ?_⟩ | refine And.intro (ints_one _) ?_ | refine And.intro (by omega) ?_ | refine d1 ?_ | refine d2 ?_ | refine d3 ?_ | refine d4 ?_ | refine go G162 400 hC (by kernel_rfl) ?_); (conv => whnf)))
  refine Con.mono (nodes06 hla hlb) ?_
  rintro _ h1 m1 hle1 ⟨rfl, rfl⟩
  replace ha := ha.mono hle1
  replace hb := hb.mono hle1
  replace p0 := hle1.c _ _ _ p0
  replace p1 := hle1.c _ _ _ p1
  have ht : ((1 + ins.length + ands.length : Nat) : Int).toNat = 1 + ins.length + ands.length := by omega
  ((try (conv => whnf)); repeat ((first | refine And.intro ?_ True.intro | refine And.intro ⟨by omega, by omega⟩ ?_ | refine ⟨_, (by assumption : RO.c _ _ _ = _), ?_⟩ | refine ⟨_, _, _, (by assumption : (_ : Option Obj) = _), ?_⟩ | refine ⟨_, _, _, (by assumption : RO.c _ _ _ = _), ?_⟩ | refine ⟨_, (by assumption : Row _ _ _ _), ?_⟩ | refine ⟨_, (by assumption : Cell _ _ _ _ _), ?_⟩ | refine ⟨_, _, _, (by assumption : Cell _ _ _ _ _), ?_⟩ | refine ⟨_, Or.inl (by assumption), ?_⟩ | refine ⟨_, _, _, Or.inl (by assumption), ?_⟩ | refine And.intro (ints_one _) ?_ | refine And.intro (by omega) ?_ | refine d1 ?_ | refine d2 ?_ | refine d3 ?_ | refine d4 ?_ | refine go G162 400 hC (by kernel_rfl) ?_); (conv => whnf)))
  refine ⟨⟨rfl, by omega, by show _ * 1 ≤ 140737488355328; omega⟩, ?_⟩
  ((try (conv => whnf)); repeat ((first | refine And.intro ?_ True.intro | refine And.intro ⟨by omega, by omega⟩ ?_ | refine ⟨_, (by assumption : RO.c _ _ _ = _), ?_⟩ | refine ⟨_, _, _, (by assumption : (_ : Option Obj) = _), ?_⟩ | refine ⟨_, _, _, (by assumption : RO.c _ _ _ = _), ?_⟩ | refine ⟨_, (by assumption : Row _ _ _ _), ?_⟩ | refine ⟨_, (by assumption : Cell _ _ _ _ _), ?_⟩ | refine ⟨_, _, _, (by assumption : Cell _ _ _ _ _), ?_⟩ | refine ⟨_, Or.inl (by assumption), ?_⟩ | refine ⟨_, _, _, Or.inl (by assumption), ?_⟩ | refine And.intro (ints_one _) ?_ | refine And.intro (by omega) ?_ | refine d1 ?_ | refine d2 ?_ | refine d3 ?_ | refine d4 ?_ | refine go G162 400 hC (by kernel_rfl) ?_); (conv => whnf)))
  intro r f1 f2 f3
  rw [ht]
  have hN := BoolM.new m1 r (1 + ins.length + ands.length)
  ((try (conv => whnf)); repeat ((first | refine And.intro ?_ True.intro | refine And.intro ⟨by omega, by omega⟩ ?_ | refine ⟨_, (by assumption : RO.c _ _ _ = _), ?_⟩ | refine ⟨_, _, _, (by assumption : (_ : Option Obj) = _), ?_⟩ | refine ⟨_, _, _, (by assumption : RO.c _ _ _ = _), ?_⟩ | refine ⟨_, (by assumption : Row _ _ _ _), ?_⟩ | refine ⟨_, (by assumption : Cell _ _ _ _ _), ?_⟩ | refine ⟨_, _, _, (by assumption : Cell _ _ _ _ _), ?_⟩ | refine ⟨_, Or.inl (by assumption), ?_⟩ | refine ⟨_, _, _, Or.inl (by assumption), ?_⟩ | refine And.intro (ints_one _) ?_ | refine And.intro (by omega) ?_ | refine d1 ?_ | refine d2 ?_ | refine d3 ?_ | refine d4 ?_ | refine go G162 400 hC (by kernel_rfl) ?_); (conv => whnf)))
  have hs0 : m1.sub (m1.set r (.cells (repZ (1 + ins.length + ands.length) [.bool false]).toArray 4 (0, 0))) := (Hp.sub.refl _).fresh f1 _
  refine halt (sx_loopB (X := Nat) [1, 2, 5] [2] (fun i => [(6, .v (.int .i64 i))]) (fun _ => []) (fun i h' m' => i ≤ ins.length ∧ h1.le h' ∧ m1.sub m' ∧ BoolM m' r (1 + ins.length + ands.length) (fun j => (valsG (ins.take i) [] on).getD j false)) (fun i => ins.length - i) 0 (by repeat (first | exact Keep.nil | apply Keep.cons rfl | apply Keep.skip rfl)) (by repeat (first | exact KeepB.nil | apply KeepB.cons rfl)) ⟨[(2, 2)], ⟨by simp [sinj], by repeat (first | exact trivial | refine ⟨rfl, ?_⟩ | refine ⟨⟨rfl, rfl⟩, ?_⟩ | refine ⟨⟨rfl, rfl, rfl⟩, ?_⟩ | refine ⟨stepI (by omega), ?_⟩ | refine ⟨by assumption, ?_⟩), by repeat (first | exact trivial | refine ⟨rfl, ?_⟩ | refine ⟨⟨rfl, rfl, rfl⟩, ?_⟩ | refine ⟨by assumption, ?_⟩)⟩⟩
    ⟨by omega, RO.le.refl _, hs0, by exact BoolM.congr hN fun j _ => by cases j <;> simp [valsG]⟩ ?_)
  rintro i h2 m2 - ⟨hi, hle2, hs2, hR⟩
  have hB2 := hB.stay hs2
  replace ha := ha.mono hle2
  have q0 := hle2.c _ _ _ p0
  have q1 := hle2.c _ _ _ p1
  ((try (conv => whnf)); repeat ((first | refine And.intro ?_ True.intro | refine And.intro ⟨by omega, by omega⟩ ?_ | refine ⟨_, (by assumption : RO.c _ _ _ = _), ?_⟩ | refine ⟨_, _, _, (by assumption : (_ : Option Obj) = _), ?_⟩ | refine ⟨_, _, _, (by assumption : RO.c _ _ _ = _), ?_⟩ | refine ⟨_, (by assumption : Row _ _ _ _), ?_⟩ | refine ⟨_, (by assumption : Cell _ _ _ _ _), ?_⟩ | refine ⟨_, _, _, (by assumption : Cell _ _ _ _ _), ?_⟩ | refine ⟨_, Or.inl (by assumption), ?_⟩ | refine ⟨_, _, _, Or.inl (by assumption), ?_⟩ | refine And.intro (ints_one _) ?_ | refine And.intro (by omega) ?_ | refine d1 ?_ | refine d2 ?_ | refine d3 ?_ | refine d4 ?_ | refine go G162 400 hC (by kernel_rfl) ?_); (conv => whnf)))
  refine ⟨fun hlt => ?_, fun hge => ?_⟩
  · have hlt : i < ins.length := by simpa using hlt
    obtain ⟨p, q, rfl, hc⟩ := ha.get hlt
    have c1 := hc i hlt
    have hx := hg.ris.lo _ (g_mem hlt)
    have cb := hB2.get (h := h2) (j := (g ins i).toNat) (by omega)
    have hw := w64i (i := i) (by omega)
    ((try (conv => whnf)); repeat ((first | refine And.intro ?_ True.intro | refine And.intro ⟨by omega, by omega⟩ ?_ | refine ⟨_, (by assumption : RO.c _ _ _ = _), ?_⟩ | refine ⟨_, _, _, (by assumption : (_ : Option Obj) = _), ?_⟩ | refine ⟨_, _, _, (by assumption : RO.c _ _ _ = _), ?_⟩ | refine ⟨_, (by assumption : Row _ _ _ _), ?_⟩ | refine ⟨_, (by assumption : Cell _ _ _ _ _), ?_⟩ | refine ⟨_, _, _, (by assumption : Cell _ _ _ _ _), ?_⟩ | refine ⟨_, Or.inl (by assumption), ?_⟩ | refine ⟨_, _, _, Or.inl (by assumption), ?_⟩ | refine And.intro (ints_one _) ?_ | refine And.intro (by omega) ?_ | refine d1 ?_ | refine d2 ?_ | refine d3 ?_ | refine d4 ?_ | refine go G162 400 hC (by kernel_rfl) ?_); (conv => whnf)))
    obtain ⟨cs, e1, e2, hR'⟩ := hR.set (j := (IntKind.i64.wrap ((i : Int) + 1)).toNat) (v := on (g ins i).toNat) (by rw [hw]; omega)
    refine ⟨cs, _, e1, e2, ?_⟩
    ((try (conv => whnf)); repeat ((first | refine And.intro ?_ True.intro | refine And.intro ⟨by omega, by omega⟩ ?_ | refine ⟨_, (by assumption : RO.c _ _ _ = _), ?_⟩ | refine ⟨_, _, _, (by assumption : (_ : Option Obj) = _), ?_⟩ | refine ⟨_, _, _, (by assumption : RO.c _ _ _ = _), ?_⟩ | refine ⟨_, (by assumption : Row _ _ _ _), ?_⟩ | refine ⟨_, (by assumption : Cell _ _ _ _ _), ?_⟩ | refine ⟨_, _, _, (by assumption : Cell _ _ _ _ _), ?_⟩ | refine ⟨_, Or.inl (by assumption), ?_⟩ | refine ⟨_, _, _, Or.inl (by assumption), ?_⟩ | refine And.intro (ints_one _) ?_ | refine And.intro (by omega) ?_ | refine d1 ?_ | refine d2 ?_ | refine d3 ?_ | refine d4 ?_ | refine go G162 400 hC (by kernel_rfl) ?_); (conv => whnf)))
    refine halt ⟨i + 1, [(2, 2)], ⟨by simp [sinj], by repeat (first | exact trivial | refine ⟨rfl, ?_⟩ | refine ⟨⟨rfl, rfl⟩, ?_⟩ | refine ⟨⟨rfl, rfl, rfl⟩, ?_⟩ | refine ⟨stepI (by omega), ?_⟩ | refine ⟨by assumption, ?_⟩), by repeat (first | exact trivial | refine ⟨rfl, ?_⟩ | refine ⟨⟨rfl, rfl, rfl⟩, ?_⟩ | refine ⟨by assumption, ?_⟩)⟩, RO.le.refl _, ⟨hlt, hle2, hs2.fresh f1 _, BoolM.congr hR' fun j hj => ?_⟩, by omega⟩
    have e3 : (IntKind.i64.wrap ((i : Int) + 1)).toNat = i + 1 := by rw [hw]; omega
    rw [e3, List.take_add_one, g_get hlt, valsG, valsG, List.foldl_nil, List.foldl_nil, Option.toList_some, List.map_append, ← List.cons_append, List.map_cons, List.map_nil, getD_snoc]
    simp [Nat.min_eq_left hi]
  · have hge : i = ins.length := by simp at hge; omega
    subst hge
    rw [List.take_length] at hR
    ((try (conv => whnf)); repeat ((first | refine And.intro ?_ True.intro | refine And.intro ⟨by omega, by omega⟩ ?_ | refine ⟨_, (by assumption : RO.c _ _ _ = _), ?_⟩ | refine ⟨_, _, _, (by assumption : (_ : Option Obj) = _), ?_⟩ | refine ⟨_, _, _, (by assumption : RO.c _ _ _ = _), ?_⟩ | refine ⟨_, (by assumption : Row _ _ _ _), ?_⟩ | refine ⟨_, (by assumption : Cell _ _ _ _ _), ?_⟩ | refine ⟨_, _, _, (by assumption : Cell _ _ _ _ _), ?_⟩ | refine ⟨_, Or.inl (by assumption), ?_⟩ | refine ⟨_, _, _, Or.inl (by assumption), ?_⟩ | refine And.intro (ints_one _) ?_ | refine And.intro (by omega) ?_ | refine d1 ?_ | refine d2 ?_ | refine d3 ?_ | refine d4 ?_ | refine go G162 400 hC (by kernel_rfl) ?_); (conv => whnf)))
    refine halt (sx_loopB (X := Nat) [2, 5] [2] (fun i => [(7, .v (.int .i64 i))]) (fun _ => []) (fun i h' m' => i ≤ ands.length ∧ h2.le h' ∧ m1.sub m' ∧ BoolM m' r (1 + ins.length + ands.length) (fun j => (valsG ins (ands.take i) on).getD j false)) (fun i => ands.length - i) 0 (by repeat (first | exact Keep.nil | apply Keep.cons rfl | apply Keep.skip rfl)) (by repeat (first | exact KeepB.nil | apply KeepB.cons rfl)) ⟨[(2, 2)], ⟨by simp [sinj], by repeat (first | exact trivial | refine ⟨rfl, ?_⟩ | refine ⟨⟨rfl, rfl⟩, ?_⟩ | refine ⟨⟨rfl, rfl, rfl⟩, ?_⟩ | refine ⟨stepI (by omega), ?_⟩ | refine ⟨by assumption, ?_⟩), by repeat (first | exact trivial | refine ⟨rfl, ?_⟩ | refine ⟨⟨rfl, rfl, rfl⟩, ?_⟩ | refine ⟨by assumption, ?_⟩)⟩⟩
      ⟨by omega, RO.le.refl _, hs2, hR⟩ ?_)
    rintro i h3 m3 - ⟨hi, hle3, hs3, hR⟩
    have q0 := hle3.c _ _ _ q0
    have q1 := hle3.c _ _ _ q1
    ((try (conv => whnf)); repeat ((first | refine And.intro ?_ True.intro | refine And.intro ⟨by omega, by omega⟩ ?_ | refine ⟨_, (by assumption : RO.c _ _ _ = _), ?_⟩ | refine ⟨_, _, _, (by assumption : (_ : Option Obj) = _), ?_⟩ | refine ⟨_, _, _, (by assumption : RO.c _ _ _ = _), ?_⟩ | refine ⟨_, (by assumption : Row _ _ _ _), ?_⟩ | refine ⟨_, (by assumption : Cell _ _ _ _ _), ?_⟩ | refine ⟨_, _, _, (by assumption : Cell _ _ _ _ _), ?_⟩ | refine ⟨_, Or.inl (by assumption), ?_⟩ | refine ⟨_, _, _, Or.inl (by assumption), ?_⟩ | refine And.intro (ints_one _) ?_ | refine And.intro (by omega) ?_ | refine d1 ?_ | refine d2 ?_ | refine d3 ?_ | refine d4 ?_ | refine go G162 400 hC (by kernel_rfl) ?_); (conv => whnf)))
    refine ⟨fun hlt => ?_, fun hge => ?_⟩
    · have hlt : i < ands.length := by simpa using hlt
      obtain ⟨p, q, rfl, hc⟩ := (hb.mono (hle2.trans hle3)).get hlt
      obtain ⟨c1, c2⟩ := hc i hlt
      obtain ⟨o1, o2, o3, o4⟩ := hg.ok i hlt
      have hw : IntKind.i64.wrap (IntKind.i64.wrap (1 + (ins.length : Int)) + (i : Int)) = ((1 + ins.length + i : Nat) : Int) := by
        rw [w64 (x := 1 + (ins.length : Int)) (by omega) (by omega), w64 (by omega) (by omega)]; omega
      have hsn : valsG ins (ands.take (i + 1)) on = valsG ins (ands.take i) on ++ [ofL (valsG ins (ands.take i) on) (gp ands i).1 && ofL (valsG ins (ands.take i) on) (gp ands i).2] := by
        rw [List.take_add_one, gp_get hlt]; exact valsG_snoc _ _ _ _
      have hlv : (valsG ins (ands.take i) on).length = 1 + ins.length + i := by rw [valsG_len]; simp; omega
      ((try (conv => whnf)); repeat ((first | refine And.intro ?_ True.intro | refine And.intro ⟨by omega, by omega⟩ ?_ | refine ⟨_, (by assumption : RO.c _ _ _ = _), ?_⟩ | refine ⟨_, _, _, (by assumption : (_ : Option Obj) = _), ?_⟩ | refine ⟨_, _, _, (by assumption : RO.c _ _ _ = _), ?_⟩ | refine ⟨_, (by assumption : Row _ _ _ _), ?_⟩ | refine ⟨_, (by assumption : Cell _ _ _ _ _), ?_⟩ | refine ⟨_, _, _, (by assumption : Cell _ _ _ _ _), ?_⟩ | refine ⟨_, Or.inl (by assumption), ?_⟩ | refine ⟨_, _, _, Or.inl (by assumption), ?_⟩ | refine And.intro (ints_one _) ?_ | refine And.intro (by omega) ?_ | refine d1 ?_ | refine d2 ?_ | refine d3 ?_ | refine d4 ?_ | refine go G162 400 hC (by kernel_rfl) ?_); (conv => whnf)))
      (refine Con.mono (of06 hR ⟨o1, by omega⟩ (by omega)) ?_; rintro _ _ _ - ⟨rfl, rfl, rfl⟩; ((try (conv => whnf)); repeat ((first | refine And.intro ?_ True.intro | refine And.intro ⟨by omega, by omega⟩ ?_ | refine ⟨_, (by assumption : RO.c _ _ _ = _), ?_⟩ | refine ⟨_, _, _, (by assumption : (_ : Option Obj) = _), ?_⟩ | refine ⟨_, _, _, (by assumption : RO.c _ _ _ = _), ?_⟩ | refine ⟨_, (by assumption : Row _ _ _ _), ?_⟩ | refine ⟨_, (by assumption : Cell _ _ _ _ _), ?_⟩ | refine ⟨_, _, _, (by assumption : Cell _ _ _ _ _), ?_⟩ | refine ⟨_, Or.inl (by assumption), ?_⟩ | refine ⟨_, _, _, Or.inl (by assumption), ?_⟩ | refine And.intro (ints_one _) ?_ | refine And.intro (by omega) ?_ | refine d1 ?_ | refine d2 ?_ | refine d3 ?_ | refine d4 ?_ | refine go G162 400 hC (by kernel_rfl) ?_); (conv => whnf))))
      have hj : (IntKind.i64.wrap (IntKind.i64.wrap (1 + (ins.length : Int)) + (i : Int))).toNat = 1 + ins.length + i := by rw [hw]; omega
      have hcg : ∀ v, v = (ofL (valsG ins (ands.take i) on) (gp ands i).1 && ofL (valsG ins (ands.take i) on) (gp ands i).2) → ∀ j, j < 1 + ins.length + ands.length →
          (if j = (IntKind.i64.wrap (IntKind.i64.wrap (1 + (ins.length : Int)) + (i : Int))).toNat then v else (valsG ins (ands.take i) on).getD j false) = (valsG ins (ands.take (i + 1)) on).getD j false := fun v hv j _ => by
        rw [hsn, getD_snoc, hlv, hj, hv]
      refine ⟨fun hq1 => ?_, fun hq1 => ?_⟩
      · ((try (conv => whnf)); repeat ((first | refine And.intro ?_ True.intro | refine And.intro ⟨by omega, by omega⟩ ?_ | refine ⟨_, (by assumption : RO.c _ _ _ = _), ?_⟩ | refine ⟨_, _, _, (by assumption : (_ : Option Obj) = _), ?_⟩ | refine ⟨_, _, _, (by assumption : RO.c _ _ _ = _), ?_⟩ | refine ⟨_, (by assumption : Row _ _ _ _), ?_⟩ | refine ⟨_, (by assumption : Cell _ _ _ _ _), ?_⟩ | refine ⟨_, _, _, (by assumption : Cell _ _ _ _ _), ?_⟩ | refine ⟨_, Or.inl (by assumption), ?_⟩ | refine ⟨_, _, _, Or.inl (by assumption), ?_⟩ | refine And.intro (ints_one _) ?_ | refine And.intro (by omega) ?_ | refine d1 ?_ | refine d2 ?_ | refine d3 ?_ | refine d4 ?_ | refine go G162 400 hC (by kernel_rfl) ?_); (conv => whnf)))
        (refine Con.mono (of06 hR ⟨o3, by omega⟩ (by omega)) ?_; rintro _ _ _ - ⟨rfl, rfl, rfl⟩; ((try (conv => whnf)); repeat ((first | refine And.intro ?_ True.intro | refine And.intro ⟨by omega, by omega⟩ ?_ | refine ⟨_, (by assumption : RO.c _ _ _ = _), ?_⟩ | refine ⟨_, _, _, (by assumption : (_ : Option Obj) = _), ?_⟩ | refine ⟨_, _, _, (by assumption : RO.c _ _ _ = _), ?_⟩ | refine ⟨_, (by assumption : Row _ _ _ _), ?_⟩ | refine ⟨_, (by assumption : Cell _ _ _ _ _), ?_⟩ | refine ⟨_, _, _, (by assumption : Cell _ _ _ _ _), ?_⟩ | refine ⟨_, Or.inl (by assumption), ?_⟩ | refine ⟨_, _, _, Or.inl (by assumption), ?_⟩ | refine And.intro (ints_one _) ?_ | refine And.intro (by omega) ?_ | refine d1 ?_ | refine d2 ?_ | refine d3 ?_ | refine d4 ?_ | refine go G162 400 hC (by kernel_rfl) ?_); (conv => whnf))))
        obtain ⟨cs, e1, e2, hR'⟩ := hR.set (j := (IntKind.i64.wrap (IntKind.i64.wrap (1 + (ins.length : Int)) + (i : Int))).toNat) (v := ofE (fun j => (valsG ins (ands.take i) on).getD j false) (gp ands i).2) (by rw [hw]; omega)
        refine ⟨cs, _, e1, e2, ?_⟩
        ((try (conv => whnf)); repeat ((first | refine And.intro ?_ True.intro | refine And.intro ⟨by omega, by omega⟩ ?_ | refine ⟨_, (by assumption : RO.c _ _ _ = _), ?_⟩ | refine ⟨_, _, _, (by assumption : (_ : Option Obj) = _), ?_⟩ | refine ⟨_, _, _, (by assumption : RO.c _ _ _ = _), ?_⟩ | refine ⟨_, (by assumption : Row _ _ _ _), ?_⟩ | refine ⟨_, (by assumption : Cell _ _ _ _ _), ?_⟩ | refine ⟨_, _, _, (by assumption : Cell _ _ _ _ _), ?_⟩ | refine ⟨_, Or.inl (by assumption), ?_⟩ | refine ⟨_, _, _, Or.inl (by assumption), ?_⟩ | refine And.intro (ints_one _) ?_ | refine And.intro (by omega) ?_ | refine d1 ?_ | refine d2 ?_ | refine d3 ?_ | refine d4 ?_ | refine go G162 400 hC (by kernel_rfl) ?_); (conv => whnf)))
        exact halt ⟨i + 1, [(2, 2)], ⟨by simp [sinj], by repeat (first | exact trivial | refine ⟨rfl, ?_⟩ | refine ⟨⟨rfl, rfl⟩, ?_⟩ | refine ⟨⟨rfl, rfl, rfl⟩, ?_⟩ | refine ⟨stepI (by omega), ?_⟩ | refine ⟨by assumption, ?_⟩), by repeat (first | exact trivial | refine ⟨rfl, ?_⟩ | refine ⟨⟨rfl, rfl, rfl⟩, ?_⟩ | refine ⟨by assumption, ?_⟩)⟩, RO.le.refl _, ⟨hlt, hle3, hs3.fresh f1 _, BoolM.congr hR' (hcg _ (by rw [show ofL (valsG ins (ands.take i) on) (gp ands i).1 = true from hq1]; rfl))⟩, by omega⟩
      · ((try (conv => whnf)); repeat ((first | refine And.intro ?_ True.intro | refine And.intro ⟨by omega, by omega⟩ ?_ | refine ⟨_, (by assumption : RO.c _ _ _ = _), ?_⟩ | refine ⟨_, _, _, (by assumption : (_ : Option Obj) = _), ?_⟩ | refine ⟨_, _, _, (by assumption : RO.c _ _ _ = _), ?_⟩ | refine ⟨_, (by assumption : Row _ _ _ _), ?_⟩ | refine ⟨_, (by assumption : Cell _ _ _ _ _), ?_⟩ | refine ⟨_, _, _, (by assumption : Cell _ _ _ _ _), ?_⟩ | refine ⟨_, Or.inl (by assumption), ?_⟩ | refine ⟨_, _, _, Or.inl (by assumption), ?_⟩ | refine And.intro (ints_one _) ?_ | refine And.intro (by omega) ?_ | refine d1 ?_ | refine d2 ?_ | refine d3 ?_ | refine d4 ?_ | refine go G162 400 hC (by kernel_rfl) ?_); (conv => whnf)))
        obtain ⟨cs, e1, e2, hR'⟩ := hR.set (j := (IntKind.i64.wrap (IntKind.i64.wrap (1 + (ins.length : Int)) + (i : Int))).toNat) (v := false) (by rw [hw]; omega)
        refine ⟨cs, _, e1, e2, ?_⟩
        ((try (conv => whnf)); repeat ((first | refine And.intro ?_ True.intro | refine And.intro ⟨by omega, by omega⟩ ?_ | refine ⟨_, (by assumption : RO.c _ _ _ = _), ?_⟩ | refine ⟨_, _, _, (by assumption : (_ : Option Obj) = _), ?_⟩ | refine ⟨_, _, _, (by assumption : RO.c _ _ _ = _), ?_⟩ | refine ⟨_, (by assumption : Row _ _ _ _), ?_⟩ | refine ⟨_, (by assumption : Cell _ _ _ _ _), ?_⟩ | refine ⟨_, _, _, (by assumption : Cell _ _ _ _ _), ?_⟩ | refine ⟨_, Or.inl (by assumption), ?_⟩ | refine ⟨_, _, _, Or.inl (by assumption), ?_⟩ | refine And.intro (ints_one _) ?_ | refine And.intro (by omega) ?_ | refine d1 ?_ | refine d2 ?_ | refine d3 ?_ | refine d4 ?_ | refine go G162 400 hC (by kernel_rfl) ?_); (conv => whnf)))
        exact halt ⟨i + 1, [(2, 2)], ⟨by simp [sinj], by repeat (first | exact trivial | refine ⟨rfl, ?_⟩ | refine ⟨⟨rfl, rfl⟩, ?_⟩ | refine ⟨⟨rfl, rfl, rfl⟩, ?_⟩ | refine ⟨stepI (by omega), ?_⟩ | refine ⟨by assumption, ?_⟩), by repeat (first | exact trivial | refine ⟨rfl, ?_⟩ | refine ⟨⟨rfl, rfl, rfl⟩, ?_⟩ | refine ⟨by assumption, ?_⟩)⟩, RO.le.refl _, ⟨hlt, hle3, hs3.fresh f1 _, BoolM.congr hR' (hcg _ (by rw [show ofL (valsG ins (ands.take i) on) (gp ands i).1 = false from hq1]; rfl))⟩, by omega⟩
    · have hge : i = ands.length := by simp at hge; omega
      subst hge
      rw [List.take_length] at hR
      ((try (conv => whnf)); repeat ((first | refine And.intro ?_ True.intro | refine And.intro ⟨by omega, by omega⟩ ?_ | refine ⟨_, (by assumption : RO.c _ _ _ = _), ?_⟩ | refine ⟨_, _, _, (by assumption : (_ : Option Obj) = _), ?_⟩ | refine ⟨_, _, _, (by assumption : RO.c _ _ _ = _), ?_⟩ | refine ⟨_, (by assumption : Row _ _ _ _), ?_⟩ | refine ⟨_, (by assumption : Cell _ _ _ _ _), ?_⟩ | refine ⟨_, _, _, (by assumption : Cell _ _ _ _ _), ?_⟩ | refine ⟨_, Or.inl (by assumption), ?_⟩ | refine ⟨_, _, _, Or.inl (by assumption), ?_⟩ | refine And.intro (ints_one _) ?_ | refine And.intro (by omega) ?_ | refine d1 ?_ | refine d2 ?_ | refine d3 ?_ | refine d4 ?_ | refine go G162 400 hC (by kernel_rfl) ?_); (conv => whnf)))
      exact ⟨r, _, rfl, hR, f1, hs3⟩
/-- The value of an edge under an assignment. -/
def evG (ins : List Int) (ands : List Pr) (e : Int) (a : List Int) : Bool := ofL (valsG ins ands fun j => decide (0 < j) && a.contains (j : Int)) e
def G91 : Gv := ⟨[], [3], [(3, .one 0 (.one 1 (.one 4 (.fork 2 (.fork 3 (.fork 5 (.one 6 (.one 7 (.nil))) .stop) .stop) .stop))))]⟩
theorem eval06 {u v w : Value} {ins a : List Int} {ands : List Pr} {e0 : Int} {h : RO} {m : Hp} (ha : IntS h u ins) (hb : PrS h v ands) (hg : GOK ins ands) (he : EdK ins.length ands.length e0) (hw : IntS h w a) (hn : normal a = true) :
    Con Tryz.prog 91 [.agg #[u, v], .int .i64 e0, w] h m fun e h' m' => e = .returned (.tuple #[.bool (evG ins ands e0 a), .int .i64 0]) ∧ m' = m := by
  obtain ⟨ua, ca, rfl, -⟩ := ha.s
  obtain ⟨ba, d, rfl⟩ := hb.sl
  obtain ⟨wa, wc, rfl, -⟩ := hw.s
  have hgs := hg.size
  refine Con.drop ?_
  refine fn_of (nt := 23) T Tryz.func91 rfl (by kernel_rfl) Tryz.ntmps91 (by simp) T_ok T_mixed fun C hC => ?_
  simp only [Tryz.f91, argFr, Nat.zero_add, Nat.reduceAdd] at hC ⊢
  ((try (conv => whnf)); repeat ((first | refine And.intro ?_ True.intro | refine And.intro ⟨by omega, by omega⟩ ?_ | refine ⟨_, (by assumption : RO.c _ _ _ = _), ?_⟩ | refine ⟨_, _, _, (by assumption : (_ : Option Obj) = _), ?_⟩ | refine ⟨_, _, _, (by assumption : RO.c _ _ _ = _), ?_⟩ | refine ⟨_, (by assumption : Row _ _ _ _), ?_⟩ | refine ⟨_, (by assumption : Cell _ _ _ _ _), ?_⟩ | refine ⟨_, _, _, (by assumption : Cell _ _ _ _ _), ?_⟩ | refine ⟨_, Or.inl (by assumption), ?_⟩ | refine ⟨_, _, _, Or.inl (by assumption), ?_⟩ | refine And.intro (ints_one _) ?_ | refine And.intro (by omega) ?_ | refine d1 ?_ | refine d2 ?_ | refine d3 ?_ | refine d4 ?_ | refine go G91 400 hC (by kernel_rfl) ?_); (conv => whnf)))
  intro b0 h0 hle0 hp0
  have p0 := hp0 0 _ rfl
  have p1 := hp0 1 _ rfl
  replace ha := ha.mono hle0
  replace hb := hb.mono hle0
  replace hw := hw.mono hle0
  ((try (conv => whnf)); repeat ((first | refine And.intro ?_ True.intro | refine And.intro ⟨by omega, by omega⟩ ?_ | refine ⟨_, (by assumption : RO.c _ _ _ = _), ?_⟩ | refine ⟨_, _, _, (by assumption : (_ : Option Obj) = _), ?_⟩ | refine ⟨_, _, _, (by assumption : RO.c _ _ _ = _), ?_⟩ | refine ⟨_, (by assumption : Row _ _ _ _), ?_⟩ | refine ⟨_, (by assumption : Cell _ _ _ _ _), ?_⟩ | refine ⟨_, _, _, (by assumption : Cell _ _ _ _ _), ?_⟩ | refine ⟨_, Or.inl (by assumption), ?_⟩ | refine ⟨_, _, _, Or.inl (by assumption), ?_⟩ | refine And.intro (ints_one _) ?_ | refine And.intro (by omega) ?_ | refine d1 ?_ | refine d2 ?_ | refine d3 ?_ | refine d4 ?_ | refine go G91 400 hC (by kernel_rfl) ?_); (conv => whnf)))
  refine Con.mono (has06g ha hb hg he) ?_
  rintro _ h1 m1 hle1 ⟨rfl, rfl⟩
  ((try (conv => whnf)); repeat ((first | refine And.intro ?_ True.intro | refine And.intro ⟨by omega, by omega⟩ ?_ | refine ⟨_, (by assumption : RO.c _ _ _ = _), ?_⟩ | refine ⟨_, _, _, (by assumption : (_ : Option Obj) = _), ?_⟩ | refine ⟨_, _, _, (by assumption : RO.c _ _ _ = _), ?_⟩ | refine ⟨_, (by assumption : Row _ _ _ _), ?_⟩ | refine ⟨_, (by assumption : Cell _ _ _ _ _), ?_⟩ | refine ⟨_, _, _, (by assumption : Cell _ _ _ _ _), ?_⟩ | refine ⟨_, Or.inl (by assumption), ?_⟩ | refine ⟨_, _, _, Or.inl (by assumption), ?_⟩ | refine And.intro (ints_one _) ?_ | refine And.intro (by omega) ?_ | refine d1 ?_ | refine d2 ?_ | refine d3 ?_ | refine d4 ?_ | refine go G91 400 hC (by kernel_rfl) ?_); (conv => whnf)))
  refine Con.mono (normal05 (hw.mono hle1) hn) ?_
  rintro _ h2 m2 - ⟨rfl, rfl, rfl⟩
  replace p0 := hle1.c _ _ _ p0
  replace p1 := hle1.c _ _ _ p1
  ((try (conv => whnf)); repeat ((first | refine And.intro ?_ True.intro | refine And.intro ⟨by omega, by omega⟩ ?_ | refine ⟨_, (by assumption : RO.c _ _ _ = _), ?_⟩ | refine ⟨_, _, _, (by assumption : (_ : Option Obj) = _), ?_⟩ | refine ⟨_, _, _, (by assumption : RO.c _ _ _ = _), ?_⟩ | refine ⟨_, (by assumption : Row _ _ _ _), ?_⟩ | refine ⟨_, (by assumption : Cell _ _ _ _ _), ?_⟩ | refine ⟨_, _, _, (by assumption : Cell _ _ _ _ _), ?_⟩ | refine ⟨_, Or.inl (by assumption), ?_⟩ | refine ⟨_, _, _, Or.inl (by assumption), ?_⟩ | refine And.intro (ints_one _) ?_ | refine And.intro (by omega) ?_ | refine d1 ?_ | refine d2 ?_ | refine d3 ?_ | refine d4 ?_ | refine go G91 400 hC (by kernel_rfl) ?_); (conv => whnf)))
  refine Con.mono (on06 (hw.mono hle1) fun x hx => ((normal_iff.1 hn).1 x hx).2.1) ?_
  rintro _ h3 m3 hle3 ⟨b, rfl, hB, f1, hs⟩
  have p03 := hle3.c _ _ _ p0
  have p13 := hle3.c _ _ _ p1
  ((try (conv => whnf)); repeat ((first | refine And.intro ?_ True.intro | refine And.intro ⟨by omega, by omega⟩ ?_ | refine ⟨_, (by assumption : RO.c _ _ _ = _), ?_⟩ | refine ⟨_, _, _, (by assumption : (_ : Option Obj) = _), ?_⟩ | refine ⟨_, _, _, (by assumption : RO.c _ _ _ = _), ?_⟩ | refine ⟨_, (by assumption : Row _ _ _ _), ?_⟩ | refine ⟨_, (by assumption : Cell _ _ _ _ _), ?_⟩ | refine ⟨_, _, _, (by assumption : Cell _ _ _ _ _), ?_⟩ | refine ⟨_, Or.inl (by assumption), ?_⟩ | refine ⟨_, _, _, Or.inl (by assumption), ?_⟩ | refine And.intro (ints_one _) ?_ | refine And.intro (by omega) ?_ | refine d1 ?_ | refine d2 ?_ | refine d3 ?_ | refine d4 ?_ | refine go G91 400 hC (by kernel_rfl) ?_); (conv => whnf)))
  refine Con.mono (all06 (ha.mono (hle1.trans hle3)) (hb.mono (hle1.trans hle3)) hg hB) ?_
  rintro _ h4 m4 hle4 ⟨r, c, rfl, hR, f2, hs2⟩
  ((try (conv => whnf)); repeat ((first | refine And.intro ?_ True.intro | refine And.intro ⟨by omega, by omega⟩ ?_ | refine ⟨_, (by assumption : RO.c _ _ _ = _), ?_⟩ | refine ⟨_, _, _, (by assumption : (_ : Option Obj) = _), ?_⟩ | refine ⟨_, _, _, (by assumption : RO.c _ _ _ = _), ?_⟩ | refine ⟨_, (by assumption : Row _ _ _ _), ?_⟩ | refine ⟨_, (by assumption : Cell _ _ _ _ _), ?_⟩ | refine ⟨_, _, _, (by assumption : Cell _ _ _ _ _), ?_⟩ | refine ⟨_, Or.inl (by assumption), ?_⟩ | refine ⟨_, _, _, Or.inl (by assumption), ?_⟩ | refine And.intro (ints_one _) ?_ | refine And.intro (by omega) ?_ | refine d1 ?_ | refine d2 ?_ | refine d3 ?_ | refine d4 ?_ | refine go G91 400 hC (by kernel_rfl) ?_); (conv => whnf)))
  (refine Con.mono (of06 hR he (by omega)) ?_; rintro _ _ _ - ⟨rfl, rfl, rfl⟩; ((try (conv => whnf)); repeat ((first | refine And.intro ?_ True.intro | refine And.intro ⟨by omega, by omega⟩ ?_ | refine ⟨_, (by assumption : RO.c _ _ _ = _), ?_⟩ | refine ⟨_, _, _, (by assumption : (_ : Option Obj) = _), ?_⟩ | refine ⟨_, _, _, (by assumption : RO.c _ _ _ = _), ?_⟩ | refine ⟨_, (by assumption : Row _ _ _ _), ?_⟩ | refine ⟨_, (by assumption : Cell _ _ _ _ _), ?_⟩ | refine ⟨_, _, _, (by assumption : Cell _ _ _ _ _), ?_⟩ | refine ⟨_, Or.inl (by assumption), ?_⟩ | refine ⟨_, _, _, Or.inl (by assumption), ?_⟩ | refine And.intro (ints_one _) ?_ | refine And.intro (by omega) ?_ | refine d1 ?_ | refine d2 ?_ | refine d3 ?_ | refine d4 ?_ | refine go G91 400 hC (by kernel_rfl) ?_); (conv => whnf))))
  exact ⟨_, hs.trans hs2, rfl, rfl⟩
end Go.Proofs.YtoefoaabnjeofaaGreat
namespace Go.Proofs.YtoefoaabnjeofaaGreat
open Go.SX
set_option maxHeartbeats 4000000
set_option maxRecDepth 20000
def G25 : Gv := ⟨[], [3], [(5, .one 0 (.one 1 (.one 2 (.one 3 (.one 4 (.one 5 (.one 6 (.one 7 (.one 8 (.fork 9 (.one 10 (.one 11 (.one 12 (.one 13 (.one 14 (.nil)))))) .stop))))))))))]⟩
theorem value_spec {s t o w : Value} {ins a : List Int} {ands outs : List Pr} {k : Nat} {v : Int} {h : RO} {m : Hp} (hi : IntS h s ins) (ht : PrS h t ands) (ho : PrS h o outs) (hg : GOK ins ands) (hw : IntS h w a) (hn : normal a = true)
    (hk : k < outs.length) (hv : (gp outs k).1 = v) (hf : ∀ j, j < k → (gp outs j).1 ≠ v) (he : EdK ins.length ands.length (gp outs k).2) :
    Con Tryz.prog 25 [.agg #[s, t, o], .int .i64 v, w] h m fun e h' m' => e = .returned (.tuple #[.bool (evG ins ands (gp outs k).2 a), .bool true]) ∧ m' = m := by
  obtain ⟨sa, sc, rfl, -⟩ := hi.s
  obtain ⟨ta, tc, rfl⟩ := ht.sl
  obtain ⟨oa, oc, rfl⟩ := ho.sl
  obtain ⟨wa, wc, rfl, -⟩ := hw.s
  have hlo := ho.len
  refine fn_of (nt := 42) T Tryz.func25 rfl (by kernel_rfl) Tryz.ntmps25 (by simp) T_ok T_mixed fun C hC => ?_
  simp only [Tryz.f25, argFr, Nat.zero_add, Nat.reduceAdd] at hC ⊢
  ((try (conv => whnf)); repeat ((first | refine And.intro ?_ True.intro | refine And.intro ⟨by omega, by omega⟩ ?_ | refine ⟨_, (by assumption : RO.c _ _ _ = _), ?_⟩ | refine ⟨_, _, _, (by assumption : (_ : Option Obj) = _), ?_⟩ | refine ⟨_, _, _, (by assumption : RO.c _ _ _ = _), ?_⟩ | refine ⟨_, (by assumption : Row _ _ _ _), ?_⟩ | refine ⟨_, (by assumption : Cell _ _ _ _ _), ?_⟩ | refine ⟨_, _, _, (by assumption : Cell _ _ _ _ _), ?_⟩ | refine ⟨_, Or.inl (by assumption), ?_⟩ | refine ⟨_, _, _, Or.inl (by assumption), ?_⟩ | refine And.intro (ints_one _) ?_ | refine And.intro (by omega) ?_ | refine d1 ?_ | refine d2 ?_ | refine d3 ?_ | refine d4 ?_ | refine go G25 400 hC (by kernel_rfl) ?_); (conv => whnf)))
  intro b0 h0 hle0 hp0
  have p0 := hp0 0 _ rfl
  have p1 := hp0 1 _ rfl
  have p2 := hp0 2 _ rfl
  replace hi := hi.mono hle0
  replace ht := ht.mono hle0
  replace ho := ho.mono hle0
  replace hw := hw.mono hle0
  obtain ⟨p, q, rfl, hc⟩ := ho.get hk
  ((try (conv => whnf)); repeat ((first | refine And.intro ?_ True.intro | refine And.intro ⟨by omega, by omega⟩ ?_ | refine ⟨_, (by assumption : RO.c _ _ _ = _), ?_⟩ | refine ⟨_, _, _, (by assumption : (_ : Option Obj) = _), ?_⟩ | refine ⟨_, _, _, (by assumption : RO.c _ _ _ = _), ?_⟩ | refine ⟨_, (by assumption : Row _ _ _ _), ?_⟩ | refine ⟨_, (by assumption : Cell _ _ _ _ _), ?_⟩ | refine ⟨_, _, _, (by assumption : Cell _ _ _ _ _), ?_⟩ | refine ⟨_, Or.inl (by assumption), ?_⟩ | refine ⟨_, _, _, Or.inl (by assumption), ?_⟩ | refine And.intro (ints_one _) ?_ | refine And.intro (by omega) ?_ | refine d1 ?_ | refine d2 ?_ | refine d3 ?_ | refine d4 ?_ | refine go G25 400 hC (by kernel_rfl) ?_); (conv => whnf)))
  refine halt (sx_loopB (X := Nat) [1, 2, 3] [3] (fun i => [(8, .v (.int .i64 i))]) (fun _ => []) (fun i h' m' => i ≤ k ∧ h' = h0 ∧ m' = m) (fun i => outs.length - i) 0 (by repeat (first | exact Keep.nil | apply Keep.cons rfl | apply Keep.skip rfl)) (by repeat (first | exact KeepB.nil | apply KeepB.cons rfl)) ⟨[(3, 3)], ⟨by simp [sinj], by repeat (first | exact trivial | refine ⟨rfl, ?_⟩ | refine ⟨⟨rfl, rfl⟩, ?_⟩ | refine ⟨⟨rfl, rfl, rfl⟩, ?_⟩ | refine ⟨stepI (by omega), ?_⟩ | refine ⟨by assumption, ?_⟩), by repeat (first | exact trivial | refine ⟨rfl, ?_⟩ | refine ⟨⟨rfl, rfl, rfl⟩, ?_⟩ | refine ⟨by assumption, ?_⟩)⟩⟩ ⟨by omega, rfl, rfl⟩ ?_)
  rintro i h1 m1 - ⟨hik, rfl, rfl⟩
  have hlt : i < outs.length := by omega
  obtain ⟨c1, c2⟩ := hc i hlt
  ((try (conv => whnf)); repeat ((first | refine And.intro ?_ True.intro | refine And.intro ⟨by omega, by omega⟩ ?_ | refine ⟨_, (by assumption : RO.c _ _ _ = _), ?_⟩ | refine ⟨_, _, _, (by assumption : (_ : Option Obj) = _), ?_⟩ | refine ⟨_, _, _, (by assumption : RO.c _ _ _ = _), ?_⟩ | refine ⟨_, (by assumption : Row _ _ _ _), ?_⟩ | refine ⟨_, (by assumption : Cell _ _ _ _ _), ?_⟩ | refine ⟨_, _, _, (by assumption : Cell _ _ _ _ _), ?_⟩ | refine ⟨_, Or.inl (by assumption), ?_⟩ | refine ⟨_, _, _, Or.inl (by assumption), ?_⟩ | refine And.intro (ints_one _) ?_ | refine And.intro (by omega) ?_ | refine d1 ?_ | refine d2 ?_ | refine d3 ?_ | refine d4 ?_ | refine go G25 400 hC (by kernel_rfl) ?_); (conv => whnf)))
  refine ⟨fun _ => ?_, fun hge => absurd hge (by simp; omega)⟩
  ((try (conv => whnf)); repeat ((first | refine And.intro ?_ True.intro | refine And.intro ⟨by omega, by omega⟩ ?_ | refine ⟨_, (by assumption : RO.c _ _ _ = _), ?_⟩ | refine ⟨_, _, _, (by assumption : (_ : Option Obj) = _), ?_⟩ | refine ⟨_, _, _, (by assumption : RO.c _ _ _ = _), ?_⟩ | refine ⟨_, (by assumption : Row _ _ _ _), ?_⟩ | refine ⟨_, (by assumption : Cell _ _ _ _ _), ?_⟩ | refine ⟨_, _, _, (by assumption : Cell _ _ _ _ _), ?_⟩ | refine ⟨_, Or.inl (by assumption), ?_⟩ | refine ⟨_, _, _, Or.inl (by assumption), ?_⟩ | refine And.intro (ints_one _) ?_ | refine And.intro (by omega) ?_ | refine d1 ?_ | refine d2 ?_ | refine d3 ?_ | refine d4 ?_ | refine go G25 400 hC (by kernel_rfl) ?_); (conv => whnf)))
  refine ⟨fun hq => ?_, fun hq => ?_⟩
  · have hq : (gp outs i).1 = v := by simpa using hq
    have e : i = k := by
      by_cases h : i = k
      · exact h
      · exact absurd hq (hf i (by omega))
    subst e
    ((try (conv => whnf)); repeat ((first | refine And.intro ?_ True.intro | refine And.intro ⟨by omega, by omega⟩ ?_ | refine ⟨_, (by assumption : RO.c _ _ _ = _), ?_⟩ | refine ⟨_, _, _, (by assumption : (_ : Option Obj) = _), ?_⟩ | refine ⟨_, _, _, (by assumption : RO.c _ _ _ = _), ?_⟩ | refine ⟨_, (by assumption : Row _ _ _ _), ?_⟩ | refine ⟨_, (by assumption : Cell _ _ _ _ _), ?_⟩ | refine ⟨_, _, _, (by assumption : Cell _ _ _ _ _), ?_⟩ | refine ⟨_, Or.inl (by assumption), ?_⟩ | refine ⟨_, _, _, Or.inl (by assumption), ?_⟩ | refine And.intro (ints_one _) ?_ | refine And.intro (by omega) ?_ | refine d1 ?_ | refine d2 ?_ | refine d3 ?_ | refine d4 ?_ | refine go G25 400 hC (by kernel_rfl) ?_); (conv => whnf)))
    refine Con.mono (eval06 hi ht hg he hw hn) ?_
    rintro _ h2 m2 - ⟨rfl, rfl⟩
    ((try (conv => whnf)); repeat ((first | refine And.intro ?_ True.intro | refine And.intro ⟨by omega, by omega⟩ ?_ | refine ⟨_, (by assumption : RO.c _ _ _ = _), ?_⟩ | refine ⟨_, _, _, (by assumption : (_ : Option Obj) = _), ?_⟩ | refine ⟨_, _, _, (by assumption : RO.c _ _ _ = _), ?_⟩ | refine ⟨_, (by assumption : Row _ _ _ _), ?_⟩ | refine ⟨_, (by assumption : Cell _ _ _ _ _), ?_⟩ | refine ⟨_, _, _, (by assumption : Cell _ _ _ _ _), ?_⟩ | refine ⟨_, Or.inl (by assumption), ?_⟩ | refine ⟨_, _, _, Or.inl (by assumption), ?_⟩ | refine And.intro (ints_one _) ?_ | refine And.intro (by omega) ?_ | refine d1 ?_ | refine d2 ?_ | refine d3 ?_ | refine d4 ?_ | refine go G25 400 hC (by kernel_rfl) ?_); (conv => whnf)))
    exact ⟨rfl, rfl⟩
  · have hq : (gp outs i).1 ≠ v := by simpa using hq
    have : i ≠ k := fun e => hq (e ▸ hv)
    ((try (conv => whnf)); repeat ((first | refine And.intro ?_ True.intro | refine And.intro ⟨by omega, by omega⟩ ?_ | refine ⟨_, (by assumption : RO.c _ _ _ = _), ?_⟩ | refine ⟨_, _, _, (by assumption : (_ : Option Obj) = _), ?_⟩ | refine ⟨_, _, _, (by assumption : RO.c _ _ _ = _), ?_⟩ | refine ⟨_, (by assumption : Row _ _ _ _), ?_⟩ | refine ⟨_, (by assumption : Cell _ _ _ _ _), ?_⟩ | refine ⟨_, _, _, (by assumption : Cell _ _ _ _ _), ?_⟩ | refine ⟨_, Or.inl (by assumption), ?_⟩ | refine ⟨_, _, _, Or.inl (by assumption), ?_⟩ | refine And.intro (ints_one _) ?_ | refine And.intro (by omega) ?_ | refine d1 ?_ | refine d2 ?_ | refine d3 ?_ | refine d4 ?_ | refine go G25 400 hC (by kernel_rfl) ?_); (conv => whnf)))
    exact halt ⟨i + 1, [(3, 3)], ⟨by simp [sinj], by repeat (first | exact trivial | refine ⟨rfl, ?_⟩ | refine ⟨⟨rfl, rfl⟩, ?_⟩ | refine ⟨⟨rfl, rfl, rfl⟩, ?_⟩ | refine ⟨stepI (by omega), ?_⟩ | refine ⟨by assumption, ?_⟩), by repeat (first | exact trivial | refine ⟨rfl, ?_⟩ | refine ⟨⟨rfl, rfl, rfl⟩, ?_⟩ | refine ⟨by assumption, ?_⟩)⟩, RO.le.refl _, ⟨by omega, rfl, rfl⟩, by omega⟩
def G31 : Gv := ⟨[], [], [(6, .one 0 (.one 1 (.one 2 (.one 3 (.one 4 (.one 5 (.one 6 (.one 7 (.fork 8 (.one 9 (.nil)) .stop)))))))))]⟩
theorem sameAll_spec {u v : Value} {l : List (List Int)} {h : RO} {m : Hp} (ha : LLS h u l) (hb : LLS h v l) :
    Con Tryz.prog 31 [u, v] h m fun e h' m' => e = .returned (.bool true) ∧ m' = m := by
  obtain ⟨a, c, rfl⟩ := ha.sl
  obtain ⟨b, d, rfl⟩ := hb.sl
  have hla := ha.len
  refine fn_of (nt := 27) T Tryz.func31 rfl (by kernel_rfl) Tryz.ntmps31 (by simp) T_ok T_mixed fun C hC => ?_
  simp only [Tryz.f31, argFr, Nat.zero_add, Nat.reduceAdd] at hC ⊢
  ((try (conv => whnf)); repeat ((first | refine And.intro ?_ True.intro | refine And.intro ⟨by omega, by omega⟩ ?_ | refine ⟨_, (by assumption : RO.c _ _ _ = _), ?_⟩ | refine ⟨_, _, _, (by assumption : (_ : Option Obj) = _), ?_⟩ | refine ⟨_, _, _, (by assumption : RO.c _ _ _ = _), ?_⟩ | refine ⟨_, (by assumption : Row _ _ _ _), ?_⟩ | refine ⟨_, (by assumption : Cell _ _ _ _ _), ?_⟩ | refine ⟨_, _, _, (by assumption : Cell _ _ _ _ _), ?_⟩ | refine ⟨_, Or.inl (by assumption), ?_⟩ | refine ⟨_, _, _, Or.inl (by assumption), ?_⟩ | refine And.intro (ints_one _) ?_ | refine And.intro (by omega) ?_ | refine d1 ?_ | refine d2 ?_ | refine d3 ?_ | refine d4 ?_ | refine go G31 400 hC (by kernel_rfl) ?_); (conv => whnf)))
  refine ⟨fun hq => absurd hq (by simp), fun _ => ?_⟩
  ((try (conv => whnf)); repeat ((first | refine And.intro ?_ True.intro | refine And.intro ⟨by omega, by omega⟩ ?_ | refine ⟨_, (by assumption : RO.c _ _ _ = _), ?_⟩ | refine ⟨_, _, _, (by assumption : (_ : Option Obj) = _), ?_⟩ | refine ⟨_, _, _, (by assumption : RO.c _ _ _ = _), ?_⟩ | refine ⟨_, (by assumption : Row _ _ _ _), ?_⟩ | refine ⟨_, (by assumption : Cell _ _ _ _ _), ?_⟩ | refine ⟨_, _, _, (by assumption : Cell _ _ _ _ _), ?_⟩ | refine ⟨_, Or.inl (by assumption), ?_⟩ | refine ⟨_, _, _, Or.inl (by assumption), ?_⟩ | refine And.intro (ints_one _) ?_ | refine And.intro (by omega) ?_ | refine d1 ?_ | refine d2 ?_ | refine d3 ?_ | refine d4 ?_ | refine go G31 400 hC (by kernel_rfl) ?_); (conv => whnf)))
  refine halt (sx_loopB (X := Nat) [0, 1] [] (fun i => [(5, .v (.int .i64 i))]) (fun _ => []) (fun i h' m' => i ≤ l.length ∧ h' = h ∧ m' = m) (fun i => l.length - i) 0 (by repeat (first | exact Keep.nil | apply Keep.cons rfl | apply Keep.skip rfl)) (by repeat (first | exact KeepB.nil | apply KeepB.cons rfl)) ⟨[], ⟨by simp [sinj], by repeat (first | exact trivial | refine ⟨rfl, ?_⟩ | refine ⟨⟨rfl, rfl⟩, ?_⟩ | refine ⟨⟨rfl, rfl, rfl⟩, ?_⟩ | refine ⟨stepI (by omega), ?_⟩ | refine ⟨by assumption, ?_⟩), by repeat (first | exact trivial | refine ⟨rfl, ?_⟩ | refine ⟨⟨rfl, rfl, rfl⟩, ?_⟩ | refine ⟨by assumption, ?_⟩)⟩⟩ ⟨by omega, rfl, rfl⟩ ?_)
  rintro i h1 m1 - ⟨hi, rfl, rfl⟩
  ((try (conv => whnf)); repeat ((first | refine And.intro ?_ True.intro | refine And.intro ⟨by omega, by omega⟩ ?_ | refine ⟨_, (by assumption : RO.c _ _ _ = _), ?_⟩ | refine ⟨_, _, _, (by assumption : (_ : Option Obj) = _), ?_⟩ | refine ⟨_, _, _, (by assumption : RO.c _ _ _ = _), ?_⟩ | refine ⟨_, (by assumption : Row _ _ _ _), ?_⟩ | refine ⟨_, (by assumption : Cell _ _ _ _ _), ?_⟩ | refine ⟨_, _, _, (by assumption : Cell _ _ _ _ _), ?_⟩ | refine ⟨_, Or.inl (by assumption), ?_⟩ | refine ⟨_, _, _, Or.inl (by assumption), ?_⟩ | refine And.intro (ints_one _) ?_ | refine And.intro (by omega) ?_ | refine d1 ?_ | refine d2 ?_ | refine d3 ?_ | refine d4 ?_ | refine go G31 400 hC (by kernel_rfl) ?_); (conv => whnf)))
  refine ⟨fun hlt => ?_, fun hge => ?_⟩
  · have hlt : i < l.length := by simpa using hlt
    obtain ⟨p, q, rfl, hc⟩ := ha.get hlt
    obtain ⟨p2, q2, rfl, hc2⟩ := hb.get hlt
    obtain ⟨a1, k1, c1, hi1⟩ := hc i hlt
    obtain ⟨a2, k2, c2, hi2⟩ := hc2 i hlt
    have hs := same09 hi1 hi2 (m := m1)
    rw [beq_self_eq_true] at hs
    ((try (conv => whnf)); repeat ((first | refine And.intro ?_ True.intro | refine And.intro ⟨by omega, by omega⟩ ?_ | refine ⟨_, (by assumption : RO.c _ _ _ = _), ?_⟩ | refine ⟨_, _, _, (by assumption : (_ : Option Obj) = _), ?_⟩ | refine ⟨_, _, _, (by assumption : RO.c _ _ _ = _), ?_⟩ | refine ⟨_, (by assumption : Row _ _ _ _), ?_⟩ | refine ⟨_, (by assumption : Cell _ _ _ _ _), ?_⟩ | refine ⟨_, _, _, (by assumption : Cell _ _ _ _ _), ?_⟩ | refine ⟨_, Or.inl (by assumption), ?_⟩ | refine ⟨_, _, _, Or.inl (by assumption), ?_⟩ | refine And.intro (ints_one _) ?_ | refine And.intro (by omega) ?_ | refine d1 ?_ | refine d2 ?_ | refine d3 ?_ | refine d4 ?_ | refine go G31 400 hC (by kernel_rfl) ?_); (conv => whnf)))
    refine Con.mono hs ?_
    rintro _ _ _ - ⟨rfl, rfl, rfl⟩
    ((try (conv => whnf)); repeat ((first | refine And.intro ?_ True.intro | refine And.intro ⟨by omega, by omega⟩ ?_ | refine ⟨_, (by assumption : RO.c _ _ _ = _), ?_⟩ | refine ⟨_, _, _, (by assumption : (_ : Option Obj) = _), ?_⟩ | refine ⟨_, _, _, (by assumption : RO.c _ _ _ = _), ?_⟩ | refine ⟨_, (by assumption : Row _ _ _ _), ?_⟩ | refine ⟨_, (by assumption : Cell _ _ _ _ _), ?_⟩ | refine ⟨_, _, _, (by assumption : Cell _ _ _ _ _), ?_⟩ | refine ⟨_, Or.inl (by assumption), ?_⟩ | refine ⟨_, _, _, Or.inl (by assumption), ?_⟩ | refine And.intro (ints_one _) ?_ | refine And.intro (by omega) ?_ | refine d1 ?_ | refine d2 ?_ | refine d3 ?_ | refine d4 ?_ | refine go G31 400 hC (by kernel_rfl) ?_); (conv => whnf)))
    exact halt ⟨i + 1, [], ⟨by simp [sinj], by repeat (first | exact trivial | refine ⟨rfl, ?_⟩ | refine ⟨⟨rfl, rfl⟩, ?_⟩ | refine ⟨⟨rfl, rfl, rfl⟩, ?_⟩ | refine ⟨stepI (by omega), ?_⟩ | refine ⟨by assumption, ?_⟩), by repeat (first | exact trivial | refine ⟨rfl, ?_⟩ | refine ⟨⟨rfl, rfl, rfl⟩, ?_⟩ | refine ⟨by assumption, ?_⟩)⟩, RO.le.refl _, ⟨hlt, rfl, rfl⟩, by omega⟩
  · ((try (conv => whnf)); repeat ((first | refine And.intro ?_ True.intro | refine And.intro ⟨by omega, by omega⟩ ?_ | refine ⟨_, (by assumption : RO.c _ _ _ = _), ?_⟩ | refine ⟨_, _, _, (by assumption : (_ : Option Obj) = _), ?_⟩ | refine ⟨_, _, _, (by assumption : RO.c _ _ _ = _), ?_⟩ | refine ⟨_, (by assumption : Row _ _ _ _), ?_⟩ | refine ⟨_, (by assumption : Cell _ _ _ _ _), ?_⟩ | refine ⟨_, _, _, (by assumption : Cell _ _ _ _ _), ?_⟩ | refine ⟨_, Or.inl (by assumption), ?_⟩ | refine ⟨_, _, _, Or.inl (by assumption), ?_⟩ | refine And.intro (ints_one _) ?_ | refine And.intro (by omega) ?_ | refine d1 ?_ | refine d2 ?_ | refine d3 ?_ | refine d4 ?_ | refine go G31 400 hC (by kernel_rfl) ?_); (conv => whnf)))
    exact ⟨rfl, rfl⟩
def G30 : Gv := ⟨[], [], [(6, .one 0 (.one 1 (.one 2 (.one 3 (.one 4 (.one 5 (.one 6 (.one 7 (.one 8 (.one 9 (.one 10 (.one 11 (.one 12 (.one 13 (.one 14 (.one 15 (.one 16 (.one 17 (.one 18 (.one 19 (.one 20 (.one 21 (.fork 22 (.one 23 (.one 24 (.nil))) .stop)))))))))))))))))))))))]⟩
theorem sameCopies_spec {u v : Value} {l : List Cp} {h : RO} {m : Hp} (ha : DepS h u l) (hb : DepS h v l) :
    Con Tryz.prog 30 [u, v] h m fun e h' m' => e = .returned (.bool true) ∧ m' = m := by
  obtain ⟨a, c, rfl⟩ := ha.sl
  obtain ⟨b, d, rfl⟩ := hb.sl
  have hla := ha.len
  refine fn_of (nt := 42) T Tryz.func30 rfl (by kernel_rfl) Tryz.ntmps30 (by simp) T_ok T_mixed fun C hC => ?_
  simp only [Tryz.f30, argFr, Nat.zero_add, Nat.reduceAdd] at hC ⊢
  ((try (conv => whnf)); repeat ((first | refine And.intro ?_ True.intro | refine And.intro ⟨by omega, by omega⟩ ?_ | refine ⟨_, (by assumption : RO.c _ _ _ = _), ?_⟩ | refine ⟨_, _, _, (by assumption : (_ : Option Obj) = _), ?_⟩ | refine ⟨_, _, _, (by assumption : RO.c _ _ _ = _), ?_⟩ | refine ⟨_, (by assumption : Row _ _ _ _), ?_⟩ | refine ⟨_, (by assumption : Cell _ _ _ _ _), ?_⟩ | refine ⟨_, _, _, (by assumption : Cell _ _ _ _ _), ?_⟩ | refine ⟨_, Or.inl (by assumption), ?_⟩ | refine ⟨_, _, _, Or.inl (by assumption), ?_⟩ | refine And.intro (ints_one _) ?_ | refine And.intro (by omega) ?_ | refine d1 ?_ | refine d2 ?_ | refine d3 ?_ | refine d4 ?_ | refine go G30 400 hC (by kernel_rfl) ?_); (conv => whnf)))
  refine ⟨fun hq => absurd hq (by simp), fun _ => ?_⟩
  ((try (conv => whnf)); repeat ((first | refine And.intro ?_ True.intro | refine And.intro ⟨by omega, by omega⟩ ?_ | refine ⟨_, (by assumption : RO.c _ _ _ = _), ?_⟩ | refine ⟨_, _, _, (by assumption : (_ : Option Obj) = _), ?_⟩ | refine ⟨_, _, _, (by assumption : RO.c _ _ _ = _), ?_⟩ | refine ⟨_, (by assumption : Row _ _ _ _), ?_⟩ | refine ⟨_, (by assumption : Cell _ _ _ _ _), ?_⟩ | refine ⟨_, _, _, (by assumption : Cell _ _ _ _ _), ?_⟩ | refine ⟨_, Or.inl (by assumption), ?_⟩ | refine ⟨_, _, _, Or.inl (by assumption), ?_⟩ | refine And.intro (ints_one _) ?_ | refine And.intro (by omega) ?_ | refine d1 ?_ | refine d2 ?_ | refine d3 ?_ | refine d4 ?_ | refine go G30 400 hC (by kernel_rfl) ?_); (conv => whnf)))
  refine halt (sx_loopB (X := Nat) [0, 1] [] (fun i => [(5, .v (.int .i64 i))]) (fun _ => []) (fun i h' m' => i ≤ l.length ∧ h' = h ∧ m' = m) (fun i => l.length - i) 0 (by repeat (first | exact Keep.nil | apply Keep.cons rfl | apply Keep.skip rfl)) (by repeat (first | exact KeepB.nil | apply KeepB.cons rfl)) ⟨[], ⟨by simp [sinj], by repeat (first | exact trivial | refine ⟨rfl, ?_⟩ | refine ⟨⟨rfl, rfl⟩, ?_⟩ | refine ⟨⟨rfl, rfl, rfl⟩, ?_⟩ | refine ⟨stepI (by omega), ?_⟩ | refine ⟨by assumption, ?_⟩), by repeat (first | exact trivial | refine ⟨rfl, ?_⟩ | refine ⟨⟨rfl, rfl, rfl⟩, ?_⟩ | refine ⟨by assumption, ?_⟩)⟩⟩ ⟨by omega, rfl, rfl⟩ ?_)
  rintro i h1 m1 - ⟨hi, rfl, rfl⟩
  ((try (conv => whnf)); repeat ((first | refine And.intro ?_ True.intro | refine And.intro ⟨by omega, by omega⟩ ?_ | refine ⟨_, (by assumption : RO.c _ _ _ = _), ?_⟩ | refine ⟨_, _, _, (by assumption : (_ : Option Obj) = _), ?_⟩ | refine ⟨_, _, _, (by assumption : RO.c _ _ _ = _), ?_⟩ | refine ⟨_, (by assumption : Row _ _ _ _), ?_⟩ | refine ⟨_, (by assumption : Cell _ _ _ _ _), ?_⟩ | refine ⟨_, _, _, (by assumption : Cell _ _ _ _ _), ?_⟩ | refine ⟨_, Or.inl (by assumption), ?_⟩ | refine ⟨_, _, _, Or.inl (by assumption), ?_⟩ | refine And.intro (ints_one _) ?_ | refine And.intro (by omega) ?_ | refine d1 ?_ | refine d2 ?_ | refine d3 ?_ | refine d4 ?_ | refine go G30 400 hC (by kernel_rfl) ?_); (conv => whnf)))
  refine ⟨fun hlt => ?_, fun hge => ?_⟩
  · have hlt : i < l.length := by simpa using hlt
    obtain ⟨p, q, rfl, hc⟩ := ha.get hlt
    obtain ⟨p2, q2, rfl, hc2⟩ := hb.get hlt
    obtain ⟨c0, a1, k1, c1, hi1⟩ := hc i hlt
    obtain ⟨d0, a2, k2, c2, hi2⟩ := hc2 i hlt
    have hs := same09 hi1 hi2 (m := m1)
    rw [beq_self_eq_true] at hs
    ((try (conv => whnf)); repeat ((first | refine And.intro ?_ True.intro | refine And.intro ⟨by omega, by omega⟩ ?_ | refine ⟨_, (by assumption : RO.c _ _ _ = _), ?_⟩ | refine ⟨_, _, _, (by assumption : (_ : Option Obj) = _), ?_⟩ | refine ⟨_, _, _, (by assumption : RO.c _ _ _ = _), ?_⟩ | refine ⟨_, (by assumption : Row _ _ _ _), ?_⟩ | refine ⟨_, (by assumption : Cell _ _ _ _ _), ?_⟩ | refine ⟨_, _, _, (by assumption : Cell _ _ _ _ _), ?_⟩ | refine ⟨_, Or.inl (by assumption), ?_⟩ | refine ⟨_, _, _, Or.inl (by assumption), ?_⟩ | refine And.intro (ints_one _) ?_ | refine And.intro (by omega) ?_ | refine d1 ?_ | refine d2 ?_ | refine d3 ?_ | refine d4 ?_ | refine go G30 400 hC (by kernel_rfl) ?_); (conv => whnf)))
    refine ⟨fun _ => ?_, fun hq => absurd hq (by simp)⟩
    ((try (conv => whnf)); repeat ((first | refine And.intro ?_ True.intro | refine And.intro ⟨by omega, by omega⟩ ?_ | refine ⟨_, (by assumption : RO.c _ _ _ = _), ?_⟩ | refine ⟨_, _, _, (by assumption : (_ : Option Obj) = _), ?_⟩ | refine ⟨_, _, _, (by assumption : RO.c _ _ _ = _), ?_⟩ | refine ⟨_, (by assumption : Row _ _ _ _), ?_⟩ | refine ⟨_, (by assumption : Cell _ _ _ _ _), ?_⟩ | refine ⟨_, _, _, (by assumption : Cell _ _ _ _ _), ?_⟩ | refine ⟨_, Or.inl (by assumption), ?_⟩ | refine ⟨_, _, _, Or.inl (by assumption), ?_⟩ | refine And.intro (ints_one _) ?_ | refine And.intro (by omega) ?_ | refine d1 ?_ | refine d2 ?_ | refine d3 ?_ | refine d4 ?_ | refine go G30 400 hC (by kernel_rfl) ?_); (conv => whnf)))
    refine Con.mono hs ?_
    rintro _ _ _ - ⟨rfl, rfl, rfl⟩
    ((try (conv => whnf)); repeat ((first | refine And.intro ?_ True.intro | refine And.intro ⟨by omega, by omega⟩ ?_ | refine ⟨_, (by assumption : RO.c _ _ _ = _), ?_⟩ | refine ⟨_, _, _, (by assumption : (_ : Option Obj) = _), ?_⟩ | refine ⟨_, _, _, (by assumption : RO.c _ _ _ = _), ?_⟩ | refine ⟨_, (by assumption : Row _ _ _ _), ?_⟩ | refine ⟨_, (by assumption : Cell _ _ _ _ _), ?_⟩ | refine ⟨_, _, _, (by assumption : Cell _ _ _ _ _), ?_⟩ | refine ⟨_, Or.inl (by assumption), ?_⟩ | refine ⟨_, _, _, Or.inl (by assumption), ?_⟩ | refine And.intro (ints_one _) ?_ | refine And.intro (by omega) ?_ | refine d1 ?_ | refine d2 ?_ | refine d3 ?_ | refine d4 ?_ | refine go G30 400 hC (by kernel_rfl) ?_); (conv => whnf)))
    exact halt ⟨i + 1, [], ⟨by simp [sinj], by repeat (first | exact trivial | refine ⟨rfl, ?_⟩ | refine ⟨⟨rfl, rfl⟩, ?_⟩ | refine ⟨⟨rfl, rfl, rfl⟩, ?_⟩ | refine ⟨stepI (by omega), ?_⟩ | refine ⟨by assumption, ?_⟩), by repeat (first | exact trivial | refine ⟨rfl, ?_⟩ | refine ⟨⟨rfl, rfl, rfl⟩, ?_⟩ | refine ⟨by assumption, ?_⟩)⟩, RO.le.refl _, ⟨hlt, rfl, rfl⟩, by omega⟩
  · ((try (conv => whnf)); repeat ((first | refine And.intro ?_ True.intro | refine And.intro ⟨by omega, by omega⟩ ?_ | refine ⟨_, (by assumption : RO.c _ _ _ = _), ?_⟩ | refine ⟨_, _, _, (by assumption : (_ : Option Obj) = _), ?_⟩ | refine ⟨_, _, _, (by assumption : RO.c _ _ _ = _), ?_⟩ | refine ⟨_, (by assumption : Row _ _ _ _), ?_⟩ | refine ⟨_, (by assumption : Cell _ _ _ _ _), ?_⟩ | refine ⟨_, _, _, (by assumption : Cell _ _ _ _ _), ?_⟩ | refine ⟨_, Or.inl (by assumption), ?_⟩ | refine ⟨_, _, _, Or.inl (by assumption), ?_⟩ | refine And.intro (ints_one _) ?_ | refine And.intro (by omega) ?_ | refine d1 ?_ | refine d2 ?_ | refine d3 ?_ | refine d4 ?_ | refine go G30 400 hC (by kernel_rfl) ?_); (conv => whnf)))
    exact ⟨rfl, rfl⟩
end Go.Proofs.YtoefoaabnjeofaaGreat
namespace Go.Proofs.YtoefoaabnjeofaaGreat
open Go.SX
set_option maxHeartbeats 4000000
set_option maxRecDepth 20000
theorem row_pub {h : RO} {b sz n : Nat} {cs : List Value} (hp : Pubd h b cs) (hl : cs.length = n * sz) : Row h sz (.slice (some ⟨b, 0, none⟩) n n) cs :=
  ⟨_, n, n, rfl, hl, Nat.le_refl _, .inr ⟨b, 0, rfl, fun i u e => by rw [Nat.zero_add]; exact hp i u e⟩⟩
def smallL (l : List Int) : Bool := l.all fun x => decide (-65536 ≤ x) && decide (x ≤ 65536)
theorem smallL_rng {l : List Int} (h : smallL l = true) : ∀ x ∈ l, R64 x := fun x hx => by
  have := List.all_eq_true.1 h x hx
  simp at this
  unfold R64; omega
theorem intS_pub {h : RO} {b : Nat} (l : List Int) (hp : Pubd h b (ints l)) (hs : smallL l = true) (hn : l.length ≤ 1000) : IntS h (.slice (some ⟨b, 0, none⟩) l.length l.length) l :=
  ⟨⟨_, _, rfl, row_pub hp (by simp [ints])⟩, by omega, smallL_rng hs⟩
def LLL (h : RO) : List Value → List (List Int) → Prop
  | [], [] => True
  | u :: r, l :: ls => IntS h u l ∧ LLL h r ls
  | _, _ => False
theorem LLL.len {h : RO} : ∀ {vs : List Value} {ls : List (List Int)}, LLL h vs ls → vs.length = ls.length
  | [], [], _ => rfl
  | u :: r, l :: ls, ⟨_, q⟩ => by simp [LLL.len q]
theorem LLL.get {h : RO} : ∀ {vs : List Value} {ls : List (List Int)}, LLL h vs ls → ∀ (i : Nat) (l : List Int), ls[i]? = some l → ∃ u, vs[i]? = some u ∧ IntS h u l
  | [], [], _, i, l, e => by simp at e
  | u :: r, l :: ls, ⟨p, q⟩, 0, l', e => by simp at e; subst e; exact ⟨u, rfl, p⟩
  | u :: r, l :: ls, ⟨p, q⟩, i + 1, l', e => by simp at e; simpa using LLL.get q i l' e
theorem lls_pub {h : RO} {b : Nat} {vs : List Value} (ls : List (List Int)) (hp : Pubd h b vs) (hd : LLL h vs ls) (hn : ls.length ≤ 1000) : LLS h (.slice (some ⟨b, 0, none⟩) ls.length ls.length) ls :=
  ⟨⟨_, _, vs, rfl, row_pub hp (by rw [hd.len]; simp), hd.get⟩, by omega⟩
def DepL (h : RO) : List Value → List Cp → Prop
  | [], [] => True
  | x :: u :: r, d :: ds => x = .int .i64 d.1 ∧ IntS h u d.2 ∧ DepL h r ds
  | _, _ => False
theorem DepL.len {h : RO} : ∀ {vs : List Value} {ls : List Cp}, DepL h vs ls → vs.length = ls.length * 2
  | [], [], _ => rfl
  | x :: u :: r, l :: ls, ⟨_, _, q⟩ => by simp [DepL.len q]; omega
theorem DepL.get {h : RO} : ∀ {vs : List Value} {ls : List Cp}, DepL h vs ls → ∀ (i : Nat) (d : Cp), ls[i]? = some d → vs[i * 2]? = some (.int .i64 d.1) ∧ ∃ u, vs[i * 2 + 1]? = some u ∧ IntS h u d.2
  | [], [], _, i, l, e => by simp at e
  | x :: u :: r, l :: ls, ⟨p, p2, q⟩, 0, l', e => by simp at e; subst e; exact ⟨by simp [p], u, rfl, p2⟩
  | x :: u :: r, l :: ls, ⟨p, p2, q⟩, i + 1, l', e => by
    simp at e
    have := DepL.get q i l' e
    rw [show (i + 1) * 2 = i * 2 + 2 by omega]
    simpa using this
theorem dep_pub {h : RO} {b : Nat} {vs : List Value} (ls : List Cp) (hp : Pubd h b vs) (hd : DepL h vs ls) (hn : ls.length ≤ 1000) (hs : smallL (ls.map (·.1)) = true) : DepS h (.slice (some ⟨b, 0, none⟩) ls.length ls.length) ls :=
  ⟨⟨_, _, vs, rfl, row_pub hp hd.len, hd.get⟩, by omega, fun d hd => smallL_rng hs _ (List.mem_map_of_mem hd)⟩
def G78 : Gv := ⟨[], [], []⟩
theorem two_spec {h : RO} {m : Hp} : Con Tryz.prog 78 [] h m fun e h' m' => ∃ u v w, e = .returned (.agg #[u, v, w]) ∧ IntS h' u [1, 3] ∧ DepS h' v [(2, [1]), (4, [3])] ∧ LLS h' w [[-1, 2, 4], [-2, -4]] ∧ m' = m := by
  refine fn_of (nt := 11) T Tryz.func78 rfl (by kernel_rfl) Tryz.ntmps78 (by simp) T_ok T_mixed fun C hC => ?_
  simp only [Tryz.f78, argFr, Nat.zero_add, Nat.reduceAdd] at hC ⊢
  ((try (conv => whnf)); repeat ((first | refine And.intro ?_ True.intro | refine And.intro ⟨by omega, by omega⟩ ?_ | refine ⟨_, (by assumption : RO.c _ _ _ = _), ?_⟩ | refine ⟨_, _, _, (by assumption : (_ : Option Obj) = _), ?_⟩ | refine ⟨_, _, _, (by assumption : RO.c _ _ _ = _), ?_⟩ | refine ⟨_, (by assumption : Row _ _ _ _), ?_⟩ | refine ⟨_, (by assumption : Cell _ _ _ _ _), ?_⟩ | refine ⟨_, _, _, (by assumption : Cell _ _ _ _ _), ?_⟩ | refine ⟨_, Or.inl (by assumption), ?_⟩ | refine ⟨_, _, _, Or.inl (by assumption), ?_⟩ | refine And.intro (ints_one _) ?_ | refine And.intro (by omega) ?_ | refine d1 ?_ | refine d2 ?_ | refine d3 ?_ | refine d4 ?_ | refine go G78 400 hC (by kernel_rfl) ?_); (conv => whnf)))
  intro b2 h2 hle2 hp2
  have i2 := intS_pub [1] hp2 rfl (by decide)
  clear hp2
  ((try (conv => whnf)); repeat ((first | refine And.intro ?_ True.intro | refine And.intro ⟨by omega, by omega⟩ ?_ | refine ⟨_, (by assumption : RO.c _ _ _ = _), ?_⟩ | refine ⟨_, _, _, (by assumption : (_ : Option Obj) = _), ?_⟩ | refine ⟨_, _, _, (by assumption : RO.c _ _ _ = _), ?_⟩ | refine ⟨_, (by assumption : Row _ _ _ _), ?_⟩ | refine ⟨_, (by assumption : Cell _ _ _ _ _), ?_⟩ | refine ⟨_, _, _, (by assumption : Cell _ _ _ _ _), ?_⟩ | refine ⟨_, Or.inl (by assumption), ?_⟩ | refine ⟨_, _, _, Or.inl (by assumption), ?_⟩ | refine And.intro (ints_one _) ?_ | refine And.intro (by omega) ?_ | refine d1 ?_ | refine d2 ?_ | refine d3 ?_ | refine d4 ?_ | refine go G78 400 hC (by kernel_rfl) ?_); (conv => whnf)))
  intro b4 h4 hle4 hp4
  have i4 := intS_pub [3] hp4 rfl (by decide)
  clear hp4
  ((try (conv => whnf)); repeat ((first | refine And.intro ?_ True.intro | refine And.intro ⟨by omega, by omega⟩ ?_ | refine ⟨_, (by assumption : RO.c _ _ _ = _), ?_⟩ | refine ⟨_, _, _, (by assumption : (_ : Option Obj) = _), ?_⟩ | refine ⟨_, _, _, (by assumption : RO.c _ _ _ = _), ?_⟩ | refine ⟨_, (by assumption : Row _ _ _ _), ?_⟩ | refine ⟨_, (by assumption : Cell _ _ _ _ _), ?_⟩ | refine ⟨_, _, _, (by assumption : Cell _ _ _ _ _), ?_⟩ | refine ⟨_, Or.inl (by assumption), ?_⟩ | refine ⟨_, _, _, Or.inl (by assumption), ?_⟩ | refine And.intro (ints_one _) ?_ | refine And.intro (by omega) ?_ | refine d1 ?_ | refine d2 ?_ | refine d3 ?_ | refine d4 ?_ | refine go G78 400 hC (by kernel_rfl) ?_); (conv => whnf)))
  intro b7 h7 hle7 hp7
  have i7 := intS_pub [-1, 2, 4] hp7 rfl (by decide)
  clear hp7
  ((try (conv => whnf)); repeat ((first | refine And.intro ?_ True.intro | refine And.intro ⟨by omega, by omega⟩ ?_ | refine ⟨_, (by assumption : RO.c _ _ _ = _), ?_⟩ | refine ⟨_, _, _, (by assumption : (_ : Option Obj) = _), ?_⟩ | refine ⟨_, _, _, (by assumption : RO.c _ _ _ = _), ?_⟩ | refine ⟨_, (by assumption : Row _ _ _ _), ?_⟩ | refine ⟨_, (by assumption : Cell _ _ _ _ _), ?_⟩ | refine ⟨_, _, _, (by assumption : Cell _ _ _ _ _), ?_⟩ | refine ⟨_, Or.inl (by assumption), ?_⟩ | refine ⟨_, _, _, Or.inl (by assumption), ?_⟩ | refine And.intro (ints_one _) ?_ | refine And.intro (by omega) ?_ | refine d1 ?_ | refine d2 ?_ | refine d3 ?_ | refine d4 ?_ | refine go G78 400 hC (by kernel_rfl) ?_); (conv => whnf)))
  intro b8 h8 hle8 hp8
  have i8 := intS_pub [-2, -4] hp8 rfl (by decide)
  clear hp8
  ((try (conv => whnf)); repeat ((first | refine And.intro ?_ True.intro | refine And.intro ⟨by omega, by omega⟩ ?_ | refine ⟨_, (by assumption : RO.c _ _ _ = _), ?_⟩ | refine ⟨_, _, _, (by assumption : (_ : Option Obj) = _), ?_⟩ | refine ⟨_, _, _, (by assumption : RO.c _ _ _ = _), ?_⟩ | refine ⟨_, (by assumption : Row _ _ _ _), ?_⟩ | refine ⟨_, (by assumption : Cell _ _ _ _ _), ?_⟩ | refine ⟨_, _, _, (by assumption : Cell _ _ _ _ _), ?_⟩ | refine ⟨_, Or.inl (by assumption), ?_⟩ | refine ⟨_, _, _, Or.inl (by assumption), ?_⟩ | refine And.intro (ints_one _) ?_ | refine And.intro (by omega) ?_ | refine d1 ?_ | refine d2 ?_ | refine d3 ?_ | refine d4 ?_ | refine go G78 400 hC (by kernel_rfl) ?_); (conv => whnf)))
  intro b1 h1 hle1 hp1
  have i1 := intS_pub [1, 3] hp1 rfl (by decide)
  clear hp1
  ((try (conv => whnf)); repeat ((first | refine And.intro ?_ True.intro | refine And.intro ⟨by omega, by omega⟩ ?_ | refine ⟨_, (by assumption : RO.c _ _ _ = _), ?_⟩ | refine ⟨_, _, _, (by assumption : (_ : Option Obj) = _), ?_⟩ | refine ⟨_, _, _, (by assumption : RO.c _ _ _ = _), ?_⟩ | refine ⟨_, (by assumption : Row _ _ _ _), ?_⟩ | refine ⟨_, (by assumption : Cell _ _ _ _ _), ?_⟩ | refine ⟨_, _, _, (by assumption : Cell _ _ _ _ _), ?_⟩ | refine ⟨_, Or.inl (by assumption), ?_⟩ | refine ⟨_, _, _, Or.inl (by assumption), ?_⟩ | refine And.intro (ints_one _) ?_ | refine And.intro (by omega) ?_ | refine d1 ?_ | refine d2 ?_ | refine d3 ?_ | refine d4 ?_ | refine go G78 400 hC (by kernel_rfl) ?_); (conv => whnf)))
  intro b6 h6 hle6 hp6
  have i6 := dep_pub [(2, [1]), (4, [3])] hp6 ⟨rfl, i2.mono (hle4.trans (hle7.trans (hle8.trans (hle1.trans hle6)))), rfl, i4.mono (hle7.trans (hle8.trans (hle1.trans hle6))), trivial⟩ (by decide) rfl
  clear hp6
  ((try (conv => whnf)); repeat ((first | refine And.intro ?_ True.intro | refine And.intro ⟨by omega, by omega⟩ ?_ | refine ⟨_, (by assumption : RO.c _ _ _ = _), ?_⟩ | refine ⟨_, _, _, (by assumption : (_ : Option Obj) = _), ?_⟩ | refine ⟨_, _, _, (by assumption : RO.c _ _ _ = _), ?_⟩ | refine ⟨_, (by assumption : Row _ _ _ _), ?_⟩ | refine ⟨_, (by assumption : Cell _ _ _ _ _), ?_⟩ | refine ⟨_, _, _, (by assumption : Cell _ _ _ _ _), ?_⟩ | refine ⟨_, Or.inl (by assumption), ?_⟩ | refine ⟨_, _, _, Or.inl (by assumption), ?_⟩ | refine And.intro (ints_one _) ?_ | refine And.intro (by omega) ?_ | refine d1 ?_ | refine d2 ?_ | refine d3 ?_ | refine d4 ?_ | refine go G78 400 hC (by kernel_rfl) ?_); (conv => whnf)))
  intro b9 h9 hle9 hp9
  have i9 := lls_pub [[-1, 2, 4], [-2, -4]] hp9 ⟨i7.mono (hle8.trans (hle1.trans (hle6.trans hle9))), i8.mono (hle1.trans (hle6.trans hle9)), trivial⟩ (by decide)
  clear hp9
  ((try (conv => whnf)); repeat ((first | refine And.intro ?_ True.intro | refine And.intro ⟨by omega, by omega⟩ ?_ | refine ⟨_, (by assumption : RO.c _ _ _ = _), ?_⟩ | refine ⟨_, _, _, (by assumption : (_ : Option Obj) = _), ?_⟩ | refine ⟨_, _, _, (by assumption : RO.c _ _ _ = _), ?_⟩ | refine ⟨_, (by assumption : Row _ _ _ _), ?_⟩ | refine ⟨_, (by assumption : Cell _ _ _ _ _), ?_⟩ | refine ⟨_, _, _, (by assumption : Cell _ _ _ _ _), ?_⟩ | refine ⟨_, Or.inl (by assumption), ?_⟩ | refine ⟨_, _, _, Or.inl (by assumption), ?_⟩ | refine And.intro (ints_one _) ?_ | refine And.intro (by omega) ?_ | refine d1 ?_ | refine d2 ?_ | refine d3 ?_ | refine d4 ?_ | refine go G78 400 hC (by kernel_rfl) ?_); (conv => whnf)))
  exact ⟨_, _, _, rfl, i1.mono (hle6.trans hle9), i6.mono hle9, i9, rfl⟩
end Go.Proofs.YtoefoaabnjeofaaGreat
namespace Go.Proofs.YtoefoaabnjeofaaGreat
open Go.SX
set_option maxRecDepth 20000
theorem sortA_id {raw : List Int} (h : raw.Pairwise fun a b => abs64 a < abs64 b) : sortA raw = raw :=
  (sortA_unique (List.Perm.refl _) (h.imp fun h => by omega) (h.imp fun h => by omega)).symm
def expd0 (l ex : List Cp) (cls pts : List (List Int)) : List (List Int) := pts.flatMap fun p => (cls.filter fun c => !skipC p c).map fun c => c.filterMap (litC l ex p)
theorem expd_raw {l ex : List Cp} {cls pts : List (List Int)} (h : ∀ p ∈ pts, ∀ c ∈ cls, (c.filterMap (litC l ex p)).Pairwise fun a b => abs64 a < abs64 b) : expd l ex cls pts = expd0 l ex cls pts := by
  unfold expd expd0
  rw [List.flatMap_def, List.flatMap_def]
  congr 1
  refine List.map_congr_left fun p hp => ?_
  unfold rowE
  refine List.map_congr_left fun c hc => ?_
  exact sortA_id (h p hp c (List.mem_filter.1 hc).1)
theorem two_expd : expd (cops [(2, [1]), (4, [3])] [[1, -3], [1, 3]]) [(2, [1]), (4, [3])] [[-1, 2, 4], [-2, -4]] [[1, -3], [1, 3]] = [[1, 2], [-1, -2], [1, 3], [-1, -3]] := by
  rw [expd_raw (by decide)]; decide
theorem two_cops : cops [(2, [1]), (4, [3])] [[1, -3], [1, 3]] = [(2, [1]), (4, [-3]), (4, [3])] := by decide
theorem two_may : mayA [1, 3] [(2, [1]), (4, [3])] [[-1, 2, 4], [-2, -4]] [[1, -3], [1, 3]] = true := by rw [mayA_eq]; decide
theorem two_may2 : mayA [1, 3] [(2, [1]), (4, [3])] [[-1, 2, 4], [-2, -4]] [[1, -3], [1, -3]] = false := by rw [mayA_eq]; decide
theorem two_may3 : mayA [1, 3] [(2, [1]), (4, [3])] [[-1, 2, 4], [-2, -4]] [[1]] = false := by rw [mayA_eq]; decide
theorem two_str : strS [1, 3] (cops [(2, [1]), (4, [3])] [[1, -3], [1, 3]]) [-1, 2, 3] [(2, [1]), (4, [3])] = ([(2, 0), (4, 1)], []) := by decide
example : evG [1, 3] [] 1 [-1, 3] = true := by decide
example : evG [1, 3] [] 0 [1, 3] = false := by decide
theorem two_mayM : mayM [((2 : Int), [(1 : Int)]), (4, [-3]), (4, [3])].length [-1, 2, 3] = true := by decide
theorem two_gok : GOK [1, 3] [] := ⟨ainputs_iff.1 (by decide), by decide, fun i hi => by simp at hi⟩
def G16 : Gv := ⟨[], [], []⟩
theorem head_spec {h : RO} {m : Hp} : Con Tryz.prog 16 [] h m fun e h' m' => e = .returned (.bool true) ∧ m' = m := by
  refine fn_of (nt := 125) T Tryz.func16 rfl (by kernel_rfl) Tryz.ntmps16 (by simp) T_ok T_mixed fun C hC => ?_
  simp only [Tryz.f16, argFr, Nat.zero_add, Nat.reduceAdd] at hC ⊢
  ((try (conv => whnf)); repeat ((first | refine And.intro ?_ True.intro | refine And.intro ⟨by omega, by omega⟩ ?_ | refine ⟨_, (by assumption : RO.c _ _ _ = _), ?_⟩ | refine ⟨_, _, _, (by assumption : (_ : Option Obj) = _), ?_⟩ | refine ⟨_, _, _, (by assumption : RO.c _ _ _ = _), ?_⟩ | refine ⟨_, (by assumption : Row _ _ _ _), ?_⟩ | refine ⟨_, (by assumption : Cell _ _ _ _ _), ?_⟩ | refine ⟨_, _, _, (by assumption : Cell _ _ _ _ _), ?_⟩ | refine ⟨_, Or.inl (by assumption), ?_⟩ | refine ⟨_, _, _, Or.inl (by assumption), ?_⟩ | refine And.intro (ints_one _) ?_ | refine And.intro (by omega) ?_ | refine d1 ?_ | refine d2 ?_ | refine d3 ?_ | refine d4 ?_ | refine go G16 400 hC (by kernel_rfl) ?_); (conv => whnf)))
  intro b17 h17 l17 p17
  have i17 := intS_pub [1, -3] p17 rfl (by decide)
  clear p17
  ((try (conv => whnf)); repeat ((first | refine And.intro ?_ True.intro | refine And.intro ⟨by omega, by omega⟩ ?_ | refine ⟨_, (by assumption : RO.c _ _ _ = _), ?_⟩ | refine ⟨_, _, _, (by assumption : (_ : Option Obj) = _), ?_⟩ | refine ⟨_, _, _, (by assumption : RO.c _ _ _ = _), ?_⟩ | refine ⟨_, (by assumption : Row _ _ _ _), ?_⟩ | refine ⟨_, (by assumption : Cell _ _ _ _ _), ?_⟩ | refine ⟨_, _, _, (by assumption : Cell _ _ _ _ _), ?_⟩ | refine ⟨_, Or.inl (by assumption), ?_⟩ | refine ⟨_, _, _, Or.inl (by assumption), ?_⟩ | refine And.intro (ints_one _) ?_ | refine And.intro (by omega) ?_ | refine d1 ?_ | refine d2 ?_ | refine d3 ?_ | refine d4 ?_ | refine go G16 400 hC (by kernel_rfl) ?_); (conv => whnf)))
  intro b18 h18 l18 p18
  have i18 := intS_pub [1, 3] p18 rfl (by decide)
  clear p18
  replace i17 := i17.mono l18
  ((try (conv => whnf)); repeat ((first | refine And.intro ?_ True.intro | refine And.intro ⟨by omega, by omega⟩ ?_ | refine ⟨_, (by assumption : RO.c _ _ _ = _), ?_⟩ | refine ⟨_, _, _, (by assumption : (_ : Option Obj) = _), ?_⟩ | refine ⟨_, _, _, (by assumption : RO.c _ _ _ = _), ?_⟩ | refine ⟨_, (by assumption : Row _ _ _ _), ?_⟩ | refine ⟨_, (by assumption : Cell _ _ _ _ _), ?_⟩ | refine ⟨_, _, _, (by assumption : Cell _ _ _ _ _), ?_⟩ | refine ⟨_, Or.inl (by assumption), ?_⟩ | refine ⟨_, _, _, Or.inl (by assumption), ?_⟩ | refine And.intro (ints_one _) ?_ | refine And.intro (by omega) ?_ | refine d1 ?_ | refine d2 ?_ | refine d3 ?_ | refine d4 ?_ | refine go G16 400 hC (by kernel_rfl) ?_); (conv => whnf)))
  refine Con.mono two_spec ?_
  rintro _ h1 m1 l1 ⟨u1, v1, w1, rfl, a1, b1, c1, rfl⟩
  obtain ⟨_, _, rfl, -⟩ := a1.s
  obtain ⟨_, _, rfl⟩ := b1.sl
  obtain ⟨_, _, rfl⟩ := c1.sl
  ((try (conv => whnf)); repeat ((first | refine And.intro ?_ True.intro | refine And.intro ⟨by omega, by omega⟩ ?_ | refine ⟨_, (by assumption : RO.c _ _ _ = _), ?_⟩ | refine ⟨_, _, _, (by assumption : (_ : Option Obj) = _), ?_⟩ | refine ⟨_, _, _, (by assumption : RO.c _ _ _ = _), ?_⟩ | refine ⟨_, (by assumption : Row _ _ _ _), ?_⟩ | refine ⟨_, (by assumption : Cell _ _ _ _ _), ?_⟩ | refine ⟨_, _, _, (by assumption : Cell _ _ _ _ _), ?_⟩ | refine ⟨_, Or.inl (by assumption), ?_⟩ | refine ⟨_, _, _, Or.inl (by assumption), ?_⟩ | refine And.intro (ints_one _) ?_ | refine And.intro (by omega) ?_ | refine d1 ?_ | refine d2 ?_ | refine d3 ?_ | refine d4 ?_ | refine go G16 400 hC (by kernel_rfl) ?_); (conv => whnf)))
  intro b19 h19 l19 p19
  have hP := lls_pub [[1, -3], [1, 3]] p19 ⟨i17.mono (l1.trans l19), i18.mono (l1.trans l19), trivial⟩ (by decide)
  clear p19
  ((try (conv => whnf)); repeat ((first | refine And.intro ?_ True.intro | refine And.intro ⟨by omega, by omega⟩ ?_ | refine ⟨_, (by assumption : RO.c _ _ _ = _), ?_⟩ | refine ⟨_, _, _, (by assumption : (_ : Option Obj) = _), ?_⟩ | refine ⟨_, _, _, (by assumption : RO.c _ _ _ = _), ?_⟩ | refine ⟨_, (by assumption : Row _ _ _ _), ?_⟩ | refine ⟨_, (by assumption : Cell _ _ _ _ _), ?_⟩ | refine ⟨_, _, _, (by assumption : Cell _ _ _ _ _), ?_⟩ | refine ⟨_, Or.inl (by assumption), ?_⟩ | refine ⟨_, _, _, Or.inl (by assumption), ?_⟩ | refine And.intro (ints_one _) ?_ | refine And.intro (by omega) ?_ | refine d1 ?_ | refine d2 ?_ | refine d3 ?_ | refine d4 ?_ | refine go G16 400 hC (by kernel_rfl) ?_); (conv => whnf)))
  refine Con.mono (copies_spec (a1.mono l19) (b1.mono l19) (c1.mono l19) hP (by decide) (by decide) (by decide) (by decide)) ?_
  rintro _ h2 m2 l2 ⟨hR, rfl⟩
  rw [two_may] at hR
  obtain ⟨s1, rfl, d1⟩ := hR
  rw [two_cops] at d1
  obtain ⟨_, _, rfl⟩ := d1.sl
  ((try (conv => whnf)); repeat ((first | refine And.intro ?_ True.intro | refine And.intro ⟨by omega, by omega⟩ ?_ | refine ⟨_, (by assumption : RO.c _ _ _ = _), ?_⟩ | refine ⟨_, _, _, (by assumption : (_ : Option Obj) = _), ?_⟩ | refine ⟨_, _, _, (by assumption : RO.c _ _ _ = _), ?_⟩ | refine ⟨_, (by assumption : Row _ _ _ _), ?_⟩ | refine ⟨_, (by assumption : Cell _ _ _ _ _), ?_⟩ | refine ⟨_, _, _, (by assumption : Cell _ _ _ _ _), ?_⟩ | refine ⟨_, Or.inl (by assumption), ?_⟩ | refine ⟨_, _, _, Or.inl (by assumption), ?_⟩ | refine And.intro (ints_one _) ?_ | refine And.intro (by omega) ?_ | refine d1 ?_ | refine d2 ?_ | refine d3 ?_ | refine d4 ?_ | refine go G16 400 hC (by kernel_rfl) ?_); (conv => whnf)))
  refine Con.mono two_spec ?_
  rintro _ h3 m3 l3 ⟨u3, v3, w3, rfl, a3, b3, c3, rfl⟩
  obtain ⟨_, _, rfl, -⟩ := a3.s
  obtain ⟨_, _, rfl⟩ := b3.sl
  obtain ⟨_, _, rfl⟩ := c3.sl
  replace hP := hP.mono (l2.trans l3)
  ((try (conv => whnf)); repeat ((first | refine And.intro ?_ True.intro | refine And.intro ⟨by omega, by omega⟩ ?_ | refine ⟨_, (by assumption : RO.c _ _ _ = _), ?_⟩ | refine ⟨_, _, _, (by assumption : (_ : Option Obj) = _), ?_⟩ | refine ⟨_, _, _, (by assumption : RO.c _ _ _ = _), ?_⟩ | refine ⟨_, (by assumption : Row _ _ _ _), ?_⟩ | refine ⟨_, (by assumption : Cell _ _ _ _ _), ?_⟩ | refine ⟨_, _, _, (by assumption : Cell _ _ _ _ _), ?_⟩ | refine ⟨_, Or.inl (by assumption), ?_⟩ | refine ⟨_, _, _, Or.inl (by assumption), ?_⟩ | refine And.intro (ints_one _) ?_ | refine And.intro (by omega) ?_ | refine d1 ?_ | refine d2 ?_ | refine d3 ?_ | refine d4 ?_ | refine go G16 400 hC (by kernel_rfl) ?_); (conv => whnf)))
  refine Con.mono (expand_spec a3 b3 c3 hP (by decide) (by decide) (by decide) (by decide) (by decide) (by decide) (by decide)) ?_
  rintro _ h4 m4 l4 ⟨hR, rfl⟩
  rw [two_may] at hR
  obtain ⟨s2, rfl, d2⟩ := hR
  rw [two_expd] at d2
  obtain ⟨_, _, rfl⟩ := d2.sl
  ((try (conv => whnf)); repeat ((first | refine And.intro ?_ True.intro | refine And.intro ⟨by omega, by omega⟩ ?_ | refine ⟨_, (by assumption : RO.c _ _ _ = _), ?_⟩ | refine ⟨_, _, _, (by assumption : (_ : Option Obj) = _), ?_⟩ | refine ⟨_, _, _, (by assumption : RO.c _ _ _ = _), ?_⟩ | refine ⟨_, (by assumption : Row _ _ _ _), ?_⟩ | refine ⟨_, (by assumption : Cell _ _ _ _ _), ?_⟩ | refine ⟨_, _, _, (by assumption : Cell _ _ _ _ _), ?_⟩ | refine ⟨_, Or.inl (by assumption), ?_⟩ | refine ⟨_, _, _, Or.inl (by assumption), ?_⟩ | refine And.intro (ints_one _) ?_ | refine And.intro (by omega) ?_ | refine d1 ?_ | refine d2 ?_ | refine d3 ?_ | refine d4 ?_ | refine go G16 400 hC (by kernel_rfl) ?_); (conv => whnf)))
  refine Con.mono two_spec ?_
  rintro _ h5 m5 l5 ⟨u5, v5, w5, rfl, a5, b5, c5, rfl⟩
  obtain ⟨_, _, rfl, -⟩ := a5.s
  obtain ⟨_, _, rfl⟩ := b5.sl
  obtain ⟨_, _, rfl⟩ := c5.sl
  replace hP := hP.mono (l4.trans l5)
  ((try (conv => whnf)); repeat ((first | refine And.intro ?_ True.intro | refine And.intro ⟨by omega, by omega⟩ ?_ | refine ⟨_, (by assumption : RO.c _ _ _ = _), ?_⟩ | refine ⟨_, _, _, (by assumption : (_ : Option Obj) = _), ?_⟩ | refine ⟨_, _, _, (by assumption : RO.c _ _ _ = _), ?_⟩ | refine ⟨_, (by assumption : Row _ _ _ _), ?_⟩ | refine ⟨_, (by assumption : Cell _ _ _ _ _), ?_⟩ | refine ⟨_, _, _, (by assumption : Cell _ _ _ _ _), ?_⟩ | refine ⟨_, Or.inl (by assumption), ?_⟩ | refine ⟨_, _, _, Or.inl (by assumption), ?_⟩ | refine And.intro (ints_one _) ?_ | refine And.intro (by omega) ?_ | refine d1 ?_ | refine d2 ?_ | refine d3 ?_ | refine d4 ?_ | refine go G16 400 hC (by kernel_rfl) ?_); (conv => whnf)))
  intro b35 h6 l6 p35
  have i35 := intS_pub [-1, 2, 3] p35 rfl (by decide)
  clear p35
  ((try (conv => whnf)); repeat ((first | refine And.intro ?_ True.intro | refine And.intro ⟨by omega, by omega⟩ ?_ | refine ⟨_, (by assumption : RO.c _ _ _ = _), ?_⟩ | refine ⟨_, _, _, (by assumption : (_ : Option Obj) = _), ?_⟩ | refine ⟨_, _, _, (by assumption : RO.c _ _ _ = _), ?_⟩ | refine ⟨_, (by assumption : Row _ _ _ _), ?_⟩ | refine ⟨_, (by assumption : Cell _ _ _ _ _), ?_⟩ | refine ⟨_, _, _, (by assumption : Cell _ _ _ _ _), ?_⟩ | refine ⟨_, Or.inl (by assumption), ?_⟩ | refine ⟨_, _, _, Or.inl (by assumption), ?_⟩ | refine And.intro (ints_one _) ?_ | refine And.intro (by omega) ?_ | refine d1 ?_ | refine d2 ?_ | refine d3 ?_ | refine d4 ?_ | refine go G16 400 hC (by kernel_rfl) ?_); (conv => whnf)))
  refine Con.mono (strat_spec (a5.mono l6) (b5.mono l6) (c5.mono l6) (hP.mono l6) i35 (by decide) (by decide) (by decide) (by decide) (by decide)) ?_
  rintro _ h7 m7 l7 ⟨rfl, hR⟩
  rw [two_may, two_cops, two_mayM] at hR
  rw [← two_cops, two_str] at hR
  obtain ⟨s, t, o, rfl, ss, st, so⟩ := hR
  obtain ⟨_, _, rfl, -⟩ := ss.s
  obtain ⟨_, _, rfl⟩ := st.sl
  obtain ⟨_, _, rfl⟩ := so.sl
  ((try (conv => whnf)); repeat ((first | refine And.intro ?_ True.intro | refine And.intro ⟨by omega, by omega⟩ ?_ | refine ⟨_, (by assumption : RO.c _ _ _ = _), ?_⟩ | refine ⟨_, _, _, (by assumption : (_ : Option Obj) = _), ?_⟩ | refine ⟨_, _, _, (by assumption : RO.c _ _ _ = _), ?_⟩ | refine ⟨_, (by assumption : Row _ _ _ _), ?_⟩ | refine ⟨_, (by assumption : Cell _ _ _ _ _), ?_⟩ | refine ⟨_, _, _, (by assumption : Cell _ _ _ _ _), ?_⟩ | refine ⟨_, Or.inl (by assumption), ?_⟩ | refine ⟨_, _, _, Or.inl (by assumption), ?_⟩ | refine And.intro (ints_one _) ?_ | refine And.intro (by omega) ?_ | refine d1 ?_ | refine d2 ?_ | refine d3 ?_ | refine d4 ?_ | refine go G16 400 hC (by kernel_rfl) ?_); (conv => whnf)))
  refine Con.mono two_spec ?_
  rintro _ h8 m8 l8 ⟨u8, v8, w8, rfl, a8, b8, c8, rfl⟩
  obtain ⟨_, _, rfl, -⟩ := a8.s
  obtain ⟨_, _, rfl⟩ := b8.sl
  obtain ⟨_, _, rfl⟩ := c8.sl
  ((try (conv => whnf)); repeat ((first | refine And.intro ?_ True.intro | refine And.intro ⟨by omega, by omega⟩ ?_ | refine ⟨_, (by assumption : RO.c _ _ _ = _), ?_⟩ | refine ⟨_, _, _, (by assumption : (_ : Option Obj) = _), ?_⟩ | refine ⟨_, _, _, (by assumption : RO.c _ _ _ = _), ?_⟩ | refine ⟨_, (by assumption : Row _ _ _ _), ?_⟩ | refine ⟨_, (by assumption : Cell _ _ _ _ _), ?_⟩ | refine ⟨_, _, _, (by assumption : Cell _ _ _ _ _), ?_⟩ | refine ⟨_, Or.inl (by assumption), ?_⟩ | refine ⟨_, _, _, Or.inl (by assumption), ?_⟩ | refine And.intro (ints_one _) ?_ | refine And.intro (by omega) ?_ | refine d1 ?_ | refine d2 ?_ | refine d3 ?_ | refine d4 ?_ | refine go G16 400 hC (by kernel_rfl) ?_); (conv => whnf)))
  intro b41 h9 l9 p41
  have i41 := intS_pub [1, -3] p41 rfl (by decide)
  clear p41
  ((try (conv => whnf)); repeat ((first | refine And.intro ?_ True.intro | refine And.intro ⟨by omega, by omega⟩ ?_ | refine ⟨_, (by assumption : RO.c _ _ _ = _), ?_⟩ | refine ⟨_, _, _, (by assumption : (_ : Option Obj) = _), ?_⟩ | refine ⟨_, _, _, (by assumption : RO.c _ _ _ = _), ?_⟩ | refine ⟨_, (by assumption : Row _ _ _ _), ?_⟩ | refine ⟨_, (by assumption : Cell _ _ _ _ _), ?_⟩ | refine ⟨_, _, _, (by assumption : Cell _ _ _ _ _), ?_⟩ | refine ⟨_, Or.inl (by assumption), ?_⟩ | refine ⟨_, _, _, Or.inl (by assumption), ?_⟩ | refine And.intro (ints_one _) ?_ | refine And.intro (by omega) ?_ | refine d1 ?_ | refine d2 ?_ | refine d3 ?_ | refine d4 ?_ | refine go G16 400 hC (by kernel_rfl) ?_); (conv => whnf)))
  intro b42 h10 l10 p42
  have i42 := intS_pub [1, -3] p42 rfl (by decide)
  clear p42
  ((try (conv => whnf)); repeat ((first | refine And.intro ?_ True.intro | refine And.intro ⟨by omega, by omega⟩ ?_ | refine ⟨_, (by assumption : RO.c _ _ _ = _), ?_⟩ | refine ⟨_, _, _, (by assumption : (_ : Option Obj) = _), ?_⟩ | refine ⟨_, _, _, (by assumption : RO.c _ _ _ = _), ?_⟩ | refine ⟨_, (by assumption : Row _ _ _ _), ?_⟩ | refine ⟨_, (by assumption : Cell _ _ _ _ _), ?_⟩ | refine ⟨_, _, _, (by assumption : Cell _ _ _ _ _), ?_⟩ | refine ⟨_, Or.inl (by assumption), ?_⟩ | refine ⟨_, _, _, Or.inl (by assumption), ?_⟩ | refine And.intro (ints_one _) ?_ | refine And.intro (by omega) ?_ | refine d1 ?_ | refine d2 ?_ | refine d3 ?_ | refine d4 ?_ | refine go G16 400 hC (by kernel_rfl) ?_); (conv => whnf)))
  intro b43 h11 l11 p43
  have i43 := lls_pub [[1, -3], [1, -3]] p43 ⟨i41.mono (l10.trans l11), i42.mono l11, trivial⟩ (by decide)
  clear p43
  have l811 := l9.trans (l10.trans l11)
  ((try (conv => whnf)); repeat ((first | refine And.intro ?_ True.intro | refine And.intro ⟨by omega, by omega⟩ ?_ | refine ⟨_, (by assumption : RO.c _ _ _ = _), ?_⟩ | refine ⟨_, _, _, (by assumption : (_ : Option Obj) = _), ?_⟩ | refine ⟨_, _, _, (by assumption : RO.c _ _ _ = _), ?_⟩ | refine ⟨_, (by assumption : Row _ _ _ _), ?_⟩ | refine ⟨_, (by assumption : Cell _ _ _ _ _), ?_⟩ | refine ⟨_, _, _, (by assumption : Cell _ _ _ _ _), ?_⟩ | refine ⟨_, Or.inl (by assumption), ?_⟩ | refine ⟨_, _, _, Or.inl (by assumption), ?_⟩ | refine And.intro (ints_one _) ?_ | refine And.intro (by omega) ?_ | refine d1 ?_ | refine d2 ?_ | refine d3 ?_ | refine d4 ?_ | refine go G16 400 hC (by kernel_rfl) ?_); (conv => whnf)))
  refine Con.mono (copies_spec (a8.mono l811) (b8.mono l811) (c8.mono l811) i43 (by decide) (by decide) (by decide) (by decide)) ?_
  rintro _ h12 m12 l12 ⟨hR, rfl⟩
  rw [two_may2] at hR
  subst hR
  ((try (conv => whnf)); repeat ((first | refine And.intro ?_ True.intro | refine And.intro ⟨by omega, by omega⟩ ?_ | refine ⟨_, (by assumption : RO.c _ _ _ = _), ?_⟩ | refine ⟨_, _, _, (by assumption : (_ : Option Obj) = _), ?_⟩ | refine ⟨_, _, _, (by assumption : RO.c _ _ _ = _), ?_⟩ | refine ⟨_, (by assumption : Row _ _ _ _), ?_⟩ | refine ⟨_, (by assumption : Cell _ _ _ _ _), ?_⟩ | refine ⟨_, _, _, (by assumption : Cell _ _ _ _ _), ?_⟩ | refine ⟨_, Or.inl (by assumption), ?_⟩ | refine ⟨_, _, _, Or.inl (by assumption), ?_⟩ | refine And.intro (ints_one _) ?_ | refine And.intro (by omega) ?_ | refine d1 ?_ | refine d2 ?_ | refine d3 ?_ | refine d4 ?_ | refine go G16 400 hC (by kernel_rfl) ?_); (conv => whnf)))
  refine Con.mono two_spec ?_
  rintro _ h13 m13 l13 ⟨u13, v13, w13, rfl, a13, b13, c13, rfl⟩
  obtain ⟨_, _, rfl, -⟩ := a13.s
  obtain ⟨_, _, rfl⟩ := b13.sl
  obtain ⟨_, _, rfl⟩ := c13.sl
  ((try (conv => whnf)); repeat ((first | refine And.intro ?_ True.intro | refine And.intro ⟨by omega, by omega⟩ ?_ | refine ⟨_, (by assumption : RO.c _ _ _ = _), ?_⟩ | refine ⟨_, _, _, (by assumption : (_ : Option Obj) = _), ?_⟩ | refine ⟨_, _, _, (by assumption : RO.c _ _ _ = _), ?_⟩ | refine ⟨_, (by assumption : Row _ _ _ _), ?_⟩ | refine ⟨_, (by assumption : Cell _ _ _ _ _), ?_⟩ | refine ⟨_, _, _, (by assumption : Cell _ _ _ _ _), ?_⟩ | refine ⟨_, Or.inl (by assumption), ?_⟩ | refine ⟨_, _, _, Or.inl (by assumption), ?_⟩ | refine And.intro (ints_one _) ?_ | refine And.intro (by omega) ?_ | refine d1 ?_ | refine d2 ?_ | refine d3 ?_ | refine d4 ?_ | refine go G16 400 hC (by kernel_rfl) ?_); (conv => whnf)))
  intro b49 h14 l14 p49
  have i49 := intS_pub [1] p49 rfl (by decide)
  clear p49
  ((try (conv => whnf)); repeat ((first | refine And.intro ?_ True.intro | refine And.intro ⟨by omega, by omega⟩ ?_ | refine ⟨_, (by assumption : RO.c _ _ _ = _), ?_⟩ | refine ⟨_, _, _, (by assumption : (_ : Option Obj) = _), ?_⟩ | refine ⟨_, _, _, (by assumption : RO.c _ _ _ = _), ?_⟩ | refine ⟨_, (by assumption : Row _ _ _ _), ?_⟩ | refine ⟨_, (by assumption : Cell _ _ _ _ _), ?_⟩ | refine ⟨_, _, _, (by assumption : Cell _ _ _ _ _), ?_⟩ | refine ⟨_, Or.inl (by assumption), ?_⟩ | refine ⟨_, _, _, Or.inl (by assumption), ?_⟩ | refine And.intro (ints_one _) ?_ | refine And.intro (by omega) ?_ | refine d1 ?_ | refine d2 ?_ | refine d3 ?_ | refine d4 ?_ | refine go G16 400 hC (by kernel_rfl) ?_); (conv => whnf)))
  intro b50 h15 l15 p50
  have i50 := lls_pub [[1]] p50 ⟨i49.mono l15, trivial⟩ (by decide)
  clear p50
  have l1315 := l14.trans l15
  ((try (conv => whnf)); repeat ((first | refine And.intro ?_ True.intro | refine And.intro ⟨by omega, by omega⟩ ?_ | refine ⟨_, (by assumption : RO.c _ _ _ = _), ?_⟩ | refine ⟨_, _, _, (by assumption : (_ : Option Obj) = _), ?_⟩ | refine ⟨_, _, _, (by assumption : RO.c _ _ _ = _), ?_⟩ | refine ⟨_, (by assumption : Row _ _ _ _), ?_⟩ | refine ⟨_, (by assumption : Cell _ _ _ _ _), ?_⟩ | refine ⟨_, _, _, (by assumption : Cell _ _ _ _ _), ?_⟩ | refine ⟨_, Or.inl (by assumption), ?_⟩ | refine ⟨_, _, _, Or.inl (by assumption), ?_⟩ | refine And.intro (ints_one _) ?_ | refine And.intro (by omega) ?_ | refine d1 ?_ | refine d2 ?_ | refine d3 ?_ | refine d4 ?_ | refine go G16 400 hC (by kernel_rfl) ?_); (conv => whnf)))
  refine Con.mono (copies_spec (a13.mono l1315) (b13.mono l1315) (c13.mono l1315) i50 (by decide) (by decide) (by decide) (by decide)) ?_
  rintro _ h16 m16 l16 ⟨hR, rfl⟩
  rw [two_may3] at hR
  subst hR
  have l716 := l8.trans (l811.trans (l12.trans (l13.trans (l1315.trans l16))))
  ((try (conv => whnf)); repeat ((first | refine And.intro ?_ True.intro | refine And.intro ⟨by omega, by omega⟩ ?_ | refine ⟨_, (by assumption : RO.c _ _ _ = _), ?_⟩ | refine ⟨_, _, _, (by assumption : (_ : Option Obj) = _), ?_⟩ | refine ⟨_, _, _, (by assumption : RO.c _ _ _ = _), ?_⟩ | refine ⟨_, (by assumption : Row _ _ _ _), ?_⟩ | refine ⟨_, (by assumption : Cell _ _ _ _ _), ?_⟩ | refine ⟨_, _, _, (by assumption : Cell _ _ _ _ _), ?_⟩ | refine ⟨_, Or.inl (by assumption), ?_⟩ | refine ⟨_, _, _, Or.inl (by assumption), ?_⟩ | refine And.intro (ints_one _) ?_ | refine And.intro (by omega) ?_ | refine d1 ?_ | refine d2 ?_ | refine d3 ?_ | refine d4 ?_ | refine go G16 400 hC (by kernel_rfl) ?_); (conv => whnf)))
  intro b56 h20 l20 p56
  have i56 := intS_pub [-1, 3] p56 rfl (by decide)
  clear p56
  replace ss := ss.mono (l716.trans l20)
  replace st := st.mono (l716.trans l20)
  replace so := so.mono (l716.trans l20)
  ((try (conv => whnf)); repeat ((first | refine And.intro ?_ True.intro | refine And.intro ⟨by omega, by omega⟩ ?_ | refine ⟨_, (by assumption : RO.c _ _ _ = _), ?_⟩ | refine ⟨_, _, _, (by assumption : (_ : Option Obj) = _), ?_⟩ | refine ⟨_, _, _, (by assumption : RO.c _ _ _ = _), ?_⟩ | refine ⟨_, (by assumption : Row _ _ _ _), ?_⟩ | refine ⟨_, (by assumption : Cell _ _ _ _ _), ?_⟩ | refine ⟨_, _, _, (by assumption : Cell _ _ _ _ _), ?_⟩ | refine ⟨_, Or.inl (by assumption), ?_⟩ | refine ⟨_, _, _, Or.inl (by assumption), ?_⟩ | refine And.intro (ints_one _) ?_ | refine And.intro (by omega) ?_ | refine d1 ?_ | refine d2 ?_ | refine d3 ?_ | refine d4 ?_ | refine go G16 400 hC (by kernel_rfl) ?_); (conv => whnf)))
  refine Con.mono (value_spec (k := 1) (v := 4) ss st so two_gok i56 (by decide) (by decide) (by decide) (by decide) ⟨by decide, by decide⟩) ?_
  rintro _ h21 m21 l21 ⟨rfl, rfl⟩
  rw [show evG [1, 3] ([(2, 0), (4, 1)], ([] : List Pr)).snd (gp ([((2 : Int), (0 : Int)), (4, 1)], ([] : List Pr)).fst 1).snd [-1, 3] = true by decide]
  ((try (conv => whnf)); repeat ((first | refine And.intro ?_ True.intro | refine And.intro ⟨by omega, by omega⟩ ?_ | refine ⟨_, (by assumption : RO.c _ _ _ = _), ?_⟩ | refine ⟨_, _, _, (by assumption : (_ : Option Obj) = _), ?_⟩ | refine ⟨_, _, _, (by assumption : RO.c _ _ _ = _), ?_⟩ | refine ⟨_, (by assumption : Row _ _ _ _), ?_⟩ | refine ⟨_, (by assumption : Cell _ _ _ _ _), ?_⟩ | refine ⟨_, _, _, (by assumption : Cell _ _ _ _ _), ?_⟩ | refine ⟨_, Or.inl (by assumption), ?_⟩ | refine ⟨_, _, _, Or.inl (by assumption), ?_⟩ | refine And.intro (ints_one _) ?_ | refine And.intro (by omega) ?_ | refine d1 ?_ | refine d2 ?_ | refine d3 ?_ | refine d4 ?_ | refine go G16 400 hC (by kernel_rfl) ?_); (conv => whnf)))
  intro b62 h22 l22 p62
  have i62 := intS_pub [1, 3] p62 rfl (by decide)
  clear p62
  replace ss := ss.mono (l21.trans l22)
  replace st := st.mono (l21.trans l22)
  replace so := so.mono (l21.trans l22)
  ((try (conv => whnf)); repeat ((first | refine And.intro ?_ True.intro | refine And.intro ⟨by omega, by omega⟩ ?_ | refine ⟨_, (by assumption : RO.c _ _ _ = _), ?_⟩ | refine ⟨_, _, _, (by assumption : (_ : Option Obj) = _), ?_⟩ | refine ⟨_, _, _, (by assumption : RO.c _ _ _ = _), ?_⟩ | refine ⟨_, (by assumption : Row _ _ _ _), ?_⟩ | refine ⟨_, (by assumption : Cell _ _ _ _ _), ?_⟩ | refine ⟨_, _, _, (by assumption : Cell _ _ _ _ _), ?_⟩ | refine ⟨_, Or.inl (by assumption), ?_⟩ | refine ⟨_, _, _, Or.inl (by assumption), ?_⟩ | refine And.intro (ints_one _) ?_ | refine And.intro (by omega) ?_ | refine d1 ?_ | refine d2 ?_ | refine d3 ?_ | refine d4 ?_ | refine go G16 400 hC (by kernel_rfl) ?_); (conv => whnf)))
  refine Con.mono (value_spec (k := 0) (v := 2) ss st so two_gok i62 (by decide) (by decide) (by decide) (by decide) ⟨by decide, by decide⟩) ?_
  rintro _ h23 m23 l23 ⟨rfl, rfl⟩
  rw [show evG [1, 3] ([(2, 0), (4, 1)], ([] : List Pr)).snd (gp ([((2 : Int), (0 : Int)), (4, 1)], ([] : List Pr)).fst 0).snd [1, 3] = false by decide]
  ((try (conv => whnf)); repeat ((first | refine And.intro ?_ True.intro | refine And.intro ⟨by omega, by omega⟩ ?_ | refine ⟨_, (by assumption : RO.c _ _ _ = _), ?_⟩ | refine ⟨_, _, _, (by assumption : (_ : Option Obj) = _), ?_⟩ | refine ⟨_, _, _, (by assumption : RO.c _ _ _ = _), ?_⟩ | refine ⟨_, (by assumption : Row _ _ _ _), ?_⟩ | refine ⟨_, (by assumption : Cell _ _ _ _ _), ?_⟩ | refine ⟨_, _, _, (by assumption : Cell _ _ _ _ _), ?_⟩ | refine ⟨_, Or.inl (by assumption), ?_⟩ | refine ⟨_, _, _, Or.inl (by assumption), ?_⟩ | refine And.intro (ints_one _) ?_ | refine And.intro (by omega) ?_ | refine d1 ?_ | refine d2 ?_ | refine d3 ?_ | refine d4 ?_ | refine go G16 400 hC (by kernel_rfl) ?_); (conv => whnf)))
  have l723 := l716.trans (l20.trans (l21.trans (l22.trans l23)))
  have l423 := l5.trans (l6.trans (l7.trans l723))
  replace d1 := d1.mono (l3.trans (l4.trans l423))
  replace d2 := d2.mono l423
  replace hP := hP.mono (l6.trans (l7.trans l723))
  clear i17 i18 a1 b1 c1 a3 b3 c3 a5 b5 c5 i35 ss st so i41 i42 i43 i49 i50 i56 i62 a8 b8 c8 a13 b13 c13
  refine ⟨fun _ => ?_, fun hq => absurd hq (by decide)⟩
  ((try (conv => whnf)); repeat ((first | refine And.intro ?_ True.intro | refine And.intro ⟨by omega, by omega⟩ ?_ | refine ⟨_, (by assumption : RO.c _ _ _ = _), ?_⟩ | refine ⟨_, _, _, (by assumption : (_ : Option Obj) = _), ?_⟩ | refine ⟨_, _, _, (by assumption : RO.c _ _ _ = _), ?_⟩ | refine ⟨_, (by assumption : Row _ _ _ _), ?_⟩ | refine ⟨_, (by assumption : Cell _ _ _ _ _), ?_⟩ | refine ⟨_, _, _, (by assumption : Cell _ _ _ _ _), ?_⟩ | refine ⟨_, Or.inl (by assumption), ?_⟩ | refine ⟨_, _, _, Or.inl (by assumption), ?_⟩ | refine And.intro (ints_one _) ?_ | refine And.intro (by omega) ?_ | refine d1 ?_ | refine d2 ?_ | refine d3 ?_ | refine d4 ?_ | refine go G16 400 hC (by kernel_rfl) ?_); (conv => whnf)))
  intro b70 h24 l24 p70
  have i70 := intS_pub [1] p70 rfl (by decide)
  clear p70
  ((try (conv => whnf)); repeat ((first | refine And.intro ?_ True.intro | refine And.intro ⟨by omega, by omega⟩ ?_ | refine ⟨_, (by assumption : RO.c _ _ _ = _), ?_⟩ | refine ⟨_, _, _, (by assumption : (_ : Option Obj) = _), ?_⟩ | refine ⟨_, _, _, (by assumption : RO.c _ _ _ = _), ?_⟩ | refine ⟨_, (by assumption : Row _ _ _ _), ?_⟩ | refine ⟨_, (by assumption : Cell _ _ _ _ _), ?_⟩ | refine ⟨_, _, _, (by assumption : Cell _ _ _ _ _), ?_⟩ | refine ⟨_, Or.inl (by assumption), ?_⟩ | refine ⟨_, _, _, Or.inl (by assumption), ?_⟩ | refine And.intro (ints_one _) ?_ | refine And.intro (by omega) ?_ | refine d1 ?_ | refine d2 ?_ | refine d3 ?_ | refine d4 ?_ | refine go G16 400 hC (by kernel_rfl) ?_); (conv => whnf)))
  intro b72 h25 l25 p72
  have i72 := intS_pub [-3] p72 rfl (by decide)
  clear p72
  ((try (conv => whnf)); repeat ((first | refine And.intro ?_ True.intro | refine And.intro ⟨by omega, by omega⟩ ?_ | refine ⟨_, (by assumption : RO.c _ _ _ = _), ?_⟩ | refine ⟨_, _, _, (by assumption : (_ : Option Obj) = _), ?_⟩ | refine ⟨_, _, _, (by assumption : RO.c _ _ _ = _), ?_⟩ | refine ⟨_, (by assumption : Row _ _ _ _), ?_⟩ | refine ⟨_, (by assumption : Cell _ _ _ _ _), ?_⟩ | refine ⟨_, _, _, (by assumption : Cell _ _ _ _ _), ?_⟩ | refine ⟨_, Or.inl (by assumption), ?_⟩ | refine ⟨_, _, _, Or.inl (by assumption), ?_⟩ | refine And.intro (ints_one _) ?_ | refine And.intro (by omega) ?_ | refine d1 ?_ | refine d2 ?_ | refine d3 ?_ | refine d4 ?_ | refine go G16 400 hC (by kernel_rfl) ?_); (conv => whnf)))
  intro b74 h26 l26 p74
  have i74 := intS_pub [3] p74 rfl (by decide)
  clear p74
  ((try (conv => whnf)); repeat ((first | refine And.intro ?_ True.intro | refine And.intro ⟨by omega, by omega⟩ ?_ | refine ⟨_, (by assumption : RO.c _ _ _ = _), ?_⟩ | refine ⟨_, _, _, (by assumption : (_ : Option Obj) = _), ?_⟩ | refine ⟨_, _, _, (by assumption : RO.c _ _ _ = _), ?_⟩ | refine ⟨_, (by assumption : Row _ _ _ _), ?_⟩ | refine ⟨_, (by assumption : Cell _ _ _ _ _), ?_⟩ | refine ⟨_, _, _, (by assumption : Cell _ _ _ _ _), ?_⟩ | refine ⟨_, Or.inl (by assumption), ?_⟩ | refine ⟨_, _, _, Or.inl (by assumption), ?_⟩ | refine And.intro (ints_one _) ?_ | refine And.intro (by omega) ?_ | refine d1 ?_ | refine d2 ?_ | refine d3 ?_ | refine d4 ?_ | refine go G16 400 hC (by kernel_rfl) ?_); (conv => whnf)))
  intro b76 h27 l27 p76
  have i76 := dep_pub [(2, [1]), (4, [-3]), (4, [3])] p76 ⟨rfl, i70.mono (l25.trans (l26.trans l27)), rfl, i72.mono (l26.trans l27), rfl, i74.mono l27, trivial⟩ (by decide) rfl
  clear p76
  have l2327 := l24.trans (l25.trans (l26.trans l27))
  ((try (conv => whnf)); repeat ((first | refine And.intro ?_ True.intro | refine And.intro ⟨by omega, by omega⟩ ?_ | refine ⟨_, (by assumption : RO.c _ _ _ = _), ?_⟩ | refine ⟨_, _, _, (by assumption : (_ : Option Obj) = _), ?_⟩ | refine ⟨_, _, _, (by assumption : RO.c _ _ _ = _), ?_⟩ | refine ⟨_, (by assumption : Row _ _ _ _), ?_⟩ | refine ⟨_, (by assumption : Cell _ _ _ _ _), ?_⟩ | refine ⟨_, _, _, (by assumption : Cell _ _ _ _ _), ?_⟩ | refine ⟨_, Or.inl (by assumption), ?_⟩ | refine ⟨_, _, _, Or.inl (by assumption), ?_⟩ | refine And.intro (ints_one _) ?_ | refine And.intro (by omega) ?_ | refine d1 ?_ | refine d2 ?_ | refine d3 ?_ | refine d4 ?_ | refine go G16 400 hC (by kernel_rfl) ?_); (conv => whnf)))
  refine Con.mono (sameCopies_spec (d1.mono l2327) i76) ?_
  rintro _ h28 m28 l28 ⟨rfl, rfl⟩
  ((try (conv => whnf)); repeat ((first | refine And.intro ?_ True.intro | refine And.intro ⟨by omega, by omega⟩ ?_ | refine ⟨_, (by assumption : RO.c _ _ _ = _), ?_⟩ | refine ⟨_, _, _, (by assumption : (_ : Option Obj) = _), ?_⟩ | refine ⟨_, _, _, (by assumption : RO.c _ _ _ = _), ?_⟩ | refine ⟨_, (by assumption : Row _ _ _ _), ?_⟩ | refine ⟨_, (by assumption : Cell _ _ _ _ _), ?_⟩ | refine ⟨_, _, _, (by assumption : Cell _ _ _ _ _), ?_⟩ | refine ⟨_, Or.inl (by assumption), ?_⟩ | refine ⟨_, _, _, Or.inl (by assumption), ?_⟩ | refine And.intro (ints_one _) ?_ | refine And.intro (by omega) ?_ | refine d1 ?_ | refine d2 ?_ | refine d3 ?_ | refine d4 ?_ | refine go G16 400 hC (by kernel_rfl) ?_); (conv => whnf)))
  refine ⟨fun _ => ?_, fun hq => absurd hq (by decide)⟩
  ((try (conv => whnf)); repeat ((first | refine And.intro ?_ True.intro | refine And.intro ⟨by omega, by omega⟩ ?_ | refine ⟨_, (by assumption : RO.c _ _ _ = _), ?_⟩ | refine ⟨_, _, _, (by assumption : (_ : Option Obj) = _), ?_⟩ | refine ⟨_, _, _, (by assumption : RO.c _ _ _ = _), ?_⟩ | refine ⟨_, (by assumption : Row _ _ _ _), ?_⟩ | refine ⟨_, (by assumption : Cell _ _ _ _ _), ?_⟩ | refine ⟨_, _, _, (by assumption : Cell _ _ _ _ _), ?_⟩ | refine ⟨_, Or.inl (by assumption), ?_⟩ | refine ⟨_, _, _, Or.inl (by assumption), ?_⟩ | refine And.intro (ints_one _) ?_ | refine And.intro (by omega) ?_ | refine d1 ?_ | refine d2 ?_ | refine d3 ?_ | refine d4 ?_ | refine go G16 400 hC (by kernel_rfl) ?_); (conv => whnf)))
  refine ⟨fun _ => ?_, fun hq => absurd hq (by decide)⟩
  ((try (conv => whnf)); repeat ((first | refine And.intro ?_ True.intro | refine And.intro ⟨by omega, by omega⟩ ?_ | refine ⟨_, (by assumption : RO.c _ _ _ = _), ?_⟩ | refine ⟨_, _, _, (by assumption : (_ : Option Obj) = _), ?_⟩ | refine ⟨_, _, _, (by assumption : RO.c _ _ _ = _), ?_⟩ | refine ⟨_, (by assumption : Row _ _ _ _), ?_⟩ | refine ⟨_, (by assumption : Cell _ _ _ _ _), ?_⟩ | refine ⟨_, _, _, (by assumption : Cell _ _ _ _ _), ?_⟩ | refine ⟨_, Or.inl (by assumption), ?_⟩ | refine ⟨_, _, _, Or.inl (by assumption), ?_⟩ | refine And.intro (ints_one _) ?_ | refine And.intro (by omega) ?_ | refine d1 ?_ | refine d2 ?_ | refine d3 ?_ | refine d4 ?_ | refine go G16 400 hC (by kernel_rfl) ?_); (conv => whnf)))
  intro b85 h29 l29 p85
  have i85 := intS_pub [1, 2] p85 rfl (by decide)
  clear p85
  ((try (conv => whnf)); repeat ((first | refine And.intro ?_ True.intro | refine And.intro ⟨by omega, by omega⟩ ?_ | refine ⟨_, (by assumption : RO.c _ _ _ = _), ?_⟩ | refine ⟨_, _, _, (by assumption : (_ : Option Obj) = _), ?_⟩ | refine ⟨_, _, _, (by assumption : RO.c _ _ _ = _), ?_⟩ | refine ⟨_, (by assumption : Row _ _ _ _), ?_⟩ | refine ⟨_, (by assumption : Cell _ _ _ _ _), ?_⟩ | refine ⟨_, _, _, (by assumption : Cell _ _ _ _ _), ?_⟩ | refine ⟨_, Or.inl (by assumption), ?_⟩ | refine ⟨_, _, _, Or.inl (by assumption), ?_⟩ | refine And.intro (ints_one _) ?_ | refine And.intro (by omega) ?_ | refine d1 ?_ | refine d2 ?_ | refine d3 ?_ | refine d4 ?_ | refine go G16 400 hC (by kernel_rfl) ?_); (conv => whnf)))
  intro b86 h30 l30 p86
  have i86 := intS_pub [-1, -2] p86 rfl (by decide)
  clear p86
  ((try (conv => whnf)); repeat ((first | refine And.intro ?_ True.intro | refine And.intro ⟨by omega, by omega⟩ ?_ | refine ⟨_, (by assumption : RO.c _ _ _ = _), ?_⟩ | refine ⟨_, _, _, (by assumption : (_ : Option Obj) = _), ?_⟩ | refine ⟨_, _, _, (by assumption : RO.c _ _ _ = _), ?_⟩ | refine ⟨_, (by assumption : Row _ _ _ _), ?_⟩ | refine ⟨_, (by assumption : Cell _ _ _ _ _), ?_⟩ | refine ⟨_, _, _, (by assumption : Cell _ _ _ _ _), ?_⟩ | refine ⟨_, Or.inl (by assumption), ?_⟩ | refine ⟨_, _, _, Or.inl (by assumption), ?_⟩ | refine And.intro (ints_one _) ?_ | refine And.intro (by omega) ?_ | refine d1 ?_ | refine d2 ?_ | refine d3 ?_ | refine d4 ?_ | refine go G16 400 hC (by kernel_rfl) ?_); (conv => whnf)))
  intro b87 h31 l31 p87
  have i87 := intS_pub [1, 3] p87 rfl (by decide)
  clear p87
  ((try (conv => whnf)); repeat ((first | refine And.intro ?_ True.intro | refine And.intro ⟨by omega, by omega⟩ ?_ | refine ⟨_, (by assumption : RO.c _ _ _ = _), ?_⟩ | refine ⟨_, _, _, (by assumption : (_ : Option Obj) = _), ?_⟩ | refine ⟨_, _, _, (by assumption : RO.c _ _ _ = _), ?_⟩ | refine ⟨_, (by assumption : Row _ _ _ _), ?_⟩ | refine ⟨_, (by assumption : Cell _ _ _ _ _), ?_⟩ | refine ⟨_, _, _, (by assumption : Cell _ _ _ _ _), ?_⟩ | refine ⟨_, Or.inl (by assumption), ?_⟩ | refine ⟨_, _, _, Or.inl (by assumption), ?_⟩ | refine And.intro (ints_one _) ?_ | refine And.intro (by omega) ?_ | refine d1 ?_ | refine d2 ?_ | refine d3 ?_ | refine d4 ?_ | refine go G16 400 hC (by kernel_rfl) ?_); (conv => whnf)))
  intro b88 h32 l32 p88
  have i88 := intS_pub [-1, -3] p88 rfl (by decide)
  clear p88
  ((try (conv => whnf)); repeat ((first | refine And.intro ?_ True.intro | refine And.intro ⟨by omega, by omega⟩ ?_ | refine ⟨_, (by assumption : RO.c _ _ _ = _), ?_⟩ | refine ⟨_, _, _, (by assumption : (_ : Option Obj) = _), ?_⟩ | refine ⟨_, _, _, (by assumption : RO.c _ _ _ = _), ?_⟩ | refine ⟨_, (by assumption : Row _ _ _ _), ?_⟩ | refine ⟨_, (by assumption : Cell _ _ _ _ _), ?_⟩ | refine ⟨_, _, _, (by assumption : Cell _ _ _ _ _), ?_⟩ | refine ⟨_, Or.inl (by assumption), ?_⟩ | refine ⟨_, _, _, Or.inl (by assumption), ?_⟩ | refine And.intro (ints_one _) ?_ | refine And.intro (by omega) ?_ | refine d1 ?_ | refine d2 ?_ | refine d3 ?_ | refine d4 ?_ | refine go G16 400 hC (by kernel_rfl) ?_); (conv => whnf)))
  intro b89 h33 l33 p89
  have i89 := lls_pub [[1, 2], [-1, -2], [1, 3], [-1, -3]] p89 ⟨i85.mono (l30.trans (l31.trans (l32.trans l33))), i86.mono (l31.trans (l32.trans l33)), i87.mono (l32.trans l33), i88.mono l33, trivial⟩ (by decide)
  clear p89
  have l2333 := l2327.trans (l28.trans (l29.trans (l30.trans (l31.trans (l32.trans l33)))))
  ((try (conv => whnf)); repeat ((first | refine And.intro ?_ True.intro | refine And.intro ⟨by omega, by omega⟩ ?_ | refine ⟨_, (by assumption : RO.c _ _ _ = _), ?_⟩ | refine ⟨_, _, _, (by assumption : (_ : Option Obj) = _), ?_⟩ | refine ⟨_, _, _, (by assumption : RO.c _ _ _ = _), ?_⟩ | refine ⟨_, (by assumption : Row _ _ _ _), ?_⟩ | refine ⟨_, (by assumption : Cell _ _ _ _ _), ?_⟩ | refine ⟨_, _, _, (by assumption : Cell _ _ _ _ _), ?_⟩ | refine ⟨_, Or.inl (by assumption), ?_⟩ | refine ⟨_, _, _, Or.inl (by assumption), ?_⟩ | refine And.intro (ints_one _) ?_ | refine And.intro (by omega) ?_ | refine d1 ?_ | refine d2 ?_ | refine d3 ?_ | refine d4 ?_ | refine go G16 400 hC (by kernel_rfl) ?_); (conv => whnf)))
  refine Con.mono (sameAll_spec (d2.mono l2333) i89) ?_
  rintro _ h34 m34 l34 ⟨rfl, rfl⟩
  clear i70 i72 i74 i76 i85 i86 i87 i88 i89
  ((try (conv => whnf)); repeat ((first | refine And.intro ?_ True.intro | refine And.intro ⟨by omega, by omega⟩ ?_ | refine ⟨_, (by assumption : RO.c _ _ _ = _), ?_⟩ | refine ⟨_, _, _, (by assumption : (_ : Option Obj) = _), ?_⟩ | refine ⟨_, _, _, (by assumption : RO.c _ _ _ = _), ?_⟩ | refine ⟨_, (by assumption : Row _ _ _ _), ?_⟩ | refine ⟨_, (by assumption : Cell _ _ _ _ _), ?_⟩ | refine ⟨_, _, _, (by assumption : Cell _ _ _ _ _), ?_⟩ | refine ⟨_, Or.inl (by assumption), ?_⟩ | refine ⟨_, _, _, Or.inl (by assumption), ?_⟩ | refine And.intro (ints_one _) ?_ | refine And.intro (by omega) ?_ | refine d1 ?_ | refine d2 ?_ | refine d3 ?_ | refine d4 ?_ | refine go G16 400 hC (by kernel_rfl) ?_); (conv => whnf)))
  iterate 9 (all_goals try ((refine ⟨fun _ => ?_, fun hq => absurd hq (by decide)⟩) <;> ((try (conv => whnf)); repeat ((first | refine And.intro ?_ True.intro | refine And.intro ⟨by omega, by omega⟩ ?_ | refine ⟨_, (by assumption : RO.c _ _ _ = _), ?_⟩ | refine ⟨_, _, _, (by assumption : (_ : Option Obj) = _), ?_⟩ | refine ⟨_, _, _, (by assumption : RO.c _ _ _ = _), ?_⟩ | refine ⟨_, (by assumption : Row _ _ _ _), ?_⟩ | refine ⟨_, (by assumption : Cell _ _ _ _ _), ?_⟩ | refine ⟨_, _, _, (by assumption : Cell _ _ _ _ _), ?_⟩ | refine ⟨_, Or.inl (by assumption), ?_⟩ | refine ⟨_, _, _, Or.inl (by assumption), ?_⟩ | refine And.intro (ints_one _) ?_ | refine And.intro (by omega) ?_ | refine d1 ?_ | refine d2 ?_ | refine d3 ?_ | refine d4 ?_ | refine go G16 400 hC (by kernel_rfl) ?_); (conv => whnf)))))
  refine Con.mono two_spec ?_
  rintro _ h35 m35 l35 ⟨u5, v5, w5, rfl, a5, b5, c5, rfl⟩
  obtain ⟨_, _, rfl, -⟩ := a5.s
  obtain ⟨_, _, rfl⟩ := b5.sl
  obtain ⟨_, _, rfl⟩ := c5.sl
  ((try (conv => whnf)); repeat ((first | refine And.intro ?_ True.intro | refine And.intro ⟨by omega, by omega⟩ ?_ | refine ⟨_, (by assumption : RO.c _ _ _ = _), ?_⟩ | refine ⟨_, _, _, (by assumption : (_ : Option Obj) = _), ?_⟩ | refine ⟨_, _, _, (by assumption : RO.c _ _ _ = _), ?_⟩ | refine ⟨_, (by assumption : Row _ _ _ _), ?_⟩ | refine ⟨_, (by assumption : Cell _ _ _ _ _), ?_⟩ | refine ⟨_, _, _, (by assumption : Cell _ _ _ _ _), ?_⟩ | refine ⟨_, Or.inl (by assumption), ?_⟩ | refine ⟨_, _, _, Or.inl (by assumption), ?_⟩ | refine And.intro (ints_one _) ?_ | refine And.intro (by omega) ?_ | refine d1 ?_ | refine d2 ?_ | refine d3 ?_ | refine d4 ?_ | refine go G16 400 hC (by kernel_rfl) ?_); (conv => whnf)))
  refine Con.mono (acheck0_spec a5 b5 c5 (hP.mono (l2333.trans (l34.trans l35))) (by decide) (by decide) (by decide) (by decide) (by decide) (by decide) (by decide)) ?_
  rintro _ h36 m36 l36 ⟨rfl, rfl⟩
  ((try (conv => whnf)); repeat ((first | refine And.intro ?_ True.intro | refine And.intro ⟨by omega, by omega⟩ ?_ | refine ⟨_, (by assumption : RO.c _ _ _ = _), ?_⟩ | refine ⟨_, _, _, (by assumption : (_ : Option Obj) = _), ?_⟩ | refine ⟨_, _, _, (by assumption : RO.c _ _ _ = _), ?_⟩ | refine ⟨_, (by assumption : Row _ _ _ _), ?_⟩ | refine ⟨_, (by assumption : Cell _ _ _ _ _), ?_⟩ | refine ⟨_, _, _, (by assumption : Cell _ _ _ _ _), ?_⟩ | refine ⟨_, Or.inl (by assumption), ?_⟩ | refine ⟨_, _, _, Or.inl (by assumption), ?_⟩ | refine And.intro (ints_one _) ?_ | refine And.intro (by omega) ?_ | refine d1 ?_ | refine d2 ?_ | refine d3 ?_ | refine d4 ?_ | refine go G16 400 hC (by kernel_rfl) ?_); (conv => whnf)))
  exact ⟨rfl, rfl⟩
end Go.Proofs.YtoefoaabnjeofaaGreat
namespace Go.Proofs.YtoefoaabnjeofaaGreat
open Go.SX
set_option maxHeartbeats 4000000
set_option maxRecDepth 20000
/-- What great lets through. -/
structure Fine (univ : List Int) (ex : List Cp) (cls pts : List (List Int)) : Prop where
  ncl : cls.length ≤ 40
  nv : univ.length + ex.length ≤ 20
  npt : pts.length ≤ 20
  ntot : tot cls ≤ 200
  lpt : ∀ p ∈ pts, p.length ≤ 40
def G15 : Gv := ⟨[], [], []⟩
theorem great_spec {u v w r : Value} {univ : List Int} {ex : List Cp} {cls pts : List (List Int)} {h : RO} {m : Hp} (ha : IntS h u univ) (hb : DepS h v ex) (hc : LLS h w cls) (hp : LLS h r pts) :
    Con Tryz.prog 15 [.agg #[u, v, w], r] h m fun e h' m' => (∃ b, e = .returned (.bool b) ∧ (b = false → Fine univ ex cls pts)) ∧ m' = m := by
  obtain ⟨ua, uc, rfl, -⟩ := ha.s
  obtain ⟨va, vc, rfl⟩ := hb.sl
  obtain ⟨wa, wc, rfl⟩ := hc.sl
  obtain ⟨ra, rc, rfl⟩ := hp.sl
  have l1 := ha.len
  have l2 := hb.len
  have l3 := hc.len
  have l4 := hp.len
  have hw : IntKind.i64.wrap ((univ.length : Int) + (ex.length : Int)) = ((univ.length + ex.length : Nat) : Int) := by rw [w64 (by omega) (by omega)]; omega
  refine fn_of (nt := 72) T Tryz.func15 rfl (by kernel_rfl) Tryz.ntmps15 (by simp) T_ok T_mixed fun C hC => ?_
  simp only [Tryz.f15, argFr, Nat.zero_add, Nat.reduceAdd] at hC ⊢
  ((try (conv => whnf)); repeat ((first | refine And.intro ?_ True.intro | refine And.intro ⟨by omega, by omega⟩ ?_ | refine ⟨_, (by assumption : RO.c _ _ _ = _), ?_⟩ | refine ⟨_, _, _, (by assumption : (_ : Option Obj) = _), ?_⟩ | refine ⟨_, _, _, (by assumption : RO.c _ _ _ = _), ?_⟩ | refine ⟨_, (by assumption : Row _ _ _ _), ?_⟩ | refine ⟨_, (by assumption : Cell _ _ _ _ _), ?_⟩ | refine ⟨_, _, _, (by assumption : Cell _ _ _ _ _), ?_⟩ | refine ⟨_, Or.inl (by assumption), ?_⟩ | refine ⟨_, _, _, Or.inl (by assumption), ?_⟩ | refine And.intro (ints_one _) ?_ | refine And.intro (by omega) ?_ | refine d1 ?_ | refine d2 ?_ | refine d3 ?_ | refine d4 ?_ | refine go G15 400 hC (by kernel_rfl) ?_); (conv => whnf)))
  refine ⟨fun q1 => ?_, fun _ => ?_⟩
  rotate_left
  · ((try (conv => whnf)); repeat ((first | refine And.intro ?_ True.intro | refine And.intro ⟨by omega, by omega⟩ ?_ | refine ⟨_, (by assumption : RO.c _ _ _ = _), ?_⟩ | refine ⟨_, _, _, (by assumption : (_ : Option Obj) = _), ?_⟩ | refine ⟨_, _, _, (by assumption : RO.c _ _ _ = _), ?_⟩ | refine ⟨_, (by assumption : Row _ _ _ _), ?_⟩ | refine ⟨_, (by assumption : Cell _ _ _ _ _), ?_⟩ | refine ⟨_, _, _, (by assumption : Cell _ _ _ _ _), ?_⟩ | refine ⟨_, Or.inl (by assumption), ?_⟩ | refine ⟨_, _, _, Or.inl (by assumption), ?_⟩ | refine And.intro (ints_one _) ?_ | refine And.intro (by omega) ?_ | refine d1 ?_ | refine d2 ?_ | refine d3 ?_ | refine d4 ?_ | refine go G15 400 hC (by kernel_rfl) ?_); (conv => whnf)))
    exact ⟨⟨_, rfl, fun h => by cases h⟩, rfl⟩
  ((try (conv => whnf)); repeat ((first | refine And.intro ?_ True.intro | refine And.intro ⟨by omega, by omega⟩ ?_ | refine ⟨_, (by assumption : RO.c _ _ _ = _), ?_⟩ | refine ⟨_, _, _, (by assumption : (_ : Option Obj) = _), ?_⟩ | refine ⟨_, _, _, (by assumption : RO.c _ _ _ = _), ?_⟩ | refine ⟨_, (by assumption : Row _ _ _ _), ?_⟩ | refine ⟨_, (by assumption : Cell _ _ _ _ _), ?_⟩ | refine ⟨_, _, _, (by assumption : Cell _ _ _ _ _), ?_⟩ | refine ⟨_, Or.inl (by assumption), ?_⟩ | refine ⟨_, _, _, Or.inl (by assumption), ?_⟩ | refine And.intro (ints_one _) ?_ | refine And.intro (by omega) ?_ | refine d1 ?_ | refine d2 ?_ | refine d3 ?_ | refine d4 ?_ | refine go G15 400 hC (by kernel_rfl) ?_); (conv => whnf)))
  refine ⟨fun q2 => ?_, fun _ => ?_⟩
  rotate_left
  · ((try (conv => whnf)); repeat ((first | refine And.intro ?_ True.intro | refine And.intro ⟨by omega, by omega⟩ ?_ | refine ⟨_, (by assumption : RO.c _ _ _ = _), ?_⟩ | refine ⟨_, _, _, (by assumption : (_ : Option Obj) = _), ?_⟩ | refine ⟨_, _, _, (by assumption : RO.c _ _ _ = _), ?_⟩ | refine ⟨_, (by assumption : Row _ _ _ _), ?_⟩ | refine ⟨_, (by assumption : Cell _ _ _ _ _), ?_⟩ | refine ⟨_, _, _, (by assumption : Cell _ _ _ _ _), ?_⟩ | refine ⟨_, Or.inl (by assumption), ?_⟩ | refine ⟨_, _, _, Or.inl (by assumption), ?_⟩ | refine And.intro (ints_one _) ?_ | refine And.intro (by omega) ?_ | refine d1 ?_ | refine d2 ?_ | refine d3 ?_ | refine d4 ?_ | refine go G15 400 hC (by kernel_rfl) ?_); (conv => whnf)))
    exact ⟨⟨_, rfl, fun h => by cases h⟩, rfl⟩
  ((try (conv => whnf)); repeat ((first | refine And.intro ?_ True.intro | refine And.intro ⟨by omega, by omega⟩ ?_ | refine ⟨_, (by assumption : RO.c _ _ _ = _), ?_⟩ | refine ⟨_, _, _, (by assumption : (_ : Option Obj) = _), ?_⟩ | refine ⟨_, _, _, (by assumption : RO.c _ _ _ = _), ?_⟩ | refine ⟨_, (by assumption : Row _ _ _ _), ?_⟩ | refine ⟨_, (by assumption : Cell _ _ _ _ _), ?_⟩ | refine ⟨_, _, _, (by assumption : Cell _ _ _ _ _), ?_⟩ | refine ⟨_, Or.inl (by assumption), ?_⟩ | refine ⟨_, _, _, Or.inl (by assumption), ?_⟩ | refine And.intro (ints_one _) ?_ | refine And.intro (by omega) ?_ | refine d1 ?_ | refine d2 ?_ | refine d3 ?_ | refine d4 ?_ | refine go G15 400 hC (by kernel_rfl) ?_); (conv => whnf)))
  refine ⟨fun _ => ?_, fun q3 => ?_⟩
  · ((try (conv => whnf)); repeat ((first | refine And.intro ?_ True.intro | refine And.intro ⟨by omega, by omega⟩ ?_ | refine ⟨_, (by assumption : RO.c _ _ _ = _), ?_⟩ | refine ⟨_, _, _, (by assumption : (_ : Option Obj) = _), ?_⟩ | refine ⟨_, _, _, (by assumption : RO.c _ _ _ = _), ?_⟩ | refine ⟨_, (by assumption : Row _ _ _ _), ?_⟩ | refine ⟨_, (by assumption : Cell _ _ _ _ _), ?_⟩ | refine ⟨_, _, _, (by assumption : Cell _ _ _ _ _), ?_⟩ | refine ⟨_, Or.inl (by assumption), ?_⟩ | refine ⟨_, _, _, Or.inl (by assumption), ?_⟩ | refine And.intro (ints_one _) ?_ | refine And.intro (by omega) ?_ | refine d1 ?_ | refine d2 ?_ | refine d3 ?_ | refine d4 ?_ | refine go G15 400 hC (by kernel_rfl) ?_); (conv => whnf)))
    exact ⟨⟨_, rfl, fun h => by cases h⟩, rfl⟩
  ((try (conv => whnf)); repeat ((first | refine And.intro ?_ True.intro | refine And.intro ⟨by omega, by omega⟩ ?_ | refine ⟨_, (by assumption : RO.c _ _ _ = _), ?_⟩ | refine ⟨_, _, _, (by assumption : (_ : Option Obj) = _), ?_⟩ | refine ⟨_, _, _, (by assumption : RO.c _ _ _ = _), ?_⟩ | refine ⟨_, (by assumption : Row _ _ _ _), ?_⟩ | refine ⟨_, (by assumption : Cell _ _ _ _ _), ?_⟩ | refine ⟨_, _, _, (by assumption : Cell _ _ _ _ _), ?_⟩ | refine ⟨_, Or.inl (by assumption), ?_⟩ | refine ⟨_, _, _, Or.inl (by assumption), ?_⟩ | refine And.intro (ints_one _) ?_ | refine And.intro (by omega) ?_ | refine d1 ?_ | refine d2 ?_ | refine d3 ?_ | refine d4 ?_ | refine go G15 400 hC (by kernel_rfl) ?_); (conv => whnf)))
  rw [hw] at q2
  replace q1 := of_decide_eq_false q1
  replace q2 := of_decide_eq_false q2
  replace q3 := of_decide_eq_false q3
  refine halt (sx_loopB (X := Nat) [1, 2] [2] (fun i => [(5, .v (.int .i64 (tot (cls.take i) : Nat))), (6, .v (.int .i64 i))]) (fun _ => []) (fun i h' m' => i ≤ cls.length ∧ tot (cls.take i) ≤ i * 17592186044416 ∧ h' = h ∧ m' = m) (fun i => cls.length - i) 0 (by repeat (first | exact Keep.nil | apply Keep.cons rfl | apply Keep.skip rfl)) (by repeat (first | exact KeepB.nil | apply KeepB.cons rfl)) ⟨[(2, 2)], ⟨by simp [sinj], by repeat (first | exact trivial | refine ⟨rfl, ?_⟩ | refine ⟨⟨rfl, rfl⟩, ?_⟩ | refine ⟨⟨rfl, rfl, rfl⟩, ?_⟩ | refine ⟨stepI (by omega), ?_⟩ | refine ⟨by assumption, ?_⟩), by repeat (first | exact trivial | refine ⟨rfl, ?_⟩ | refine ⟨⟨rfl, rfl, rfl⟩, ?_⟩ | refine ⟨by assumption, ?_⟩)⟩⟩ ⟨by omega, by simp [tot], rfl, rfl⟩ ?_)
  rintro i h m - ⟨hi, hti, rfl, rfl⟩
  ((try (conv => whnf)); repeat ((first | refine And.intro ?_ True.intro | refine And.intro ⟨by omega, by omega⟩ ?_ | refine ⟨_, (by assumption : RO.c _ _ _ = _), ?_⟩ | refine ⟨_, _, _, (by assumption : (_ : Option Obj) = _), ?_⟩ | refine ⟨_, _, _, (by assumption : RO.c _ _ _ = _), ?_⟩ | refine ⟨_, (by assumption : Row _ _ _ _), ?_⟩ | refine ⟨_, (by assumption : Cell _ _ _ _ _), ?_⟩ | refine ⟨_, _, _, (by assumption : Cell _ _ _ _ _), ?_⟩ | refine ⟨_, Or.inl (by assumption), ?_⟩ | refine ⟨_, _, _, Or.inl (by assumption), ?_⟩ | refine And.intro (ints_one _) ?_ | refine And.intro (by omega) ?_ | refine d1 ?_ | refine d2 ?_ | refine d3 ?_ | refine d4 ?_ | refine go G15 400 hC (by kernel_rfl) ?_); (conv => whnf)))
  refine ⟨fun hlt => ?_, fun hge => ?_⟩
  · have hlt : i < cls.length := by simpa using hlt
    obtain ⟨p, q, rfl, hcc⟩ := hc.get hlt
    obtain ⟨a1, k1, c1, hi1⟩ := hcc i hlt
    have hl1 := hi1.len
    have htk := tot_take hlt
    have hw2 : IntKind.i64.wrap (((tot (cls.take i) : Nat) : Int) + ((gl cls i).length : Int)) = ((tot (cls.take (i + 1)) : Nat) : Int) := by rw [htk, w64 (by omega) (by omega)]; omega
    ((try (conv => whnf)); repeat ((first | refine And.intro ?_ True.intro | refine And.intro ⟨by omega, by omega⟩ ?_ | refine ⟨_, (by assumption : RO.c _ _ _ = _), ?_⟩ | refine ⟨_, _, _, (by assumption : (_ : Option Obj) = _), ?_⟩ | refine ⟨_, _, _, (by assumption : RO.c _ _ _ = _), ?_⟩ | refine ⟨_, (by assumption : Row _ _ _ _), ?_⟩ | refine ⟨_, (by assumption : Cell _ _ _ _ _), ?_⟩ | refine ⟨_, _, _, (by assumption : Cell _ _ _ _ _), ?_⟩ | refine ⟨_, Or.inl (by assumption), ?_⟩ | refine ⟨_, _, _, Or.inl (by assumption), ?_⟩ | refine And.intro (ints_one _) ?_ | refine And.intro (by omega) ?_ | refine d1 ?_ | refine d2 ?_ | refine d3 ?_ | refine d4 ?_ | refine go G15 400 hC (by kernel_rfl) ?_); (conv => whnf)))
    exact halt ⟨i + 1, [(2, 2)], ⟨by simp [sinj], ⟨by rw [← hw2]; rfl, by repeat (first | exact trivial | exact stepI (by omega) | refine ⟨rfl, ?_⟩ | refine ⟨stepI (by omega), ?_⟩ | refine ⟨⟨rfl, rfl⟩, ?_⟩)⟩, rfl, trivial⟩, RO.le.refl _, ⟨hlt, by omega, rfl, rfl⟩, by omega⟩
  have hge : i = cls.length := by simp at hge; omega
  subst hge
  rw [List.take_length] at hti ⊢
  ((try (conv => whnf)); repeat ((first | refine And.intro ?_ True.intro | refine And.intro ⟨by omega, by omega⟩ ?_ | refine ⟨_, (by assumption : RO.c _ _ _ = _), ?_⟩ | refine ⟨_, _, _, (by assumption : (_ : Option Obj) = _), ?_⟩ | refine ⟨_, _, _, (by assumption : RO.c _ _ _ = _), ?_⟩ | refine ⟨_, (by assumption : Row _ _ _ _), ?_⟩ | refine ⟨_, (by assumption : Cell _ _ _ _ _), ?_⟩ | refine ⟨_, _, _, (by assumption : Cell _ _ _ _ _), ?_⟩ | refine ⟨_, Or.inl (by assumption), ?_⟩ | refine ⟨_, _, _, Or.inl (by assumption), ?_⟩ | refine And.intro (ints_one _) ?_ | refine And.intro (by omega) ?_ | refine d1 ?_ | refine d2 ?_ | refine d3 ?_ | refine d4 ?_ | refine go G15 400 hC (by kernel_rfl) ?_); (conv => whnf)))
  refine halt (sx_loopB (X := Nat) [1, 2, 5] [2] (fun i => [(7, .v (.int .i64 i))]) (fun _ => []) (fun i h' m' => i ≤ ex.length ∧ h' = h ∧ m' = m) (fun i => ex.length - i) 0 (by repeat (first | exact Keep.nil | apply Keep.cons rfl | apply Keep.skip rfl)) (by repeat (first | exact KeepB.nil | apply KeepB.cons rfl)) ⟨[(2, 2)], ⟨by simp [sinj], by repeat (first | exact trivial | refine ⟨rfl, ?_⟩ | refine ⟨⟨rfl, rfl⟩, ?_⟩ | refine ⟨⟨rfl, rfl, rfl⟩, ?_⟩ | refine ⟨stepI (by omega), ?_⟩ | refine ⟨by assumption, ?_⟩), by repeat (first | exact trivial | refine ⟨rfl, ?_⟩ | refine ⟨⟨rfl, rfl, rfl⟩, ?_⟩ | refine ⟨by assumption, ?_⟩)⟩⟩ ⟨by omega, rfl, rfl⟩ ?_)
  rintro i h m - ⟨hi, rfl, rfl⟩
  ((try (conv => whnf)); repeat ((first | refine And.intro ?_ True.intro | refine And.intro ⟨by omega, by omega⟩ ?_ | refine ⟨_, (by assumption : RO.c _ _ _ = _), ?_⟩ | refine ⟨_, _, _, (by assumption : (_ : Option Obj) = _), ?_⟩ | refine ⟨_, _, _, (by assumption : RO.c _ _ _ = _), ?_⟩ | refine ⟨_, (by assumption : Row _ _ _ _), ?_⟩ | refine ⟨_, (by assumption : Cell _ _ _ _ _), ?_⟩ | refine ⟨_, _, _, (by assumption : Cell _ _ _ _ _), ?_⟩ | refine ⟨_, Or.inl (by assumption), ?_⟩ | refine ⟨_, _, _, Or.inl (by assumption), ?_⟩ | refine And.intro (ints_one _) ?_ | refine And.intro (by omega) ?_ | refine d1 ?_ | refine d2 ?_ | refine d3 ?_ | refine d4 ?_ | refine go G15 400 hC (by kernel_rfl) ?_); (conv => whnf)))
  refine ⟨fun hlt => ?_, fun hge => ?_⟩
  · have hlt : i < ex.length := by simpa using hlt
    obtain ⟨p, q, rfl, hcc⟩ := hb.get hlt
    obtain ⟨c0, a1, k1, c1, hi1⟩ := hcc i hlt
    ((try (conv => whnf)); repeat ((first | refine And.intro ?_ True.intro | refine And.intro ⟨by omega, by omega⟩ ?_ | refine ⟨_, (by assumption : RO.c _ _ _ = _), ?_⟩ | refine ⟨_, _, _, (by assumption : (_ : Option Obj) = _), ?_⟩ | refine ⟨_, _, _, (by assumption : RO.c _ _ _ = _), ?_⟩ | refine ⟨_, (by assumption : Row _ _ _ _), ?_⟩ | refine ⟨_, (by assumption : Cell _ _ _ _ _), ?_⟩ | refine ⟨_, _, _, (by assumption : Cell _ _ _ _ _), ?_⟩ | refine ⟨_, Or.inl (by assumption), ?_⟩ | refine ⟨_, _, _, Or.inl (by assumption), ?_⟩ | refine And.intro (ints_one _) ?_ | refine And.intro (by omega) ?_ | refine d1 ?_ | refine d2 ?_ | refine d3 ?_ | refine d4 ?_ | refine go G15 400 hC (by kernel_rfl) ?_); (conv => whnf)))
    refine ⟨fun _ => ?_, fun q4 => ?_⟩
    · ((try (conv => whnf)); repeat ((first | refine And.intro ?_ True.intro | refine And.intro ⟨by omega, by omega⟩ ?_ | refine ⟨_, (by assumption : RO.c _ _ _ = _), ?_⟩ | refine ⟨_, _, _, (by assumption : (_ : Option Obj) = _), ?_⟩ | refine ⟨_, _, _, (by assumption : RO.c _ _ _ = _), ?_⟩ | refine ⟨_, (by assumption : Row _ _ _ _), ?_⟩ | refine ⟨_, (by assumption : Cell _ _ _ _ _), ?_⟩ | refine ⟨_, _, _, (by assumption : Cell _ _ _ _ _), ?_⟩ | refine ⟨_, Or.inl (by assumption), ?_⟩ | refine ⟨_, _, _, Or.inl (by assumption), ?_⟩ | refine And.intro (ints_one _) ?_ | refine And.intro (by omega) ?_ | refine d1 ?_ | refine d2 ?_ | refine d3 ?_ | refine d4 ?_ | refine go G15 400 hC (by kernel_rfl) ?_); (conv => whnf)))
      exact ⟨⟨_, rfl, fun h => by cases h⟩, rfl⟩
    · ((try (conv => whnf)); repeat ((first | refine And.intro ?_ True.intro | refine And.intro ⟨by omega, by omega⟩ ?_ | refine ⟨_, (by assumption : RO.c _ _ _ = _), ?_⟩ | refine ⟨_, _, _, (by assumption : (_ : Option Obj) = _), ?_⟩ | refine ⟨_, _, _, (by assumption : RO.c _ _ _ = _), ?_⟩ | refine ⟨_, (by assumption : Row _ _ _ _), ?_⟩ | refine ⟨_, (by assumption : Cell _ _ _ _ _), ?_⟩ | refine ⟨_, _, _, (by assumption : Cell _ _ _ _ _), ?_⟩ | refine ⟨_, Or.inl (by assumption), ?_⟩ | refine ⟨_, _, _, Or.inl (by assumption), ?_⟩ | refine And.intro (ints_one _) ?_ | refine And.intro (by omega) ?_ | refine d1 ?_ | refine d2 ?_ | refine d3 ?_ | refine d4 ?_ | refine go G15 400 hC (by kernel_rfl) ?_); (conv => whnf)))
      exact halt ⟨i + 1, [(2, 2)], ⟨by simp [sinj], by repeat (first | exact trivial | refine ⟨rfl, ?_⟩ | refine ⟨⟨rfl, rfl⟩, ?_⟩ | refine ⟨⟨rfl, rfl, rfl⟩, ?_⟩ | refine ⟨stepI (by omega), ?_⟩ | refine ⟨by assumption, ?_⟩), by repeat (first | exact trivial | refine ⟨rfl, ?_⟩ | refine ⟨⟨rfl, rfl, rfl⟩, ?_⟩ | refine ⟨by assumption, ?_⟩)⟩, RO.le.refl _, ⟨hlt, rfl, rfl⟩, by omega⟩
  ((try (conv => whnf)); repeat ((first | refine And.intro ?_ True.intro | refine And.intro ⟨by omega, by omega⟩ ?_ | refine ⟨_, (by assumption : RO.c _ _ _ = _), ?_⟩ | refine ⟨_, _, _, (by assumption : (_ : Option Obj) = _), ?_⟩ | refine ⟨_, _, _, (by assumption : RO.c _ _ _ = _), ?_⟩ | refine ⟨_, (by assumption : Row _ _ _ _), ?_⟩ | refine ⟨_, (by assumption : Cell _ _ _ _ _), ?_⟩ | refine ⟨_, _, _, (by assumption : Cell _ _ _ _ _), ?_⟩ | refine ⟨_, Or.inl (by assumption), ?_⟩ | refine ⟨_, _, _, Or.inl (by assumption), ?_⟩ | refine And.intro (ints_one _) ?_ | refine And.intro (by omega) ?_ | refine d1 ?_ | refine d2 ?_ | refine d3 ?_ | refine d4 ?_ | refine go G15 400 hC (by kernel_rfl) ?_); (conv => whnf)))
  refine halt (sx_loopB (X := Nat) [1, 5] [] (fun i => [(8, .v (.int .i64 i))]) (fun _ => []) (fun i h' m' => i ≤ pts.length ∧ (∀ j, j < i → (gl pts j).length ≤ 40) ∧ h' = h ∧ m' = m) (fun i => pts.length - i) 0 (by repeat (first | exact Keep.nil | apply Keep.cons rfl | apply Keep.skip rfl)) (by repeat (first | exact KeepB.nil | apply KeepB.cons rfl)) ⟨[], ⟨by simp [sinj], by repeat (first | exact trivial | refine ⟨rfl, ?_⟩ | refine ⟨⟨rfl, rfl⟩, ?_⟩ | refine ⟨⟨rfl, rfl, rfl⟩, ?_⟩ | refine ⟨stepI (by omega), ?_⟩ | refine ⟨by assumption, ?_⟩), by repeat (first | exact trivial | refine ⟨rfl, ?_⟩ | refine ⟨⟨rfl, rfl, rfl⟩, ?_⟩ | refine ⟨by assumption, ?_⟩)⟩⟩ ⟨by omega, by simp, rfl, rfl⟩ ?_)
  rintro i h m - ⟨hi, hpi, rfl, rfl⟩
  ((try (conv => whnf)); repeat ((first | refine And.intro ?_ True.intro | refine And.intro ⟨by omega, by omega⟩ ?_ | refine ⟨_, (by assumption : RO.c _ _ _ = _), ?_⟩ | refine ⟨_, _, _, (by assumption : (_ : Option Obj) = _), ?_⟩ | refine ⟨_, _, _, (by assumption : RO.c _ _ _ = _), ?_⟩ | refine ⟨_, (by assumption : Row _ _ _ _), ?_⟩ | refine ⟨_, (by assumption : Cell _ _ _ _ _), ?_⟩ | refine ⟨_, _, _, (by assumption : Cell _ _ _ _ _), ?_⟩ | refine ⟨_, Or.inl (by assumption), ?_⟩ | refine ⟨_, _, _, Or.inl (by assumption), ?_⟩ | refine And.intro (ints_one _) ?_ | refine And.intro (by omega) ?_ | refine d1 ?_ | refine d2 ?_ | refine d3 ?_ | refine d4 ?_ | refine go G15 400 hC (by kernel_rfl) ?_); (conv => whnf)))
  refine ⟨fun hlt => ?_, fun hge => ?_⟩
  · have hlt : i < pts.length := by simpa using hlt
    obtain ⟨p, q, rfl, hcc⟩ := hp.get hlt
    obtain ⟨a1, k1, c1, hi1⟩ := hcc i hlt
    ((try (conv => whnf)); repeat ((first | refine And.intro ?_ True.intro | refine And.intro ⟨by omega, by omega⟩ ?_ | refine ⟨_, (by assumption : RO.c _ _ _ = _), ?_⟩ | refine ⟨_, _, _, (by assumption : (_ : Option Obj) = _), ?_⟩ | refine ⟨_, _, _, (by assumption : RO.c _ _ _ = _), ?_⟩ | refine ⟨_, (by assumption : Row _ _ _ _), ?_⟩ | refine ⟨_, (by assumption : Cell _ _ _ _ _), ?_⟩ | refine ⟨_, _, _, (by assumption : Cell _ _ _ _ _), ?_⟩ | refine ⟨_, Or.inl (by assumption), ?_⟩ | refine ⟨_, _, _, Or.inl (by assumption), ?_⟩ | refine And.intro (ints_one _) ?_ | refine And.intro (by omega) ?_ | refine d1 ?_ | refine d2 ?_ | refine d3 ?_ | refine d4 ?_ | refine go G15 400 hC (by kernel_rfl) ?_); (conv => whnf)))
    refine ⟨fun _ => ?_, fun q4 => ?_⟩
    · ((try (conv => whnf)); repeat ((first | refine And.intro ?_ True.intro | refine And.intro ⟨by omega, by omega⟩ ?_ | refine ⟨_, (by assumption : RO.c _ _ _ = _), ?_⟩ | refine ⟨_, _, _, (by assumption : (_ : Option Obj) = _), ?_⟩ | refine ⟨_, _, _, (by assumption : RO.c _ _ _ = _), ?_⟩ | refine ⟨_, (by assumption : Row _ _ _ _), ?_⟩ | refine ⟨_, (by assumption : Cell _ _ _ _ _), ?_⟩ | refine ⟨_, _, _, (by assumption : Cell _ _ _ _ _), ?_⟩ | refine ⟨_, Or.inl (by assumption), ?_⟩ | refine ⟨_, _, _, Or.inl (by assumption), ?_⟩ | refine And.intro (ints_one _) ?_ | refine And.intro (by omega) ?_ | refine d1 ?_ | refine d2 ?_ | refine d3 ?_ | refine d4 ?_ | refine go G15 400 hC (by kernel_rfl) ?_); (conv => whnf)))
      exact ⟨⟨_, rfl, fun h => by cases h⟩, rfl⟩
    · replace q4 := of_decide_eq_false q4
      ((try (conv => whnf)); repeat ((first | refine And.intro ?_ True.intro | refine And.intro ⟨by omega, by omega⟩ ?_ | refine ⟨_, (by assumption : RO.c _ _ _ = _), ?_⟩ | refine ⟨_, _, _, (by assumption : (_ : Option Obj) = _), ?_⟩ | refine ⟨_, _, _, (by assumption : RO.c _ _ _ = _), ?_⟩ | refine ⟨_, (by assumption : Row _ _ _ _), ?_⟩ | refine ⟨_, (by assumption : Cell _ _ _ _ _), ?_⟩ | refine ⟨_, _, _, (by assumption : Cell _ _ _ _ _), ?_⟩ | refine ⟨_, Or.inl (by assumption), ?_⟩ | refine ⟨_, _, _, Or.inl (by assumption), ?_⟩ | refine And.intro (ints_one _) ?_ | refine And.intro (by omega) ?_ | refine d1 ?_ | refine d2 ?_ | refine d3 ?_ | refine d4 ?_ | refine go G15 400 hC (by kernel_rfl) ?_); (conv => whnf)))
      exact halt ⟨i + 1, [], ⟨by simp [sinj], by repeat (first | exact trivial | refine ⟨rfl, ?_⟩ | refine ⟨⟨rfl, rfl⟩, ?_⟩ | refine ⟨⟨rfl, rfl, rfl⟩, ?_⟩ | refine ⟨stepI (by omega), ?_⟩ | refine ⟨by assumption, ?_⟩), by repeat (first | exact trivial | refine ⟨rfl, ?_⟩ | refine ⟨⟨rfl, rfl, rfl⟩, ?_⟩ | refine ⟨by assumption, ?_⟩)⟩, RO.le.refl _, ⟨hlt, fun j hj => by by_cases e : j = i; (subst e; omega); exact hpi j (by omega), rfl, rfl⟩, by omega⟩
  have hge : i = pts.length := by simp at hge; omega
  subst hge
  ((try (conv => whnf)); repeat ((first | refine And.intro ?_ True.intro | refine And.intro ⟨by omega, by omega⟩ ?_ | refine ⟨_, (by assumption : RO.c _ _ _ = _), ?_⟩ | refine ⟨_, _, _, (by assumption : (_ : Option Obj) = _), ?_⟩ | refine ⟨_, _, _, (by assumption : RO.c _ _ _ = _), ?_⟩ | refine ⟨_, (by assumption : Row _ _ _ _), ?_⟩ | refine ⟨_, (by assumption : Cell _ _ _ _ _), ?_⟩ | refine ⟨_, _, _, (by assumption : Cell _ _ _ _ _), ?_⟩ | refine ⟨_, Or.inl (by assumption), ?_⟩ | refine ⟨_, _, _, Or.inl (by assumption), ?_⟩ | refine And.intro (ints_one _) ?_ | refine And.intro (by omega) ?_ | refine d1 ?_ | refine d2 ?_ | refine d3 ?_ | refine d4 ?_ | refine go G15 400 hC (by kernel_rfl) ?_); (conv => whnf)))
  refine ⟨⟨_, rfl, fun hq => ?_⟩, rfl⟩
  replace hq := of_decide_eq_false hq
  exact ⟨by omega, by omega, by omega, by omega, fun p hp => by obtain ⟨j, hj, rfl⟩ := mem_gl hp; exact hpi j hj⟩
end Go.Proofs.YtoefoaabnjeofaaGreat
namespace Go.Proofs.YtoefoaabnjeofaaGreat
open Go.SX
set_option maxHeartbeats 4000000
set_option maxRecDepth 20000
theorem mem_tot {ls : List (List Int)} {c : List Int} (h : c ∈ ls) : c.length ≤ tot ls := by
  induction ls with
  | nil => cases h
  | cons a ls ih =>
    have e : tot (a :: ls) = a.length + tot ls := by simp [tot]
    rcases List.mem_cons.1 h with rfl | h
    · omega
    · have := ih h; omega
theorem Row_take {h : RO} {sz n c : Nat} {a : Option Addr} {cs : List Value} (r : Row h sz (.slice a n c) cs) {i : Nat} (hi : i ≤ n) : Row h sz (.slice (slA a 0 c sz) i c) (cs.take (i * sz)) := by
  obtain ⟨a2, n2, c2, e2, h1, h2, h3⟩ := r
  cases e2
  have hm := Nat.mul_le_mul_right sz hi
  refine ⟨slA a 0 c sz, i, c, rfl, by simp; omega, by omega, ?_⟩
  by_cases hc : c = 0
  · exact .inl ⟨by omega, hc⟩
  · rcases h3 with h3 | ⟨b, off, e, h3⟩
    · omega
    · refine .inr ⟨b, off, by subst e; simp [slA, hc, Addr.add], fun j u hu => h3 j u ?_⟩
      rw [List.getElem?_take] at hu
      split at hu
      · exact hu
      · cases hu
theorem LLS.take {h : RO} {n c : Nat} {a : Option Addr} {ls : List (List Int)} (r : LLS h (.slice a n c) ls) {i : Nat} (hi : i ≤ ls.length) : LLS h (.slice (slA a 0 c 1) i c) (ls.take i) := by
  obtain ⟨⟨a', c', vs, e, q, k⟩, hl⟩ := r
  cases e
  have ht : (ls.take i).length = i := by simp; omega
  refine ⟨⟨slA a 0 c 1, c, vs.take (i * 1), by rw [ht], by rw [ht]; exact Row_take q hi, fun j l hj => ?_⟩, by omega⟩
  rw [List.getElem?_take] at hj
  split at hj
  · rename_i hji
    obtain ⟨u, e, hu⟩ := k j l hj
    exact ⟨u, by rw [List.getElem?_take, if_pos (by omega)]; exact e, hu⟩
  · cases hj
theorem DepS.take {h : RO} {n c : Nat} {a : Option Addr} {ls : List Cp} (r : DepS h (.slice a n c) ls) {i : Nat} (hi : i ≤ ls.length) : DepS h (.slice (slA a 0 c 2) i c) (ls.take i) := by
  obtain ⟨⟨a', c', vs, e, q, k⟩, hl, hr⟩ := r
  cases e
  have ht : (ls.take i).length = i := by simp; omega
  refine ⟨⟨slA a 0 c 2, c, vs.take (i * 2), by rw [ht], by rw [ht]; exact Row_take q hi, fun j l hj => ?_⟩, by omega, fun d hd => hr d (List.mem_of_mem_take hd)⟩
  rw [List.getElem?_take] at hj
  split at hj
  · rename_i hji
    obtain ⟨e, u, e2, hu⟩ := k j l hj
    exact ⟨by rw [List.getElem?_take, if_pos (by omega)]; exact e, u, by rw [List.getElem?_take, if_pos (by omega)]; exact e2, hu⟩
  · cases hj
theorem LLS.cap {h : RO} {n c : Nat} {a : Option Addr} {ls : List (List Int)} (r : LLS h (.slice a n c) ls) : ls.length ≤ c := by
  obtain ⟨⟨a', c', vs, e, ⟨a2, n2, c2, e2, h1, h2, h3⟩, k⟩, hl⟩ := r
  cases e; cases e2; exact h2
theorem DepS.cap {h : RO} {n c : Nat} {a : Option Addr} {ls : List Cp} (r : DepS h (.slice a n c) ls) : ls.length ≤ c := by
  obtain ⟨⟨a', c', vs, e, ⟨a2, n2, c2, e2, h1, h2, h3⟩, k⟩, hl, hr⟩ := r
  cases e; cases e2; exact h2
def G4 : Gv := ⟨[], [3], [(4, .one 0 (.one 1 (.one 2 (.one 3 (.fork 4 (.one 5 (.one 6 (.one 7 (.one 8 (.one 9 (.nil)))))) .stop))))), (6, .one 0 (.one 1 (.one 2 (.one 3 (.fork 4 (.one 5 (.one 6 (.one 7 (.one 8 (.one 9 (.nil)))))) .stop)))))]⟩
theorem more_spec {u v w r : Value} {n : Int} {univ : List Int} {ex : List Cp} {cls pts : List (List Int)} {h : RO} {m : Hp} (ha : IntS h u univ) (hb : DepS h v ex) (hc : LLS h w cls) (hp : LLS h r pts) (hn : 0 ≤ n ∧ n ≤ 255) :
    Con Tryz.prog 4 [.agg #[u, v, w], r, .int .u8 n] h m fun e h' m' => e = .returned (.bool true) ∧ m' = m := by
  obtain ⟨ua, uc, rfl, -⟩ := ha.s
  obtain ⟨va, vc, rfl⟩ := hb.sl
  obtain ⟨wa, wc, rfl⟩ := hc.sl
  obtain ⟨ra, rc, rfl⟩ := hp.sl
  have l4 := hp.len
  refine fn_of (nt := 105) T Tryz.func4 rfl (by kernel_rfl) Tryz.ntmps4 (by simp) T_ok T_mixed fun C hC => ?_
  simp only [Tryz.f4, argFr, Nat.zero_add, Nat.reduceAdd] at hC ⊢
  ((try (conv => whnf)); repeat ((first | refine And.intro ?_ True.intro | refine And.intro ⟨by omega, by omega⟩ ?_ | refine ⟨_, (by assumption : RO.c _ _ _ = _), ?_⟩ | refine ⟨_, _, _, (by assumption : (_ : Option Obj) = _), ?_⟩ | refine ⟨_, _, _, (by assumption : RO.c _ _ _ = _), ?_⟩ | refine ⟨_, (by assumption : Row _ _ _ _), ?_⟩ | refine ⟨_, (by assumption : Cell _ _ _ _ _), ?_⟩ | refine ⟨_, _, _, (by assumption : Cell _ _ _ _ _), ?_⟩ | refine ⟨_, Or.inl (by assumption), ?_⟩ | refine ⟨_, _, _, Or.inl (by assumption), ?_⟩ | refine And.intro (ints_one _) ?_ | refine And.intro (by omega) ?_ | refine d1 ?_ | refine d2 ?_ | refine d3 ?_ | refine d4 ?_ | refine go G4 400 hC (by kernel_rfl) ?_); (conv => whnf)))
  intro b0 h0 hle0 hp0
  have p0 := hp0 0 _ rfl
  have p1 := hp0 1 _ rfl
  have p2 := hp0 2 _ rfl
  clear hp0
  replace ha := ha.mono hle0
  replace hb := hb.mono hle0
  replace hc := hc.mono hle0
  replace hp := hp.mono hle0
  ((try (conv => whnf)); repeat ((first | refine And.intro ?_ True.intro | refine And.intro ⟨by omega, by omega⟩ ?_ | refine ⟨_, (by assumption : RO.c _ _ _ = _), ?_⟩ | refine ⟨_, _, _, (by assumption : (_ : Option Obj) = _), ?_⟩ | refine ⟨_, _, _, (by assumption : RO.c _ _ _ = _), ?_⟩ | refine ⟨_, (by assumption : Row _ _ _ _), ?_⟩ | refine ⟨_, (by assumption : Cell _ _ _ _ _), ?_⟩ | refine ⟨_, _, _, (by assumption : Cell _ _ _ _ _), ?_⟩ | refine ⟨_, Or.inl (by assumption), ?_⟩ | refine ⟨_, _, _, Or.inl (by assumption), ?_⟩ | refine And.intro (ints_one _) ?_ | refine And.intro (by omega) ?_ | refine d1 ?_ | refine d2 ?_ | refine d3 ?_ | refine d4 ?_ | refine go G4 400 hC (by kernel_rfl) ?_); (conv => whnf)))
  refine Con.mono (great_spec ha hb hc hp) ?_
  rintro _ h1 m1 hle1 ⟨⟨b, rfl, hf⟩, rfl⟩
  replace ha := ha.mono hle1
  replace hb := hb.mono hle1
  replace hc := hc.mono hle1
  replace hp := hp.mono hle1
  replace p0 := hle1.c _ _ _ p0
  replace p1 := hle1.c _ _ _ p1
  replace p2 := hle1.c _ _ _ p2
  cases b with
  | true =>
    ((try (conv => whnf)); repeat ((first | refine And.intro ?_ True.intro | refine And.intro ⟨by omega, by omega⟩ ?_ | refine ⟨_, (by assumption : RO.c _ _ _ = _), ?_⟩ | refine ⟨_, _, _, (by assumption : (_ : Option Obj) = _), ?_⟩ | refine ⟨_, _, _, (by assumption : RO.c _ _ _ = _), ?_⟩ | refine ⟨_, (by assumption : Row _ _ _ _), ?_⟩ | refine ⟨_, (by assumption : Cell _ _ _ _ _), ?_⟩ | refine ⟨_, _, _, (by assumption : Cell _ _ _ _ _), ?_⟩ | refine ⟨_, Or.inl (by assumption), ?_⟩ | refine ⟨_, _, _, Or.inl (by assumption), ?_⟩ | refine And.intro (ints_one _) ?_ | refine And.intro (by omega) ?_ | refine d1 ?_ | refine d2 ?_ | refine d3 ?_ | refine d4 ?_ | refine go G4 400 hC (by kernel_rfl) ?_); (conv => whnf)))
    refine Con.mono head_spec ?_
    rintro _ h2 m2 hle2 ⟨rfl, rfl⟩
    ((try (conv => whnf)); repeat ((first | refine And.intro ?_ True.intro | refine And.intro ⟨by omega, by omega⟩ ?_ | refine ⟨_, (by assumption : RO.c _ _ _ = _), ?_⟩ | refine ⟨_, _, _, (by assumption : (_ : Option Obj) = _), ?_⟩ | refine ⟨_, _, _, (by assumption : RO.c _ _ _ = _), ?_⟩ | refine ⟨_, (by assumption : Row _ _ _ _), ?_⟩ | refine ⟨_, (by assumption : Cell _ _ _ _ _), ?_⟩ | refine ⟨_, _, _, (by assumption : Cell _ _ _ _ _), ?_⟩ | refine ⟨_, Or.inl (by assumption), ?_⟩ | refine ⟨_, _, _, Or.inl (by assumption), ?_⟩ | refine And.intro (ints_one _) ?_ | refine And.intro (by omega) ?_ | refine d1 ?_ | refine d2 ?_ | refine d3 ?_ | refine d4 ?_ | refine go G4 400 hC (by kernel_rfl) ?_); (conv => whnf)))
    exact ⟨rfl, rfl⟩
  | false =>
    have hF := hf rfl
    have f1 := hF.nv
    have f2 := hF.ntot
    have f3 := hF.npt
    ((try (conv => whnf)); repeat ((first | refine And.intro ?_ True.intro | refine And.intro ⟨by omega, by omega⟩ ?_ | refine ⟨_, (by assumption : RO.c _ _ _ = _), ?_⟩ | refine ⟨_, _, _, (by assumption : (_ : Option Obj) = _), ?_⟩ | refine ⟨_, _, _, (by assumption : RO.c _ _ _ = _), ?_⟩ | refine ⟨_, (by assumption : Row _ _ _ _), ?_⟩ | refine ⟨_, (by assumption : Cell _ _ _ _ _), ?_⟩ | refine ⟨_, _, _, (by assumption : Cell _ _ _ _ _), ?_⟩ | refine ⟨_, Or.inl (by assumption), ?_⟩ | refine ⟨_, _, _, Or.inl (by assumption), ?_⟩ | refine And.intro (ints_one _) ?_ | refine And.intro (by omega) ?_ | refine d1 ?_ | refine d2 ?_ | refine d3 ?_ | refine d4 ?_ | refine go G4 400 hC (by kernel_rfl) ?_); (conv => whnf)))
    refine Con.mono (may23 ha hb hc hp (by omega) (by omega)) ?_
    rintro _ h2 m2 hle2 ⟨rfl, rfl⟩
    replace ha := ha.mono hle2
    replace hb := hb.mono hle2
    replace hc := hc.mono hle2
    replace hp := hp.mono hle2
    replace p0 := hle2.c _ _ _ p0
    replace p1 := hle2.c _ _ _ p1
    replace p2 := hle2.c _ _ _ p2
    cases hq : mayP univ ex cls pts with
    | false =>
      ((try (conv => whnf)); repeat ((first | refine And.intro ?_ True.intro | refine And.intro ⟨by omega, by omega⟩ ?_ | refine ⟨_, (by assumption : RO.c _ _ _ = _), ?_⟩ | refine ⟨_, _, _, (by assumption : (_ : Option Obj) = _), ?_⟩ | refine ⟨_, _, _, (by assumption : RO.c _ _ _ = _), ?_⟩ | refine ⟨_, (by assumption : Row _ _ _ _), ?_⟩ | refine ⟨_, (by assumption : Cell _ _ _ _ _), ?_⟩ | refine ⟨_, _, _, (by assumption : Cell _ _ _ _ _), ?_⟩ | refine ⟨_, Or.inl (by assumption), ?_⟩ | refine ⟨_, _, _, Or.inl (by assumption), ?_⟩ | refine And.intro (ints_one _) ?_ | refine And.intro (by omega) ?_ | refine d1 ?_ | refine d2 ?_ | refine d3 ?_ | refine d4 ?_ | refine go G4 400 hC (by kernel_rfl) ?_); (conv => whnf)))
      refine Con.mono head_spec ?_
      rintro _ h3 m3 hle3 ⟨rfl, rfl⟩
      ((try (conv => whnf)); repeat ((first | refine And.intro ?_ True.intro | refine And.intro ⟨by omega, by omega⟩ ?_ | refine ⟨_, (by assumption : RO.c _ _ _ = _), ?_⟩ | refine ⟨_, _, _, (by assumption : (_ : Option Obj) = _), ?_⟩ | refine ⟨_, _, _, (by assumption : RO.c _ _ _ = _), ?_⟩ | refine ⟨_, (by assumption : Row _ _ _ _), ?_⟩ | refine ⟨_, (by assumption : Cell _ _ _ _ _), ?_⟩ | refine ⟨_, _, _, (by assumption : Cell _ _ _ _ _), ?_⟩ | refine ⟨_, Or.inl (by assumption), ?_⟩ | refine ⟨_, _, _, Or.inl (by assumption), ?_⟩ | refine And.intro (ints_one _) ?_ | refine And.intro (by omega) ?_ | refine d1 ?_ | refine d2 ?_ | refine d3 ?_ | refine d4 ?_ | refine go G4 400 hC (by kernel_rfl) ?_); (conv => whnf)))
      exact ⟨rfl, rfl⟩
    | true =>
      have w1 : IntKind.i64.wrap ((pts.length : Int) + 1) = (pts.length : Int) + 1 := w64 (by omega) (by omega)
      have w2 : IntKind.i64.wrap n = n := w64 (by omega) (by omega)
      have hK : 0 ≤ (IntKind.i64.wrap n).tmod (IntKind.i64.wrap ((pts.length : Int) + 1)) ∧ (IntKind.i64.wrap n).tmod (IntKind.i64.wrap ((pts.length : Int) + 1)) ≤ pts.length := by
        rw [w1, w2, Int.tmod_eq_emod_of_nonneg hn.1]
        have := Int.emod_nonneg n (b := (pts.length : Int) + 1) (by omega)
        have := Int.emod_lt_of_pos n (b := (pts.length : Int) + 1) (by omega)
        omega
      have hcap := LLS.cap hp
      ((try (conv => whnf)); repeat ((first | refine And.intro ?_ True.intro | refine And.intro ⟨by omega, by omega⟩ ?_ | refine ⟨_, (by assumption : RO.c _ _ _ = _), ?_⟩ | refine ⟨_, _, _, (by assumption : (_ : Option Obj) = _), ?_⟩ | refine ⟨_, _, _, (by assumption : RO.c _ _ _ = _), ?_⟩ | refine ⟨_, (by assumption : Row _ _ _ _), ?_⟩ | refine ⟨_, (by assumption : Cell _ _ _ _ _), ?_⟩ | refine ⟨_, _, _, (by assumption : Cell _ _ _ _ _), ?_⟩ | refine ⟨_, Or.inl (by assumption), ?_⟩ | refine ⟨_, _, _, Or.inl (by assumption), ?_⟩ | refine And.intro (ints_one _) ?_ | refine And.intro (by omega) ?_ | refine d1 ?_ | refine d2 ?_ | refine d3 ?_ | refine d4 ?_ | refine go G4 400 hC (by kernel_rfl) ?_); (conv => whnf)))
      generalize ((IntKind.i64.wrap n).tmod (IntKind.i64.wrap ((pts.length : Int) + 1))) = K0 at hK
      obtain ⟨K, rfl⟩ : ∃ K : Nat, K0 = K := ⟨K0.toNat, by omega⟩
      have hKl : K ≤ pts.length := by omega
      obtain ⟨hv, hvp⟩ := mayP_iff.1 hq
      have hA1 : mayA univ ex cls pts = true := mayA_iff.2 ⟨hv, hvp⟩
      have hA2 : mayA univ ex cls (pts.take K) = true := mayA_iff.2 ⟨hv, ⟨by have := hvp.n; simp; omega, fun p hp => hvp.pt p (List.mem_of_mem_take hp), hvp.nodup.sublist (List.take_sublist _ _)⟩⟩
      have hpre := cops_pre ex pts K
      have hpre2 := expd_pre ex cls pts K
      have hpt : ∀ p ∈ pts, p.length ≤ 40 := hF.lpt
      have hct : ∀ c ∈ cls, c.length ≤ 200 := fun c hc => Nat.le_trans (mem_tot hc) f2
      have f4 := hF.ncl
      have g1 : pts.length * ex.length ≤ 20 * 20 := Nat.mul_le_mul f3 (by omega)
      have g2 : pts.length * cls.length ≤ 20 * 40 := Nat.mul_le_mul f3 f4
      have g3 : pts.length * tot cls ≤ 20 * 200 := Nat.mul_le_mul f3 f2
      have hkl : (pts.take K).length = K := by simp; omega
      have g1' : (pts.take K).length * ex.length ≤ 20 * 20 := Nat.mul_le_mul (by omega) (by omega)
      have g2' : (pts.take K).length * cls.length ≤ 20 * 40 := Nat.mul_le_mul (by omega) f4
      have g3' : (pts.take K).length * tot cls ≤ 20 * 200 := Nat.mul_le_mul (by omega) f2
      have hpt' : ∀ p ∈ pts.take K, p.length ≤ 40 := fun p hp => hpt p (List.mem_of_mem_take hp)
      have hpK := LLS.take hp hKl
      refine Con.mono (copies_spec ha hb hc hpK (by omega) (by omega) (fun p hp => by have := hpt' p hp; omega) (by omega)) ?_
      rintro _ h3 m3 hle3 ⟨hR, rfl⟩
      rw [hA2] at hR
      obtain ⟨s1, rfl, d1⟩ := hR
      obtain ⟨sa1, sc1, rfl⟩ := d1.sl
      replace ha := ha.mono hle3
      replace hb := hb.mono hle3
      replace hc := hc.mono hle3
      replace hp := hp.mono hle3
      replace hpK := hpK.mono hle3
      replace p0 := hle3.c _ _ _ p0
      replace p1 := hle3.c _ _ _ p1
      replace p2 := hle3.c _ _ _ p2
      ((try (conv => whnf)); repeat ((first | refine And.intro ?_ True.intro | refine And.intro ⟨by omega, by omega⟩ ?_ | refine ⟨_, (by assumption : RO.c _ _ _ = _), ?_⟩ | refine ⟨_, _, _, (by assumption : (_ : Option Obj) = _), ?_⟩ | refine ⟨_, _, _, (by assumption : RO.c _ _ _ = _), ?_⟩ | refine ⟨_, (by assumption : Row _ _ _ _), ?_⟩ | refine ⟨_, (by assumption : Cell _ _ _ _ _), ?_⟩ | refine ⟨_, _, _, (by assumption : Cell _ _ _ _ _), ?_⟩ | refine ⟨_, Or.inl (by assumption), ?_⟩ | refine ⟨_, _, _, Or.inl (by assumption), ?_⟩ | refine And.intro (ints_one _) ?_ | refine And.intro (by omega) ?_ | refine d1 ?_ | refine d2 ?_ | refine d3 ?_ | refine d4 ?_ | refine go G4 400 hC (by kernel_rfl) ?_); (conv => whnf)))
      refine Con.mono (copies_spec ha hb hc hp (by omega) (by omega) (fun p hp => by have := hpt p hp; omega) (by omega)) ?_
      rintro _ h4 m4 hle4 ⟨hR, rfl⟩
      rw [hA1] at hR
      obtain ⟨s2, rfl, d2⟩ := hR
      obtain ⟨sa2, sc2, rfl⟩ := d2.sl
      replace ha := ha.mono hle4
      replace hb := hb.mono hle4
      replace hc := hc.mono hle4
      replace hp := hp.mono hle4
      replace hpK := hpK.mono hle4
      replace p0 := hle4.c _ _ _ p0
      replace p1 := hle4.c _ _ _ p1
      replace p2 := hle4.c _ _ _ p2
      ((try (conv => whnf)); repeat ((first | refine And.intro ?_ True.intro | refine And.intro ⟨by omega, by omega⟩ ?_ | refine ⟨_, (by assumption : RO.c _ _ _ = _), ?_⟩ | refine ⟨_, _, _, (by assumption : (_ : Option Obj) = _), ?_⟩ | refine ⟨_, _, _, (by assumption : RO.c _ _ _ = _), ?_⟩ | refine ⟨_, (by assumption : Row _ _ _ _), ?_⟩ | refine ⟨_, (by assumption : Cell _ _ _ _ _), ?_⟩ | refine ⟨_, _, _, (by assumption : Cell _ _ _ _ _), ?_⟩ | refine ⟨_, Or.inl (by assumption), ?_⟩ | refine ⟨_, _, _, Or.inl (by assumption), ?_⟩ | refine And.intro (ints_one _) ?_ | refine And.intro (by omega) ?_ | refine d1 ?_ | refine d2 ?_ | refine d3 ?_ | refine d4 ?_ | refine go G4 400 hC (by kernel_rfl) ?_); (conv => whnf)))
      refine Con.mono (expand_spec ha hb hc hpK (by omega) (by omega) (fun p hp => by have := hpt' p hp; omega) (fun c hc => by have := hct c hc; omega) (by omega) (by omega) (by omega)) ?_
      rintro _ h5 m5 hle5 ⟨hR, rfl⟩
      rw [hA2] at hR
      obtain ⟨s3, rfl, d3⟩ := hR
      obtain ⟨sa3, sc3, rfl⟩ := d3.sl
      replace ha := ha.mono hle5
      replace hb := hb.mono hle5
      replace hc := hc.mono hle5
      replace hp := hp.mono hle5
      replace p0 := hle5.c _ _ _ p0
      replace p1 := hle5.c _ _ _ p1
      replace p2 := hle5.c _ _ _ p2
      ((try (conv => whnf)); repeat ((first | refine And.intro ?_ True.intro | refine And.intro ⟨by omega, by omega⟩ ?_ | refine ⟨_, (by assumption : RO.c _ _ _ = _), ?_⟩ | refine ⟨_, _, _, (by assumption : (_ : Option Obj) = _), ?_⟩ | refine ⟨_, _, _, (by assumption : RO.c _ _ _ = _), ?_⟩ | refine ⟨_, (by assumption : Row _ _ _ _), ?_⟩ | refine ⟨_, (by assumption : Cell _ _ _ _ _), ?_⟩ | refine ⟨_, _, _, (by assumption : Cell _ _ _ _ _), ?_⟩ | refine ⟨_, Or.inl (by assumption), ?_⟩ | refine ⟨_, _, _, Or.inl (by assumption), ?_⟩ | refine And.intro (ints_one _) ?_ | refine And.intro (by omega) ?_ | refine d1 ?_ | refine d2 ?_ | refine d3 ?_ | refine d4 ?_ | refine go G4 400 hC (by kernel_rfl) ?_); (conv => whnf)))
      refine Con.mono (expand_spec ha hb hc hp (by omega) (by omega) (fun p hp => by have := hpt p hp; omega) (fun c hc => by have := hct c hc; omega) (by omega) (by omega) (by omega)) ?_
      rintro _ h6 m6 hle6 ⟨hR, rfl⟩
      rw [hA1] at hR
      obtain ⟨s4, rfl, d4⟩ := hR
      obtain ⟨sa4, sc4, rfl⟩ := d4.sl
      clear p0 p1 p2 ha hb hc hp hpK
      have e1 : decide (((cops ex (pts.take K)).length : Int) > ((cops ex pts).length : Int)) = false := by have := hpre.length_le; simp; omega
      have e2 : decide (((expd (cops ex (pts.take K)) ex cls (pts.take K)).length : Int) > ((expd (cops ex pts) ex cls pts).length : Int)) = false := by have := hpre2.length_le; simp; omega
      ((try (conv => whnf)); repeat ((first | refine And.intro ?_ True.intro | refine And.intro ⟨by omega, by omega⟩ ?_ | refine ⟨_, (by assumption : RO.c _ _ _ = _), ?_⟩ | refine ⟨_, _, _, (by assumption : (_ : Option Obj) = _), ?_⟩ | refine ⟨_, _, _, (by assumption : RO.c _ _ _ = _), ?_⟩ | refine ⟨_, (by assumption : Row _ _ _ _), ?_⟩ | refine ⟨_, (by assumption : Cell _ _ _ _ _), ?_⟩ | refine ⟨_, _, _, (by assumption : Cell _ _ _ _ _), ?_⟩ | refine ⟨_, Or.inl (by assumption), ?_⟩ | refine ⟨_, _, _, Or.inl (by assumption), ?_⟩ | refine And.intro (ints_one _) ?_ | refine And.intro (by omega) ?_ | refine d1 ?_ | refine d2 ?_ | refine d3 ?_ | refine d4 ?_ | refine go G4 400 hC (by kernel_rfl) ?_); (conv => whnf)))
      iterate 6 (all_goals try ((refine ⟨fun _ => ?_, fun hq => absurd hq (by first | decide | rw [e1]; decide | rw [e2]; decide)⟩) <;> ((try (conv => whnf)); repeat ((first | refine And.intro ?_ True.intro | refine And.intro ⟨by omega, by omega⟩ ?_ | refine ⟨_, (by assumption : RO.c _ _ _ = _), ?_⟩ | refine ⟨_, _, _, (by assumption : (_ : Option Obj) = _), ?_⟩ | refine ⟨_, _, _, (by assumption : RO.c _ _ _ = _), ?_⟩ | refine ⟨_, (by assumption : Row _ _ _ _), ?_⟩ | refine ⟨_, (by assumption : Cell _ _ _ _ _), ?_⟩ | refine ⟨_, _, _, (by assumption : Cell _ _ _ _ _), ?_⟩ | refine ⟨_, Or.inl (by assumption), ?_⟩ | refine ⟨_, _, _, Or.inl (by assumption), ?_⟩ | refine And.intro (ints_one _) ?_ | refine And.intro (by omega) ?_ | refine d1 ?_ | refine d2 ?_ | refine d3 ?_ | refine d4 ?_ | refine go G4 400 hC (by kernel_rfl) ?_); (conv => whnf)))))
      have cp2 := DepS.cap d2
      have cp4 := LLS.cap d4
      have l2 := hpre.length_le
      have l4 := hpre2.length_le
      have t2 := DepS.take d2 l2
      have t4 := LLS.take d4 l4
      rw [← List.prefix_iff_eq_take.1 hpre] at t2
      rw [← List.prefix_iff_eq_take.1 hpre2] at t4
      refine ⟨fun hq => absurd hq (by rw [e2]; decide), fun _ => ?_⟩
      ((try (conv => whnf)); repeat ((first | refine And.intro ?_ True.intro | refine And.intro ⟨by omega, by omega⟩ ?_ | refine ⟨_, (by assumption : RO.c _ _ _ = _), ?_⟩ | refine ⟨_, _, _, (by assumption : (_ : Option Obj) = _), ?_⟩ | refine ⟨_, _, _, (by assumption : RO.c _ _ _ = _), ?_⟩ | refine ⟨_, (by assumption : Row _ _ _ _), ?_⟩ | refine ⟨_, (by assumption : Cell _ _ _ _ _), ?_⟩ | refine ⟨_, _, _, (by assumption : Cell _ _ _ _ _), ?_⟩ | refine ⟨_, Or.inl (by assumption), ?_⟩ | refine ⟨_, _, _, Or.inl (by assumption), ?_⟩ | refine And.intro (ints_one _) ?_ | refine And.intro (by omega) ?_ | refine d1 ?_ | refine d2 ?_ | refine d3 ?_ | refine d4 ?_ | refine go G4 400 hC (by kernel_rfl) ?_); (conv => whnf)))
      refine Con.mono (sameCopies_spec (d1.mono (hle4.trans (hle5.trans hle6))) (t2.mono (hle5.trans hle6))) ?_
      rintro _ h7 m7 hle7 ⟨rfl, rfl⟩
      ((try (conv => whnf)); repeat ((first | refine And.intro ?_ True.intro | refine And.intro ⟨by omega, by omega⟩ ?_ | refine ⟨_, (by assumption : RO.c _ _ _ = _), ?_⟩ | refine ⟨_, _, _, (by assumption : (_ : Option Obj) = _), ?_⟩ | refine ⟨_, _, _, (by assumption : RO.c _ _ _ = _), ?_⟩ | refine ⟨_, (by assumption : Row _ _ _ _), ?_⟩ | refine ⟨_, (by assumption : Cell _ _ _ _ _), ?_⟩ | refine ⟨_, _, _, (by assumption : Cell _ _ _ _ _), ?_⟩ | refine ⟨_, Or.inl (by assumption), ?_⟩ | refine ⟨_, _, _, Or.inl (by assumption), ?_⟩ | refine And.intro (ints_one _) ?_ | refine And.intro (by omega) ?_ | refine d1 ?_ | refine d2 ?_ | refine d3 ?_ | refine d4 ?_ | refine go G4 400 hC (by kernel_rfl) ?_); (conv => whnf)))
      refine ⟨fun _ => ?_, fun hq => absurd hq (by decide)⟩
      ((try (conv => whnf)); repeat ((first | refine And.intro ?_ True.intro | refine And.intro ⟨by omega, by omega⟩ ?_ | refine ⟨_, (by assumption : RO.c _ _ _ = _), ?_⟩ | refine ⟨_, _, _, (by assumption : (_ : Option Obj) = _), ?_⟩ | refine ⟨_, _, _, (by assumption : RO.c _ _ _ = _), ?_⟩ | refine ⟨_, (by assumption : Row _ _ _ _), ?_⟩ | refine ⟨_, (by assumption : Cell _ _ _ _ _), ?_⟩ | refine ⟨_, _, _, (by assumption : Cell _ _ _ _ _), ?_⟩ | refine ⟨_, Or.inl (by assumption), ?_⟩ | refine ⟨_, _, _, Or.inl (by assumption), ?_⟩ | refine And.intro (ints_one _) ?_ | refine And.intro (by omega) ?_ | refine d1 ?_ | refine d2 ?_ | refine d3 ?_ | refine d4 ?_ | refine go G4 400 hC (by kernel_rfl) ?_); (conv => whnf)))
      refine Con.mono (sameAll_spec (d3.mono (hle6.trans hle7)) (t4.mono hle7)) ?_
      rintro _ h8 m8 hle8 ⟨rfl, rfl⟩
      ((try (conv => whnf)); repeat ((first | refine And.intro ?_ True.intro | refine And.intro ⟨by omega, by omega⟩ ?_ | refine ⟨_, (by assumption : RO.c _ _ _ = _), ?_⟩ | refine ⟨_, _, _, (by assumption : (_ : Option Obj) = _), ?_⟩ | refine ⟨_, _, _, (by assumption : RO.c _ _ _ = _), ?_⟩ | refine ⟨_, (by assumption : Row _ _ _ _), ?_⟩ | refine ⟨_, (by assumption : Cell _ _ _ _ _), ?_⟩ | refine ⟨_, _, _, (by assumption : Cell _ _ _ _ _), ?_⟩ | refine ⟨_, Or.inl (by assumption), ?_⟩ | refine ⟨_, _, _, Or.inl (by assumption), ?_⟩ | refine And.intro (ints_one _) ?_ | refine And.intro (by omega) ?_ | refine d1 ?_ | refine d2 ?_ | refine d3 ?_ | refine d4 ?_ | refine go G4 400 hC (by kernel_rfl) ?_); (conv => whnf)))
      refine ⟨fun _ => ?_, fun hq => absurd hq (by decide)⟩
      ((try (conv => whnf)); repeat ((first | refine And.intro ?_ True.intro | refine And.intro ⟨by omega, by omega⟩ ?_ | refine ⟨_, (by assumption : RO.c _ _ _ = _), ?_⟩ | refine ⟨_, _, _, (by assumption : (_ : Option Obj) = _), ?_⟩ | refine ⟨_, _, _, (by assumption : RO.c _ _ _ = _), ?_⟩ | refine ⟨_, (by assumption : Row _ _ _ _), ?_⟩ | refine ⟨_, (by assumption : Cell _ _ _ _ _), ?_⟩ | refine ⟨_, _, _, (by assumption : Cell _ _ _ _ _), ?_⟩ | refine ⟨_, Or.inl (by assumption), ?_⟩ | refine ⟨_, _, _, Or.inl (by assumption), ?_⟩ | refine And.intro (ints_one _) ?_ | refine And.intro (by omega) ?_ | refine d1 ?_ | refine d2 ?_ | refine d3 ?_ | refine d4 ?_ | refine go G4 400 hC (by kernel_rfl) ?_); (conv => whnf)))
      refine Con.mono head_spec ?_
      rintro _ h9 m9 hle9 ⟨rfl, rfl⟩
      ((try (conv => whnf)); repeat ((first | refine And.intro ?_ True.intro | refine And.intro ⟨by omega, by omega⟩ ?_ | refine ⟨_, (by assumption : RO.c _ _ _ = _), ?_⟩ | refine ⟨_, _, _, (by assumption : (_ : Option Obj) = _), ?_⟩ | refine ⟨_, _, _, (by assumption : RO.c _ _ _ = _), ?_⟩ | refine ⟨_, (by assumption : Row _ _ _ _), ?_⟩ | refine ⟨_, (by assumption : Cell _ _ _ _ _), ?_⟩ | refine ⟨_, _, _, (by assumption : Cell _ _ _ _ _), ?_⟩ | refine ⟨_, Or.inl (by assumption), ?_⟩ | refine ⟨_, _, _, Or.inl (by assumption), ?_⟩ | refine And.intro (ints_one _) ?_ | refine And.intro (by omega) ?_ | refine d1 ?_ | refine d2 ?_ | refine d3 ?_ | refine d4 ?_ | refine go G4 400 hC (by kernel_rfl) ?_); (conv => whnf)))
      exact ⟨rfl, rfl⟩
end Go.Proofs.YtoefoaabnjeofaaGreat
