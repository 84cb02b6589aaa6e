/- Proved here: contracts of functions of annot and their plain meanings. Conditions: none beyond the statement's own. -/
import Derived.Test.YtoefoaabnjeofaaGreatWb
import Derived.DeepKeys5
import Derived.Maps.Keyed
set_option linter.unusedVariables false
set_option linter.unusedSimpArgs false
set_option linter.constructorNameAsVariable false
namespace Go.Proofs.YtoefoaabnjeofaaGreat
open Go.SX
set_option maxHeartbeats 2000000
set_option maxRecDepth 20000
def G256 : Gv := ⟨[], [], []⟩
theorem isNaN_slices {x : Int} {h : RO} {m : Hp} : Con Tryz.prog 256 [.int .i64 x] h m fun e h' m' => e = .returned (.bool false) ∧ h' = h ∧ m' = m := by
  refine fn_of (nt := 6) T Tryz.func256 rfl (by kernel_rfl) Tryz.ntmps256 (by simp) T_ok T_mixed fun C hC => ?_
  simp only [Tryz.f256, argFr, Nat.zero_add, Nat.reduceAdd] at hC ⊢
  ((try (conv => whnf)); repeat ((first | refine And.intro ?_ True.intro | refine And.intro ⟨by omega, by omega⟩ ?_ | refine ⟨_, (by assumption : RO.c _ _ _ = _), ?_⟩ | refine ⟨_, _, _, (by assumption : (_ : Option Obj) = _), ?_⟩ | refine ⟨_, _, _, (by assumption : RO.c _ _ _ = _), ?_⟩ | refine ⟨_, (by assumption : Row _ _ _ _), ?_⟩ | refine ⟨_, (by assumption : Cell _ _ _ _ _), ?_⟩ | refine ⟨_, _, _, (by assumption : Cell _ _ _ _ _), ?_⟩ | refine ⟨_, Or.inl (by assumption), ?_⟩ | refine ⟨_, _, _, Or.inl (by assumption), ?_⟩ | refine And.intro (ints_one _) ?_ | refine And.intro (by omega) ?_ | refine d1 ?_ | refine d2 ?_ | refine d3 ?_ | refine d4 ?_ | refine go G256 400 hC (by kernel_rfl) ?_); (conv => whnf)))
  exact ⟨by show Ending.returned (.bool (x != x)) = _; simp, rfl, rfl⟩

def G317 : Gv := ⟨[], [], []⟩
theorem isNaN_cmp {x : Int} {h : RO} {m : Hp} : Con Tryz.prog 317 [.int .i64 x] h m fun e h' m' => e = .returned (.bool false) ∧ h' = h ∧ m' = m := by
  refine fn_of (nt := 6) T Tryz.func317 rfl (by kernel_rfl) Tryz.ntmps317 (by simp) T_ok T_mixed fun C hC => ?_
  simp only [Tryz.f317, argFr, Nat.zero_add, Nat.reduceAdd] at hC ⊢
  ((try (conv => whnf)); repeat ((first | refine And.intro ?_ True.intro | refine And.intro ⟨by omega, by omega⟩ ?_ | refine ⟨_, (by assumption : RO.c _ _ _ = _), ?_⟩ | refine ⟨_, _, _, (by assumption : (_ : Option Obj) = _), ?_⟩ | refine ⟨_, _, _, (by assumption : RO.c _ _ _ = _), ?_⟩ | refine ⟨_, (by assumption : Row _ _ _ _), ?_⟩ | refine ⟨_, (by assumption : Cell _ _ _ _ _), ?_⟩ | refine ⟨_, _, _, (by assumption : Cell _ _ _ _ _), ?_⟩ | refine ⟨_, Or.inl (by assumption), ?_⟩ | refine ⟨_, _, _, Or.inl (by assumption), ?_⟩ | refine And.intro (ints_one _) ?_ | refine And.intro (by omega) ?_ | refine d1 ?_ | refine d2 ?_ | refine d3 ?_ | refine d4 ?_ | refine go G317 400 hC (by kernel_rfl) ?_); (conv => whnf)))
  exact ⟨by show Ending.returned (.bool (x != x)) = _; simp, rfl, rfl⟩

def G255 : Gv := ⟨[], [], []⟩
theorem less_spec {x y : Int} {h : RO} {m : Hp} : Con Tryz.prog 255 [.int .i64 x, .int .i64 y] h m fun e h' m' => e = .returned (.bool (decide (x < y))) ∧ h' = h ∧ m' = m := by
  refine fn_of (nt := 17) T Tryz.func255 rfl (by kernel_rfl) Tryz.ntmps255 (by simp) T_ok T_mixed fun C hC => ?_
  simp only [Tryz.f255, argFr, Nat.zero_add, Nat.reduceAdd] at hC ⊢
  ((try (conv => whnf)); repeat ((first | refine And.intro ?_ True.intro | refine And.intro ⟨by omega, by omega⟩ ?_ | refine ⟨_, (by assumption : RO.c _ _ _ = _), ?_⟩ | refine ⟨_, _, _, (by assumption : (_ : Option Obj) = _), ?_⟩ | refine ⟨_, _, _, (by assumption : RO.c _ _ _ = _), ?_⟩ | refine ⟨_, (by assumption : Row _ _ _ _), ?_⟩ | refine ⟨_, (by assumption : Cell _ _ _ _ _), ?_⟩ | refine ⟨_, _, _, (by assumption : Cell _ _ _ _ _), ?_⟩ | refine ⟨_, Or.inl (by assumption), ?_⟩ | refine ⟨_, _, _, Or.inl (by assumption), ?_⟩ | refine And.intro (ints_one _) ?_ | refine And.intro (by omega) ?_ | refine d1 ?_ | refine d2 ?_ | refine d3 ?_ | refine d4 ?_ | refine go G255 400 hC (by kernel_rfl) ?_); (conv => whnf)))
  (refine Con.mono (isNaN_cmp) ?_; rintro _ _ _ - ⟨rfl, rfl, rfl⟩; ((try (conv => whnf)); repeat ((first | refine And.intro ?_ True.intro | refine And.intro ⟨by omega, by omega⟩ ?_ | refine ⟨_, (by assumption : RO.c _ _ _ = _), ?_⟩ | refine ⟨_, _, _, (by assumption : (_ : Option Obj) = _), ?_⟩ | refine ⟨_, _, _, (by assumption : RO.c _ _ _ = _), ?_⟩ | refine ⟨_, (by assumption : Row _ _ _ _), ?_⟩ | refine ⟨_, (by assumption : Cell _ _ _ _ _), ?_⟩ | refine ⟨_, _, _, (by assumption : Cell _ _ _ _ _), ?_⟩ | refine ⟨_, Or.inl (by assumption), ?_⟩ | refine ⟨_, _, _, Or.inl (by assumption), ?_⟩ | refine And.intro (ints_one _) ?_ | refine And.intro (by omega) ?_ | refine d1 ?_ | refine d2 ?_ | refine d3 ?_ | refine d4 ?_ | refine go G255 400 hC (by kernel_rfl) ?_); (conv => whnf))))
  exact ⟨rfl, rfl, rfl⟩

theorem u64sum {i j : Nat} (hi : i ≤ 17592186044416) (hj : j ≤ 17592186044416) :
    IntKind.i64.wrap ((IntKind.u64.wrap (IntKind.i64.wrap ((i : Int) + (j : Int)))).fdiv (2 ^ (min (Int.toNat 1) IntKind.u64.bits))) = (((i + j) / 2 : Nat) : Int) := by
  have e0 : IntKind.i64.wrap ((i : Int) + (j : Int)) = (i : Int) + (j : Int) := w64 (by omega) (by omega)
  have e1 : IntKind.u64.wrap ((i : Int) + (j : Int)) = ((i + j : Nat) : Int) := by
    rw [IntKind.wrap_u64]; omega
  rw [e0, e1]
  have e2 : (2 : Int) ^ (min (Int.toNat 1) IntKind.u64.bits) = 2 := by decide
  rw [e2, Int.fdiv_eq_ediv_of_nonneg _ (by decide)]
  rw [w64 (by omega) (by omega)]
  omega

theorem notMem {l : List Int} {x : Int} (h : ∀ k, k < l.length → g l k ≠ x) : l.contains x = false := by
  simp only [List.contains_eq_mem, decide_eq_false_iff_not]
  intro hx
  obtain ⟨j, hj, e⟩ := List.getElem_of_mem hx
  exact h j hj (by simp [g, hj, e])
def Asc (l : List Int) : Prop := ∀ i j, i < j → j < l.length → g l i < g l j
def G188 : Gv := ⟨[], [], []⟩
theorem bsearch_spec {u : Value} {l : List Int} {x : Int} {h : RO} {m : Hp} (ha : IntS h u l) (hs : Asc l) :
    Con Tryz.prog 188 [u, .int .i64 x] h m fun e h' m' => (∃ n, e = .returned (.tuple #[.int .i64 n, .bool (l.contains x)])) ∧ h' = h ∧ m' = m := by
  obtain ⟨a, c, rfl, hr⟩ := ha.s
  have hla := ha.len
  refine fn_of (nt := 54) T Tryz.func188 rfl (by kernel_rfl) Tryz.ntmps188 (by simp) T_ok T_mixed fun C hC => ?_
  simp only [Tryz.f188, argFr, Nat.zero_add, Nat.reduceAdd] at hC ⊢
  ((try (conv => whnf)); repeat ((first | refine And.intro ?_ True.intro | refine And.intro ⟨by omega, by omega⟩ ?_ | refine ⟨_, (by assumption : RO.c _ _ _ = _), ?_⟩ | refine ⟨_, _, _, (by assumption : (_ : Option Obj) = _), ?_⟩ | refine ⟨_, _, _, (by assumption : RO.c _ _ _ = _), ?_⟩ | refine ⟨_, (by assumption : Row _ _ _ _), ?_⟩ | refine ⟨_, (by assumption : Cell _ _ _ _ _), ?_⟩ | refine ⟨_, _, _, (by assumption : Cell _ _ _ _ _), ?_⟩ | refine ⟨_, Or.inl (by assumption), ?_⟩ | refine ⟨_, _, _, Or.inl (by assumption), ?_⟩ | refine And.intro (ints_one _) ?_ | refine And.intro (by omega) ?_ | refine d1 ?_ | refine d2 ?_ | refine d3 ?_ | refine d4 ?_ | refine go G188 400 hC (by kernel_rfl) ?_); (conv => whnf)))
  refine halt (sx_loop (X := Nat × Nat) (fun i => [(0, .v (.slice a l.length c)), (1, .v (.int .i64 x)), (6, .v (.int .i64 l.length)), (7, .v (.int .i64 i.1)), (8, .v (.int .i64 i.2))]) (fun _ => [])
    (fun i h' m' => i.1 ≤ i.2 ∧ i.2 ≤ l.length ∧ (∀ k, k < i.1 → g l k < x) ∧ (∀ k, i.2 ≤ k → k < l.length → x ≤ g l k) ∧ h' = h ∧ m' = m) (fun i => i.2 - i.1) (0, l.length) ⟨[], ?_⟩ ⟨by simp, by simp, by simp, fun k h1 h2 => absurd h2 (by dsimp only at h1; omega), rfl, rfl⟩ ?_)
  · exact ⟨trivial, ⟨rfl, rfl, rfl, rfl, rfl, trivial⟩, trivial⟩
  rintro ⟨i, j⟩ h' m' _ ⟨hij, hj, hlo, hhi, rfl, rfl⟩
  dsimp only at hij hj hlo hhi ⊢
  ((try (conv => whnf)); repeat ((first | refine And.intro ?_ True.intro | refine And.intro ⟨by omega, by omega⟩ ?_ | refine ⟨_, (by assumption : RO.c _ _ _ = _), ?_⟩ | refine ⟨_, _, _, (by assumption : (_ : Option Obj) = _), ?_⟩ | refine ⟨_, _, _, (by assumption : RO.c _ _ _ = _), ?_⟩ | refine ⟨_, (by assumption : Row _ _ _ _), ?_⟩ | refine ⟨_, (by assumption : Cell _ _ _ _ _), ?_⟩ | refine ⟨_, _, _, (by assumption : Cell _ _ _ _ _), ?_⟩ | refine ⟨_, Or.inl (by assumption), ?_⟩ | refine ⟨_, _, _, Or.inl (by assumption), ?_⟩ | refine And.intro (ints_one _) ?_ | refine And.intro (by omega) ?_ | refine d1 ?_ | refine d2 ?_ | refine d3 ?_ | refine d4 ?_ | refine go G188 400 hC (by kernel_rfl) ?_); (conv => whnf)))
  refine ⟨fun hlt => ?_, fun hge => ?_⟩
  · have hlt : i < j := by simpa using hlt
    obtain ⟨p, q, rfl, hc⟩ := ha.get (i := i) (by omega)
    have hm : (i + j) / 2 < l.length := by omega
    have e0 := u64sum (i := i) (j := j) (by omega) (by omega)
    have c1 : h'.c p (q + (IntKind.i64.wrap ((IntKind.u64.wrap (IntKind.i64.wrap ((i : Int) + (j : Int)))).fdiv (2 ^ (min (Int.toNat 1) IntKind.u64.bits)))).toNat) = some (.int .i64 (g l ((i + j) / 2))) := by
      rw [e0]; exact hc _ hm
    ((try (conv => whnf)); repeat ((first | refine And.intro ?_ True.intro | refine And.intro ⟨by omega, by omega⟩ ?_ | refine ⟨_, (by assumption : RO.c _ _ _ = _), ?_⟩ | refine ⟨_, _, _, (by assumption : (_ : Option Obj) = _), ?_⟩ | refine ⟨_, _, _, (by assumption : RO.c _ _ _ = _), ?_⟩ | refine ⟨_, (by assumption : Row _ _ _ _), ?_⟩ | refine ⟨_, (by assumption : Cell _ _ _ _ _), ?_⟩ | refine ⟨_, _, _, (by assumption : Cell _ _ _ _ _), ?_⟩ | refine ⟨_, Or.inl (by assumption), ?_⟩ | refine ⟨_, _, _, Or.inl (by assumption), ?_⟩ | refine And.intro (ints_one _) ?_ | refine And.intro (by omega) ?_ | refine d1 ?_ | refine d2 ?_ | refine d3 ?_ | refine d4 ?_ | refine go G188 400 hC (by kernel_rfl) ?_); (conv => whnf)))
    (refine Con.mono (less_spec) ?_; rintro _ _ _ - ⟨rfl, rfl, rfl⟩; ((try (conv => whnf)); repeat ((first | refine And.intro ?_ True.intro | refine And.intro ⟨by omega, by omega⟩ ?_ | refine ⟨_, (by assumption : RO.c _ _ _ = _), ?_⟩ | refine ⟨_, _, _, (by assumption : (_ : Option Obj) = _), ?_⟩ | refine ⟨_, _, _, (by assumption : RO.c _ _ _ = _), ?_⟩ | refine ⟨_, (by assumption : Row _ _ _ _), ?_⟩ | refine ⟨_, (by assumption : Cell _ _ _ _ _), ?_⟩ | refine ⟨_, _, _, (by assumption : Cell _ _ _ _ _), ?_⟩ | refine ⟨_, Or.inl (by assumption), ?_⟩ | refine ⟨_, _, _, Or.inl (by assumption), ?_⟩ | refine And.intro (ints_one _) ?_ | refine And.intro (by omega) ?_ | refine d1 ?_ | refine d2 ?_ | refine d3 ?_ | refine d4 ?_ | refine go G188 400 hC (by kernel_rfl) ?_); (conv => whnf))))
    refine ⟨fun he => ?_, fun he => ?_⟩
    · ((try (conv => whnf)); repeat ((first | refine And.intro ?_ True.intro | refine And.intro ⟨by omega, by omega⟩ ?_ | refine ⟨_, (by assumption : RO.c _ _ _ = _), ?_⟩ | refine ⟨_, _, _, (by assumption : (_ : Option Obj) = _), ?_⟩ | refine ⟨_, _, _, (by assumption : RO.c _ _ _ = _), ?_⟩ | refine ⟨_, (by assumption : Row _ _ _ _), ?_⟩ | refine ⟨_, (by assumption : Cell _ _ _ _ _), ?_⟩ | refine ⟨_, _, _, (by assumption : Cell _ _ _ _ _), ?_⟩ | refine ⟨_, Or.inl (by assumption), ?_⟩ | refine ⟨_, _, _, Or.inl (by assumption), ?_⟩ | refine And.intro (ints_one _) ?_ | refine And.intro (by omega) ?_ | refine d1 ?_ | refine d2 ?_ | refine d3 ?_ | refine d4 ?_ | refine go G188 400 hC (by kernel_rfl) ?_); (conv => whnf)))
      have he : g l ((i + j) / 2) < x := by simpa using he
      refine halt ⟨((i + j) / 2 + 1, j), [], ⟨trivial, ⟨rfl, rfl, rfl, ?_, rfl, trivial⟩, trivial⟩, RO.le.refl _, ⟨by dsimp only; omega, hj, fun k hk => ?_, hhi, rfl, rfl⟩, by dsimp only; omega⟩
      · show Value.int .i64 (((i + j) / 2 + 1 : Nat) : Int) = .int .i64 (IntKind.i64.wrap (IntKind.i64.wrap ((IntKind.u64.wrap (IntKind.i64.wrap ((i : Int) + (j : Int)))).fdiv (2 ^ (min (Int.toNat 1) IntKind.u64.bits))) + 1))
        rw [e0, w64i (by omega)]
      · by_cases e : k = (i + j) / 2
        · exact e ▸ he
        · have := hs k ((i + j) / 2) (by dsimp only at hk; omega) hm; omega
    · ((try (conv => whnf)); repeat ((first | refine And.intro ?_ True.intro | refine And.intro ⟨by omega, by omega⟩ ?_ | refine ⟨_, (by assumption : RO.c _ _ _ = _), ?_⟩ | refine ⟨_, _, _, (by assumption : (_ : Option Obj) = _), ?_⟩ | refine ⟨_, _, _, (by assumption : RO.c _ _ _ = _), ?_⟩ | refine ⟨_, (by assumption : Row _ _ _ _), ?_⟩ | refine ⟨_, (by assumption : Cell _ _ _ _ _), ?_⟩ | refine ⟨_, _, _, (by assumption : Cell _ _ _ _ _), ?_⟩ | refine ⟨_, Or.inl (by assumption), ?_⟩ | refine ⟨_, _, _, Or.inl (by assumption), ?_⟩ | refine And.intro (ints_one _) ?_ | refine And.intro (by omega) ?_ | refine d1 ?_ | refine d2 ?_ | refine d3 ?_ | refine d4 ?_ | refine go G188 400 hC (by kernel_rfl) ?_); (conv => whnf)))
      have he : x ≤ g l ((i + j) / 2) := by simpa using he
      refine halt ⟨(i, (i + j) / 2), [], ⟨trivial, ⟨rfl, rfl, rfl, rfl, ?_, trivial⟩, trivial⟩, RO.le.refl _, ⟨by dsimp only; omega, by dsimp only; omega, hlo, fun k hk hk2 => ?_, rfl, rfl⟩, by dsimp only; omega⟩
      · show Value.int .i64 (((i + j) / 2 : Nat) : Int) = .int .i64 (IntKind.i64.wrap ((IntKind.u64.wrap (IntKind.i64.wrap ((i : Int) + (j : Int)))).fdiv (2 ^ (min (Int.toNat 1) IntKind.u64.bits))))
        rw [e0]
      · by_cases e : k = (i + j) / 2
        · exact e ▸ he
        · have := hs ((i + j) / 2) k (by dsimp only at hk; omega) hk2; omega
  · have hge : i = j := by simp at hge; omega
    subst hge
    by_cases hin : i < l.length
    · obtain ⟨p, q, rfl, hc⟩ := ha.get hin
      have c1 := hc i hin
      ((try (conv => whnf)); repeat ((first | refine And.intro ?_ True.intro | refine And.intro ⟨by omega, by omega⟩ ?_ | refine ⟨_, (by assumption : RO.c _ _ _ = _), ?_⟩ | refine ⟨_, _, _, (by assumption : (_ : Option Obj) = _), ?_⟩ | refine ⟨_, _, _, (by assumption : RO.c _ _ _ = _), ?_⟩ | refine ⟨_, (by assumption : Row _ _ _ _), ?_⟩ | refine ⟨_, (by assumption : Cell _ _ _ _ _), ?_⟩ | refine ⟨_, _, _, (by assumption : Cell _ _ _ _ _), ?_⟩ | refine ⟨_, Or.inl (by assumption), ?_⟩ | refine ⟨_, _, _, Or.inl (by assumption), ?_⟩ | refine And.intro (ints_one _) ?_ | refine And.intro (by omega) ?_ | refine d1 ?_ | refine d2 ?_ | refine d3 ?_ | refine d4 ?_ | refine go G188 400 hC (by kernel_rfl) ?_); (conv => whnf)))
      all_goals try ((refine ⟨fun _ => ?_, fun _ => ?_⟩) <;> ((try (conv => whnf)); repeat ((first | refine And.intro ?_ True.intro | refine And.intro ⟨by omega, by omega⟩ ?_ | refine ⟨_, (by assumption : RO.c _ _ _ = _), ?_⟩ | refine ⟨_, _, _, (by assumption : (_ : Option Obj) = _), ?_⟩ | refine ⟨_, _, _, (by assumption : RO.c _ _ _ = _), ?_⟩ | refine ⟨_, (by assumption : Row _ _ _ _), ?_⟩ | refine ⟨_, (by assumption : Cell _ _ _ _ _), ?_⟩ | refine ⟨_, _, _, (by assumption : Cell _ _ _ _ _), ?_⟩ | refine ⟨_, Or.inl (by assumption), ?_⟩ | refine ⟨_, _, _, Or.inl (by assumption), ?_⟩ | refine And.intro (ints_one _) ?_ | refine And.intro (by omega) ?_ | refine d1 ?_ | refine d2 ?_ | refine d3 ?_ | refine d4 ?_ | refine go G188 400 hC (by kernel_rfl) ?_); (conv => whnf))))
      all_goals try ((refine ⟨fun _ => ?_, fun _ => ?_⟩) <;> ((try (conv => whnf)); repeat ((first | refine And.intro ?_ True.intro | refine And.intro ⟨by omega, by omega⟩ ?_ | refine ⟨_, (by assumption : RO.c _ _ _ = _), ?_⟩ | refine ⟨_, _, _, (by assumption : (_ : Option Obj) = _), ?_⟩ | refine ⟨_, _, _, (by assumption : RO.c _ _ _ = _), ?_⟩ | refine ⟨_, (by assumption : Row _ _ _ _), ?_⟩ | refine ⟨_, (by assumption : Cell _ _ _ _ _), ?_⟩ | refine ⟨_, _, _, (by assumption : Cell _ _ _ _ _), ?_⟩ | refine ⟨_, Or.inl (by assumption), ?_⟩ | refine ⟨_, _, _, Or.inl (by assumption), ?_⟩ | refine And.intro (ints_one _) ?_ | refine And.intro (by omega) ?_ | refine d1 ?_ | refine d2 ?_ | refine d3 ?_ | refine d4 ?_ | refine go G188 400 hC (by kernel_rfl) ?_); (conv => whnf))))
      all_goals try (refine Con.mono (isNaN_slices) ?_; rintro _ _ _ - ⟨rfl, rfl, rfl⟩; ((try (conv => whnf)); repeat ((first | refine And.intro ?_ True.intro | refine And.intro ⟨by omega, by omega⟩ ?_ | refine ⟨_, (by assumption : RO.c _ _ _ = _), ?_⟩ | refine ⟨_, _, _, (by assumption : (_ : Option Obj) = _), ?_⟩ | refine ⟨_, _, _, (by assumption : RO.c _ _ _ = _), ?_⟩ | refine ⟨_, (by assumption : Row _ _ _ _), ?_⟩ | refine ⟨_, (by assumption : Cell _ _ _ _ _), ?_⟩ | refine ⟨_, _, _, (by assumption : Cell _ _ _ _ _), ?_⟩ | refine ⟨_, Or.inl (by assumption), ?_⟩ | refine ⟨_, _, _, Or.inl (by assumption), ?_⟩ | refine And.intro (ints_one _) ?_ | refine And.intro (by omega) ?_ | refine d1 ?_ | refine d2 ?_ | refine d3 ?_ | refine d4 ?_ | refine go G188 400 hC (by kernel_rfl) ?_); (conv => whnf))))
      all_goals first
        | exact absurd ‹decide ((i : Int) < (l.length : Int)) = !true› (by simp; omega)
        | skip
      · have hne : g l i ≠ x := by simpa using ‹(g l i == x) = false›
        have hno : l.contains x = false := notMem fun k hk e => by
          rcases Nat.lt_trichotomy k i with hki | rfl | hki
          · have := hlo k hki; omega
          · exact hne e
          · have := hs i k hki hk; have := hhi i (by omega) hin; omega
        exact ⟨⟨i, by rw [hno]; rfl⟩, rfl, rfl⟩
      · have he : g l i = x := by simpa using ‹(g l i == x) = !false›
        exact ⟨⟨i, by rw [show l.contains x = true by simpa using he ▸ g_mem hin]; rfl⟩, rfl, rfl⟩
    · have hin : i = l.length := by omega
      ((try (conv => whnf)); repeat ((first | refine And.intro ?_ True.intro | refine And.intro ⟨by omega, by omega⟩ ?_ | refine ⟨_, (by assumption : RO.c _ _ _ = _), ?_⟩ | refine ⟨_, _, _, (by assumption : (_ : Option Obj) = _), ?_⟩ | refine ⟨_, _, _, (by assumption : RO.c _ _ _ = _), ?_⟩ | refine ⟨_, (by assumption : Row _ _ _ _), ?_⟩ | refine ⟨_, (by assumption : Cell _ _ _ _ _), ?_⟩ | refine ⟨_, _, _, (by assumption : Cell _ _ _ _ _), ?_⟩ | refine ⟨_, Or.inl (by assumption), ?_⟩ | refine ⟨_, _, _, Or.inl (by assumption), ?_⟩ | refine And.intro (ints_one _) ?_ | refine And.intro (by omega) ?_ | refine d1 ?_ | refine d2 ?_ | refine d3 ?_ | refine d4 ?_ | refine go G188 400 hC (by kernel_rfl) ?_); (conv => whnf)))
      all_goals try ((refine ⟨fun _ => ?_, fun _ => ?_⟩) <;> ((try (conv => whnf)); repeat ((first | refine And.intro ?_ True.intro | refine And.intro ⟨by omega, by omega⟩ ?_ | refine ⟨_, (by assumption : RO.c _ _ _ = _), ?_⟩ | refine ⟨_, _, _, (by assumption : (_ : Option Obj) = _), ?_⟩ | refine ⟨_, _, _, (by assumption : RO.c _ _ _ = _), ?_⟩ | refine ⟨_, (by assumption : Row _ _ _ _), ?_⟩ | refine ⟨_, (by assumption : Cell _ _ _ _ _), ?_⟩ | refine ⟨_, _, _, (by assumption : Cell _ _ _ _ _), ?_⟩ | refine ⟨_, Or.inl (by assumption), ?_⟩ | refine ⟨_, _, _, Or.inl (by assumption), ?_⟩ | refine And.intro (ints_one _) ?_ | refine And.intro (by omega) ?_ | refine d1 ?_ | refine d2 ?_ | refine d3 ?_ | refine d4 ?_ | refine go G188 400 hC (by kernel_rfl) ?_); (conv => whnf))))
      · exact absurd ‹decide ((i : Int) < (l.length : Int)) = true› (by simp; omega)
      · have hno : l.contains x = false := notMem fun k hk e => by have := hlo k (by omega); omega
        exact ⟨⟨i, by rw [hno]; rfl⟩, rfl, rfl⟩
end Go.Proofs.YtoefoaabnjeofaaGreat
namespace Go.Proofs.YtoefoaabnjeofaaGreat
open Go.SX
set_option maxHeartbeats 2000000
set_option maxRecDepth 20000
def onK (on : List Int) (x : Int) : Bool := on.contains (max x (IntKind.i64.wrap (0 - x)))
def wit (p on : List Int) : List Int := p.filter (onK on)
theorem wit_take {p on : List Int} {i : Nat} (h : i < p.length) : wit (p.take (i + 1)) on = wit (p.take i) on ++ (match onK on (g p i) with | true => [g p i] | false => []) := by
  rw [List.take_add_one, g_get h]
  simp only [wit, Option.toList_some, List.filter_append, List.filter_cons, List.filter_nil]
  cases onK on (g p i) <;> rfl
theorem wit_len (p on : List Int) : (wit p on).length ≤ p.length := List.length_filter_le _ _
def G166 : Gv := ⟨[], [], []⟩
theorem within_spec {u v : Value} {p on : List Int} {h : RO} {m : Hp} (ha : IntS h u p) (hb : IntS h v on) (hs : Asc on) (hl : p.length ≤ 1000000000) :
    Con Tryz.prog 166 [u, v] h m fun e h' m' => (∃ s, e = .returned s ∧ IntS h' s (wit p on)) ∧ m' = m := by
  obtain ⟨x, c, rfl, hr⟩ := ha.s
  have hla := ha.len
  refine fn_of (nt := 32) T Tryz.func166 rfl (by kernel_rfl) Tryz.ntmps166 (by simp) T_ok T_mixed fun C hC => ?_
  simp only [Tryz.f166, argFr, Nat.zero_add, Nat.reduceAdd] at hC ⊢
  ((try (conv => whnf)); repeat ((first | refine And.intro ?_ True.intro | refine And.intro ⟨by omega, by omega⟩ ?_ | refine ⟨_, (by assumption : RO.c _ _ _ = _), ?_⟩ | refine ⟨_, _, _, (by assumption : (_ : Option Obj) = _), ?_⟩ | refine ⟨_, _, _, (by assumption : RO.c _ _ _ = _), ?_⟩ | refine ⟨_, (by assumption : Row _ _ _ _), ?_⟩ | refine ⟨_, (by assumption : Cell _ _ _ _ _), ?_⟩ | refine ⟨_, _, _, (by assumption : Cell _ _ _ _ _), ?_⟩ | refine ⟨_, Or.inl (by assumption), ?_⟩ | refine ⟨_, _, _, Or.inl (by assumption), ?_⟩ | refine And.intro (ints_one _) ?_ | refine And.intro (by omega) ?_ | refine d1 ?_ | refine d2 ?_ | refine d3 ?_ | refine d4 ?_ | refine go G166 400 hC (by kernel_rfl) ?_); (conv => whnf)))
  refine halt (sx_loop (X := Nat × Value) (fun i => [(1, .v v), (5, .own 5 i.2), (10, .v (.slice x p.length c)), (11, .v (.int .i64 p.length)), (12, .v (.int .i64 i.1))])
    (fun i => [(5, .row i.2 3 1 (wit (p.take i.1) on).length (ints (wit (p.take i.1) on)))])
    (fun i h' m' => i.1 ≤ p.length ∧ IntS h' i.2 (wit (p.take i.1) on) ∧ h.le h' ∧ m' = m) (fun i => p.length - i.1) (0, .slice none 0 0) ⟨[], ?_⟩ ⟨by simp, IntS.nil h, RO.le.refl _, rfl⟩ ?_)
  · exact ⟨trivial, ⟨rfl, ⟨rfl, rfl, rfl⟩, rfl, rfl, rfl, trivial⟩, ⟨rfl, rfl, rfl⟩, trivial⟩
  rintro ⟨i, s⟩ h' m' _ ⟨hi, hn, hle, rfl⟩
  dsimp only at hi hn ⊢
  ((try (conv => whnf)); repeat ((first | refine And.intro ?_ True.intro | refine And.intro ⟨by omega, by omega⟩ ?_ | refine ⟨_, (by assumption : RO.c _ _ _ = _), ?_⟩ | refine ⟨_, _, _, (by assumption : (_ : Option Obj) = _), ?_⟩ | refine ⟨_, _, _, (by assumption : RO.c _ _ _ = _), ?_⟩ | refine ⟨_, (by assumption : Row _ _ _ _), ?_⟩ | refine ⟨_, (by assumption : Cell _ _ _ _ _), ?_⟩ | refine ⟨_, _, _, (by assumption : Cell _ _ _ _ _), ?_⟩ | refine ⟨_, Or.inl (by assumption), ?_⟩ | refine ⟨_, _, _, Or.inl (by assumption), ?_⟩ | refine And.intro (ints_one _) ?_ | refine And.intro (by omega) ?_ | refine d1 ?_ | refine d2 ?_ | refine d3 ?_ | refine d4 ?_ | refine go G166 400 hC (by kernel_rfl) ?_); (conv => whnf)))
  refine ⟨fun hlt => ?_, fun hge => ?_⟩
  · have hlt : i < p.length := by simpa using hlt
    obtain ⟨b, q, rfl, hc⟩ := (ha.mono hle).get hlt
    have c1 := hc i hlt
    have hwt := wit_take (on := on) hlt
    have hwl := wit_len (p.take i) on
    ((try (conv => whnf)); repeat ((first | refine And.intro ?_ True.intro | refine And.intro ⟨by omega, by omega⟩ ?_ | refine ⟨_, (by assumption : RO.c _ _ _ = _), ?_⟩ | refine ⟨_, _, _, (by assumption : (_ : Option Obj) = _), ?_⟩ | refine ⟨_, _, _, (by assumption : RO.c _ _ _ = _), ?_⟩ | refine ⟨_, (by assumption : Row _ _ _ _), ?_⟩ | refine ⟨_, (by assumption : Cell _ _ _ _ _), ?_⟩ | refine ⟨_, _, _, (by assumption : Cell _ _ _ _ _), ?_⟩ | refine ⟨_, Or.inl (by assumption), ?_⟩ | refine ⟨_, _, _, Or.inl (by assumption), ?_⟩ | refine And.intro (ints_one _) ?_ | refine And.intro (by omega) ?_ | refine d1 ?_ | refine d2 ?_ | refine d3 ?_ | refine d4 ?_ | refine go G166 400 hC (by kernel_rfl) ?_); (conv => whnf)))
    refine Con.mono (bsearch_spec (hb.mono hle) hs) ?_
    rintro _ h2 m2 hle2 ⟨⟨n, rfl⟩, rfl, rfl⟩
    ((try (conv => whnf)); repeat ((first | refine And.intro ?_ True.intro | refine And.intro ⟨by omega, by omega⟩ ?_ | refine ⟨_, (by assumption : RO.c _ _ _ = _), ?_⟩ | refine ⟨_, _, _, (by assumption : (_ : Option Obj) = _), ?_⟩ | refine ⟨_, _, _, (by assumption : RO.c _ _ _ = _), ?_⟩ | refine ⟨_, (by assumption : Row _ _ _ _), ?_⟩ | refine ⟨_, (by assumption : Cell _ _ _ _ _), ?_⟩ | refine ⟨_, _, _, (by assumption : Cell _ _ _ _ _), ?_⟩ | refine ⟨_, Or.inl (by assumption), ?_⟩ | refine ⟨_, _, _, Or.inl (by assumption), ?_⟩ | refine And.intro (ints_one _) ?_ | refine And.intro (by omega) ?_ | refine d1 ?_ | refine d2 ?_ | refine d3 ?_ | refine d4 ?_ | refine go G166 400 hC (by kernel_rfl) ?_); (conv => whnf)))
    refine ⟨fun he => ?_, fun he => ?_⟩
    · ((try (conv => whnf)); repeat ((first | refine And.intro ?_ True.intro | refine And.intro ⟨by omega, by omega⟩ ?_ | refine ⟨_, (by assumption : RO.c _ _ _ = _), ?_⟩ | refine ⟨_, _, _, (by assumption : (_ : Option Obj) = _), ?_⟩ | refine ⟨_, _, _, (by assumption : RO.c _ _ _ = _), ?_⟩ | refine ⟨_, (by assumption : Row _ _ _ _), ?_⟩ | refine ⟨_, (by assumption : Cell _ _ _ _ _), ?_⟩ | refine ⟨_, _, _, (by assumption : Cell _ _ _ _ _), ?_⟩ | refine ⟨_, Or.inl (by assumption), ?_⟩ | refine ⟨_, _, _, Or.inl (by assumption), ?_⟩ | refine And.intro (ints_one _) ?_ | refine And.intro (by omega) ?_ | refine d1 ?_ | refine d2 ?_ | refine d3 ?_ | refine d4 ?_ | refine go G166 400 hC (by kernel_rfl) ?_); (conv => whnf)))
      have he : onK on (g p i) = true := he
      rw [he] at hwt
      have hlen : (wit (p.take (i + 1)) on).length = (wit (p.take i) on).length + 1 := by rw [hwt]; simp
      have hlt2 : (p.take i).length ≤ p.length := by simp; omega
      refine ⟨rfl, by show ((wit (p.take i) on).length + 1) * 8 ≤ 140737488355328; omega, fun a3 c3 h3 hle3 hrow3 => ?_⟩
      change Row h3 1 (.slice a3 ((wit (p.take i) on).length + 1) c3) (ints (wit (p.take i) on) ++ [.int .i64 (g p i)]) at hrow3
      have hin : ints (wit (p.take i) on) ++ [.int .i64 (g p i)] = ints (wit (p.take (i + 1)) on) := by rw [hwt]; simp [ints]
      rw [hin] at hrow3
      ((try (conv => whnf)); repeat ((first | refine And.intro ?_ True.intro | refine And.intro ⟨by omega, by omega⟩ ?_ | refine ⟨_, (by assumption : RO.c _ _ _ = _), ?_⟩ | refine ⟨_, _, _, (by assumption : (_ : Option Obj) = _), ?_⟩ | refine ⟨_, _, _, (by assumption : RO.c _ _ _ = _), ?_⟩ | refine ⟨_, (by assumption : Row _ _ _ _), ?_⟩ | refine ⟨_, (by assumption : Cell _ _ _ _ _), ?_⟩ | refine ⟨_, _, _, (by assumption : Cell _ _ _ _ _), ?_⟩ | refine ⟨_, Or.inl (by assumption), ?_⟩ | refine ⟨_, _, _, Or.inl (by assumption), ?_⟩ | refine And.intro (ints_one _) ?_ | refine And.intro (by omega) ?_ | refine d1 ?_ | refine d2 ?_ | refine d3 ?_ | refine d4 ?_ | refine go G166 400 hC (by kernel_rfl) ?_); (conv => whnf)))
      refine halt ⟨(i + 1, .slice a3 ((wit (p.take i) on).length + 1) c3), [(5, 29)], ⟨by simp [sinj], ⟨rfl, ⟨rfl, rfl⟩, rfl, rfl, stepI (by omega), trivial⟩, ?_, trivial⟩, hle3, ⟨hlt, ?_, hle.trans hle3, rfl⟩, by dsimp only; omega⟩
      · show some (BS.row _ _ _ ((wit (p.take i) on).length + 1) (ints (wit (p.take i) on) ++ [.int .i64 (g p i)])) = _
        rw [hin, ← hlen]; rfl
      · refine ⟨⟨a3, c3, by dsimp only; rw [hlen], by dsimp only; rw [hlen]; exact hrow3⟩, by dsimp only; omega, fun z hz => ?_⟩
        dsimp only at hz
        exact ha.rng z (List.mem_of_mem_take (List.mem_filter.1 hz).1)
    · have he : onK on (g p i) = false := he
      rw [he] at hwt
      simp only [List.append_nil] at hwt
      ((try (conv => whnf)); repeat ((first | refine And.intro ?_ True.intro | refine And.intro ⟨by omega, by omega⟩ ?_ | refine ⟨_, (by assumption : RO.c _ _ _ = _), ?_⟩ | refine ⟨_, _, _, (by assumption : (_ : Option Obj) = _), ?_⟩ | refine ⟨_, _, _, (by assumption : RO.c _ _ _ = _), ?_⟩ | refine ⟨_, (by assumption : Row _ _ _ _), ?_⟩ | refine ⟨_, (by assumption : Cell _ _ _ _ _), ?_⟩ | refine ⟨_, _, _, (by assumption : Cell _ _ _ _ _), ?_⟩ | refine ⟨_, Or.inl (by assumption), ?_⟩ | refine ⟨_, _, _, Or.inl (by assumption), ?_⟩ | refine And.intro (ints_one _) ?_ | refine And.intro (by omega) ?_ | refine d1 ?_ | refine d2 ?_ | refine d3 ?_ | refine d4 ?_ | refine go G166 400 hC (by kernel_rfl) ?_); (conv => whnf)))
      refine halt ⟨(i + 1, s), [(5, 5)], ⟨by simp [sinj], ⟨rfl, ⟨rfl, rfl⟩, rfl, rfl, stepI (by omega), trivial⟩, by rw [hwt]; exact ⟨rfl, trivial⟩⟩, RO.le.refl _, ⟨hlt, by rw [hwt]; exact hn, hle, rfl⟩, by dsimp only; omega⟩
  · have hge : i = p.length := by simp at hge; omega
    subst hge
    rw [List.take_length] at hn
    ((try (conv => whnf)); repeat ((first | refine And.intro ?_ True.intro | refine And.intro ⟨by omega, by omega⟩ ?_ | refine ⟨_, (by assumption : RO.c _ _ _ = _), ?_⟩ | refine ⟨_, _, _, (by assumption : (_ : Option Obj) = _), ?_⟩ | refine ⟨_, _, _, (by assumption : RO.c _ _ _ = _), ?_⟩ | refine ⟨_, (by assumption : Row _ _ _ _), ?_⟩ | refine ⟨_, (by assumption : Cell _ _ _ _ _), ?_⟩ | refine ⟨_, _, _, (by assumption : Cell _ _ _ _ _), ?_⟩ | refine ⟨_, Or.inl (by assumption), ?_⟩ | refine ⟨_, _, _, Or.inl (by assumption), ?_⟩ | refine And.intro (ints_one _) ?_ | refine And.intro (by omega) ?_ | refine d1 ?_ | refine d2 ?_ | refine d3 ?_ | refine d4 ?_ | refine go G166 400 hC (by kernel_rfl) ?_); (conv => whnf)))
    exact ⟨⟨s, rfl, hn⟩, rfl⟩
end Go.Proofs.YtoefoaabnjeofaaGreat
namespace Go.Proofs.YtoefoaabnjeofaaGreat
open Go.SX
set_option maxHeartbeats 2000000
set_option maxRecDepth 20000
def G243 : Gv := ⟨[], [], []⟩
theorem may1_spec {x y : Int} {h : RO} {m : Hp} : Con Tryz.prog 243 [.int .i64 x, .int .i64 y] h m fun e h' m' => e = .returned (.bool (x == y || x == IntKind.i64.wrap (0 - y))) ∧ h' = h ∧ m' = m := by
  refine fn_of (nt := 14) T Tryz.func243 rfl (by kernel_rfl) Tryz.ntmps243 (by simp) T_ok T_mixed fun C hC => ?_
  simp only [Tryz.f243, argFr, Nat.zero_add, Nat.reduceAdd] at hC ⊢
  ((try (conv => whnf)); repeat ((first | refine And.intro ?_ True.intro | refine And.intro ⟨by omega, by omega⟩ ?_ | refine ⟨_, (by assumption : RO.c _ _ _ = _), ?_⟩ | refine ⟨_, _, _, (by assumption : (_ : Option Obj) = _), ?_⟩ | refine ⟨_, _, _, (by assumption : RO.c _ _ _ = _), ?_⟩ | refine ⟨_, (by assumption : Row _ _ _ _), ?_⟩ | refine ⟨_, (by assumption : Cell _ _ _ _ _), ?_⟩ | refine ⟨_, _, _, (by assumption : Cell _ _ _ _ _), ?_⟩ | refine ⟨_, Or.inl (by assumption), ?_⟩ | refine ⟨_, _, _, Or.inl (by assumption), ?_⟩ | refine And.intro (ints_one _) ?_ | refine And.intro (by omega) ?_ | refine d1 ?_ | refine d2 ?_ | refine d3 ?_ | refine d4 ?_ | refine go G243 400 hC (by kernel_rfl) ?_); (conv => whnf)))
  refine ⟨fun he => ?_, fun he => ?_⟩
  · ((try (conv => whnf)); repeat ((first | refine And.intro ?_ True.intro | refine And.intro ⟨by omega, by omega⟩ ?_ | refine ⟨_, (by assumption : RO.c _ _ _ = _), ?_⟩ | refine ⟨_, _, _, (by assumption : (_ : Option Obj) = _), ?_⟩ | refine ⟨_, _, _, (by assumption : RO.c _ _ _ = _), ?_⟩ | refine ⟨_, (by assumption : Row _ _ _ _), ?_⟩ | refine ⟨_, (by assumption : Cell _ _ _ _ _), ?_⟩ | refine ⟨_, _, _, (by assumption : Cell _ _ _ _ _), ?_⟩ | refine ⟨_, Or.inl (by assumption), ?_⟩ | refine ⟨_, _, _, Or.inl (by assumption), ?_⟩ | refine And.intro (ints_one _) ?_ | refine And.intro (by omega) ?_ | refine d1 ?_ | refine d2 ?_ | refine d3 ?_ | refine d4 ?_ | refine go G243 400 hC (by kernel_rfl) ?_); (conv => whnf)))
    exact ⟨by rw [he]; rfl, rfl, rfl⟩
  · ((try (conv => whnf)); repeat ((first | refine And.intro ?_ True.intro | refine And.intro ⟨by omega, by omega⟩ ?_ | refine ⟨_, (by assumption : RO.c _ _ _ = _), ?_⟩ | refine ⟨_, _, _, (by assumption : (_ : Option Obj) = _), ?_⟩ | refine ⟨_, _, _, (by assumption : RO.c _ _ _ = _), ?_⟩ | refine ⟨_, (by assumption : Row _ _ _ _), ?_⟩ | refine ⟨_, (by assumption : Cell _ _ _ _ _), ?_⟩ | refine ⟨_, _, _, (by assumption : Cell _ _ _ _ _), ?_⟩ | refine ⟨_, Or.inl (by assumption), ?_⟩ | refine ⟨_, _, _, Or.inl (by assumption), ?_⟩ | refine And.intro (ints_one _) ?_ | refine And.intro (by omega) ?_ | refine d1 ?_ | refine d2 ?_ | refine d3 ?_ | refine d4 ?_ | refine go G243 400 hC (by kernel_rfl) ?_); (conv => whnf)))
    have he : (x == y) = true := he
    exact ⟨by rw [he]; rfl, rfl, rfl⟩

def G242 : Gv := ⟨[], [], []⟩
theorem equalFunc_may {u v : Value} {a b : List Int} {h : RO} {m : Hp} (ha : IntS h u a) (hb : IntS h v b) :
    Con Tryz.prog 242 [u, v, .func (.func 243) #[] #[]] h m fun e h' m' => e = .returned (.bool (isPoint b a)) ∧ h' = h ∧ m' = m := by
  obtain ⟨x, c, rfl, hr⟩ := ha.s
  obtain ⟨y, d, rfl, hs⟩ := hb.s
  have hla := ha.len
  refine fn_of (nt := 32) T Tryz.func242 rfl (by kernel_rfl) Tryz.ntmps242 (by simp) T_ok T_mixed fun C hC => ?_
  simp only [Tryz.f242, argFr, Nat.zero_add, Nat.reduceAdd] at hC ⊢
  ((try (conv => whnf)); repeat ((first | refine And.intro ?_ True.intro | refine And.intro ⟨by omega, by omega⟩ ?_ | refine ⟨_, (by assumption : RO.c _ _ _ = _), ?_⟩ | refine ⟨_, _, _, (by assumption : (_ : Option Obj) = _), ?_⟩ | refine ⟨_, _, _, (by assumption : RO.c _ _ _ = _), ?_⟩ | refine ⟨_, (by assumption : Row _ _ _ _), ?_⟩ | refine ⟨_, (by assumption : Cell _ _ _ _ _), ?_⟩ | refine ⟨_, _, _, (by assumption : Cell _ _ _ _ _), ?_⟩ | refine ⟨_, Or.inl (by assumption), ?_⟩ | refine ⟨_, _, _, Or.inl (by assumption), ?_⟩ | refine And.intro (ints_one _) ?_ | refine And.intro (by omega) ?_ | refine d1 ?_ | refine d2 ?_ | refine d3 ?_ | refine d4 ?_ | refine go G242 400 hC (by kernel_rfl) ?_); (conv => whnf)))
  refine ⟨fun hx => ?_, fun hx => ?_⟩
  · ((try (conv => whnf)); repeat ((first | refine And.intro ?_ True.intro | refine And.intro ⟨by omega, by omega⟩ ?_ | refine ⟨_, (by assumption : RO.c _ _ _ = _), ?_⟩ | refine ⟨_, _, _, (by assumption : (_ : Option Obj) = _), ?_⟩ | refine ⟨_, _, _, (by assumption : RO.c _ _ _ = _), ?_⟩ | refine ⟨_, (by assumption : Row _ _ _ _), ?_⟩ | refine ⟨_, (by assumption : Cell _ _ _ _ _), ?_⟩ | refine ⟨_, _, _, (by assumption : Cell _ _ _ _ _), ?_⟩ | refine ⟨_, Or.inl (by assumption), ?_⟩ | refine ⟨_, _, _, Or.inl (by assumption), ?_⟩ | refine And.intro (ints_one _) ?_ | refine And.intro (by omega) ?_ | refine d1 ?_ | refine d2 ?_ | refine d3 ?_ | refine d4 ?_ | refine go G242 400 hC (by kernel_rfl) ?_); (conv => whnf)))
    have hx : a.length ≠ b.length := by simp at hx; omega
    exact ⟨by rw [isPoint, show (a.length == b.length) = false by simpa using hx]; rfl, rfl, rfl⟩
  have hl : a.length = b.length := by simp at hx; omega
  ((try (conv => whnf)); repeat ((first | refine And.intro ?_ True.intro | refine And.intro ⟨by omega, by omega⟩ ?_ | refine ⟨_, (by assumption : RO.c _ _ _ = _), ?_⟩ | refine ⟨_, _, _, (by assumption : (_ : Option Obj) = _), ?_⟩ | refine ⟨_, _, _, (by assumption : RO.c _ _ _ = _), ?_⟩ | refine ⟨_, (by assumption : Row _ _ _ _), ?_⟩ | refine ⟨_, (by assumption : Cell _ _ _ _ _), ?_⟩ | refine ⟨_, _, _, (by assumption : Cell _ _ _ _ _), ?_⟩ | refine ⟨_, Or.inl (by assumption), ?_⟩ | refine ⟨_, _, _, Or.inl (by assumption), ?_⟩ | refine And.intro (ints_one _) ?_ | refine And.intro (by omega) ?_ | refine d1 ?_ | refine d2 ?_ | refine d3 ?_ | refine d4 ?_ | refine go G242 400 hC (by kernel_rfl) ?_); (conv => whnf)))
  refine halt (sx_loop (X := Nat) (fun i => [(1, .v (.slice y b.length d)), (2, .v (.func (.func 243) #[] #[])), (15, .v (.slice x a.length c)), (16, .v (.int .i64 a.length)), (17, .v (.int .i64 i))]) (fun _ => [])
    (fun i h' m' => i ≤ a.length ∧ (∀ j, j < i → okI b a j = true) ∧ h' = h ∧ m' = m) (fun i => a.length - i) 0 ⟨[], ?_⟩ ⟨by omega, by simp, rfl, rfl⟩ ?_)
  · exact ⟨trivial, ⟨rfl, rfl, rfl, rfl, rfl, trivial⟩, trivial⟩
  rintro i h' m' _ ⟨hi, hn, rfl, rfl⟩
  ((try (conv => whnf)); repeat ((first | refine And.intro ?_ True.intro | refine And.intro ⟨by omega, by omega⟩ ?_ | refine ⟨_, (by assumption : RO.c _ _ _ = _), ?_⟩ | refine ⟨_, _, _, (by assumption : (_ : Option Obj) = _), ?_⟩ | refine ⟨_, _, _, (by assumption : RO.c _ _ _ = _), ?_⟩ | refine ⟨_, (by assumption : Row _ _ _ _), ?_⟩ | refine ⟨_, (by assumption : Cell _ _ _ _ _), ?_⟩ | refine ⟨_, _, _, (by assumption : Cell _ _ _ _ _), ?_⟩ | refine ⟨_, Or.inl (by assumption), ?_⟩ | refine ⟨_, _, _, Or.inl (by assumption), ?_⟩ | refine And.intro (ints_one _) ?_ | refine And.intro (by omega) ?_ | refine d1 ?_ | refine d2 ?_ | refine d3 ?_ | refine d4 ?_ | refine go G242 400 hC (by kernel_rfl) ?_); (conv => whnf)))
  refine ⟨fun hlt => ?_, fun hge => ?_⟩
  · have hlt : i < a.length := by simpa using hlt
    have hlt' : i < b.length := hl ▸ hlt
    obtain ⟨p, q, rfl, hc⟩ := ha.get hlt
    obtain ⟨p', q', rfl, hd⟩ := hb.get hlt'
    have c1 := hc i hlt
    have c2 := hd i hlt'
    ((try (conv => whnf)); repeat ((first | refine And.intro ?_ True.intro | refine And.intro ⟨by omega, by omega⟩ ?_ | refine ⟨_, (by assumption : RO.c _ _ _ = _), ?_⟩ | refine ⟨_, _, _, (by assumption : (_ : Option Obj) = _), ?_⟩ | refine ⟨_, _, _, (by assumption : RO.c _ _ _ = _), ?_⟩ | refine ⟨_, (by assumption : Row _ _ _ _), ?_⟩ | refine ⟨_, (by assumption : Cell _ _ _ _ _), ?_⟩ | refine ⟨_, _, _, (by assumption : Cell _ _ _ _ _), ?_⟩ | refine ⟨_, Or.inl (by assumption), ?_⟩ | refine ⟨_, _, _, Or.inl (by assumption), ?_⟩ | refine And.intro (ints_one _) ?_ | refine And.intro (by omega) ?_ | refine d1 ?_ | refine d2 ?_ | refine d3 ?_ | refine d4 ?_ | refine go G242 400 hC (by kernel_rfl) ?_); (conv => whnf)))
    (refine Con.mono (may1_spec) ?_; rintro _ _ _ - ⟨rfl, rfl, rfl⟩; ((try (conv => whnf)); repeat ((first | refine And.intro ?_ True.intro | refine And.intro ⟨by omega, by omega⟩ ?_ | refine ⟨_, (by assumption : RO.c _ _ _ = _), ?_⟩ | refine ⟨_, _, _, (by assumption : (_ : Option Obj) = _), ?_⟩ | refine ⟨_, _, _, (by assumption : RO.c _ _ _ = _), ?_⟩ | refine ⟨_, (by assumption : Row _ _ _ _), ?_⟩ | refine ⟨_, (by assumption : Cell _ _ _ _ _), ?_⟩ | refine ⟨_, _, _, (by assumption : Cell _ _ _ _ _), ?_⟩ | refine ⟨_, Or.inl (by assumption), ?_⟩ | refine ⟨_, _, _, Or.inl (by assumption), ?_⟩ | refine And.intro (ints_one _) ?_ | refine And.intro (by omega) ?_ | refine d1 ?_ | refine d2 ?_ | refine d3 ?_ | refine d4 ?_ | refine go G242 400 hC (by kernel_rfl) ?_); (conv => whnf))))
    refine ⟨fun he => ?_, fun he => ?_⟩
    · ((try (conv => whnf)); repeat ((first | refine And.intro ?_ True.intro | refine And.intro ⟨by omega, by omega⟩ ?_ | refine ⟨_, (by assumption : RO.c _ _ _ = _), ?_⟩ | refine ⟨_, _, _, (by assumption : (_ : Option Obj) = _), ?_⟩ | refine ⟨_, _, _, (by assumption : RO.c _ _ _ = _), ?_⟩ | refine ⟨_, (by assumption : Row _ _ _ _), ?_⟩ | refine ⟨_, (by assumption : Cell _ _ _ _ _), ?_⟩ | refine ⟨_, _, _, (by assumption : Cell _ _ _ _ _), ?_⟩ | refine ⟨_, Or.inl (by assumption), ?_⟩ | refine ⟨_, _, _, Or.inl (by assumption), ?_⟩ | refine And.intro (ints_one _) ?_ | refine And.intro (by omega) ?_ | refine d1 ?_ | refine d2 ?_ | refine d3 ?_ | refine d4 ?_ | refine go G242 400 hC (by kernel_rfl) ?_); (conv => whnf)))
      have he : okI b a i = false := by simpa [okI] using he
      exact ⟨by rw [isPoint, allN_false hlt he, Bool.and_false]; rfl, rfl, rfl⟩
    · ((try (conv => whnf)); repeat ((first | refine And.intro ?_ True.intro | refine And.intro ⟨by omega, by omega⟩ ?_ | refine ⟨_, (by assumption : RO.c _ _ _ = _), ?_⟩ | refine ⟨_, _, _, (by assumption : (_ : Option Obj) = _), ?_⟩ | refine ⟨_, _, _, (by assumption : RO.c _ _ _ = _), ?_⟩ | refine ⟨_, (by assumption : Row _ _ _ _), ?_⟩ | refine ⟨_, (by assumption : Cell _ _ _ _ _), ?_⟩ | refine ⟨_, _, _, (by assumption : Cell _ _ _ _ _), ?_⟩ | refine ⟨_, Or.inl (by assumption), ?_⟩ | refine ⟨_, _, _, Or.inl (by assumption), ?_⟩ | refine And.intro (ints_one _) ?_ | refine And.intro (by omega) ?_ | refine d1 ?_ | refine d2 ?_ | refine d3 ?_ | refine d4 ?_ | refine go G242 400 hC (by kernel_rfl) ?_); (conv => whnf)))
      have he : okI b a i = true := by
        cases e : okI b a i with
        | true => rfl
        | false => rw [okI] at e; rw [e] at he; cases he
      exact halt ⟨i + 1, [], ⟨trivial, ⟨rfl, rfl, rfl, rfl, stepI (by omega), trivial⟩, trivial⟩, RO.le.refl _, ⟨hlt, allS hn he, rfl, rfl⟩, by omega⟩
  · have hge : i = a.length := by simp at hge; omega
    ((try (conv => whnf)); repeat ((first | refine And.intro ?_ True.intro | refine And.intro ⟨by omega, by omega⟩ ?_ | refine ⟨_, (by assumption : RO.c _ _ _ = _), ?_⟩ | refine ⟨_, _, _, (by assumption : (_ : Option Obj) = _), ?_⟩ | refine ⟨_, _, _, (by assumption : RO.c _ _ _ = _), ?_⟩ | refine ⟨_, (by assumption : Row _ _ _ _), ?_⟩ | refine ⟨_, (by assumption : Cell _ _ _ _ _), ?_⟩ | refine ⟨_, _, _, (by assumption : Cell _ _ _ _ _), ?_⟩ | refine ⟨_, Or.inl (by assumption), ?_⟩ | refine ⟨_, _, _, Or.inl (by assumption), ?_⟩ | refine And.intro (ints_one _) ?_ | refine And.intro (by omega) ?_ | refine d1 ?_ | refine d2 ?_ | refine d3 ?_ | refine d4 ?_ | refine go G242 400 hC (by kernel_rfl) ?_); (conv => whnf)))
    exact ⟨by rw [isPoint, allN_true (hge ▸ hn), hl]; simp; rfl, rfl, rfl⟩
end Go.Proofs.YtoefoaabnjeofaaGreat
namespace Go.Proofs.YtoefoaabnjeofaaGreat
open Go.SX
set_option maxHeartbeats 2000000
set_option maxRecDepth 20000
def G351 : Gv := ⟨[], [], []⟩
theorem pabs_spec {x : Int} {h : RO} {m : Hp} : Con Tryz.prog 351 [.int .i64 x] h m fun e h' m' => e = .returned (.int .i64 (max x (IntKind.i64.wrap (0 - x)))) ∧ h' = h ∧ m' = m := by
  refine fn_of (nt := 7) T Tryz.func351 rfl (by kernel_rfl) Tryz.ntmps351 (by simp) T_ok T_mixed fun C hC => ?_
  simp only [Tryz.f351, argFr, Nat.zero_add, Nat.reduceAdd] at hC ⊢
  ((try (conv => whnf)); repeat ((first | refine And.intro ?_ True.intro | refine And.intro ⟨by omega, by omega⟩ ?_ | refine ⟨_, (by assumption : RO.c _ _ _ = _), ?_⟩ | refine ⟨_, _, _, (by assumption : (_ : Option Obj) = _), ?_⟩ | refine ⟨_, _, _, (by assumption : RO.c _ _ _ = _), ?_⟩ | refine ⟨_, (by assumption : Row _ _ _ _), ?_⟩ | refine ⟨_, (by assumption : Cell _ _ _ _ _), ?_⟩ | refine ⟨_, _, _, (by assumption : Cell _ _ _ _ _), ?_⟩ | refine ⟨_, Or.inl (by assumption), ?_⟩ | refine ⟨_, _, _, Or.inl (by assumption), ?_⟩ | refine And.intro (ints_one _) ?_ | refine And.intro (by omega) ?_ | refine d1 ?_ | refine d2 ?_ | refine d3 ?_ | refine d4 ?_ | refine go G351 400 hC (by kernel_rfl) ?_); (conv => whnf)))
  exact ⟨rfl, rfl, rfl⟩

def G302 : Gv := ⟨[], [], []⟩
theorem prises_spec {u : Value} {l : List Int} {h : RO} {m : Hp} (ha : IntS h u l) :
    Con Tryz.prog 302 [u] h m fun e h' m' => e = .returned (.bool (rises l)) ∧ h' = h ∧ m' = m := by
  obtain ⟨x, c, rfl, hr⟩ := ha.s
  have hla := ha.len
  refine fn_of (nt := 32) T Tryz.func302 rfl (by kernel_rfl) Tryz.ntmps302 (by simp) T_ok T_mixed fun C hC => ?_
  simp only [Tryz.f302, argFr, Nat.zero_add, Nat.reduceAdd] at hC ⊢
  ((try (conv => whnf)); repeat ((first | refine And.intro ?_ True.intro | refine And.intro ⟨by omega, by omega⟩ ?_ | refine ⟨_, (by assumption : RO.c _ _ _ = _), ?_⟩ | refine ⟨_, _, _, (by assumption : (_ : Option Obj) = _), ?_⟩ | refine ⟨_, _, _, (by assumption : RO.c _ _ _ = _), ?_⟩ | refine ⟨_, (by assumption : Row _ _ _ _), ?_⟩ | refine ⟨_, (by assumption : Cell _ _ _ _ _), ?_⟩ | refine ⟨_, _, _, (by assumption : Cell _ _ _ _ _), ?_⟩ | refine ⟨_, Or.inl (by assumption), ?_⟩ | refine ⟨_, _, _, Or.inl (by assumption), ?_⟩ | refine And.intro (ints_one _) ?_ | refine And.intro (by omega) ?_ | refine d1 ?_ | refine d2 ?_ | refine d3 ?_ | refine d4 ?_ | refine go G302 400 hC (by kernel_rfl) ?_); (conv => whnf)))
  refine halt (sx_loop (X := Nat) (fun i => [(0, .v (.slice x l.length c)), (5, .v (.slice x l.length c)), (6, .v (.int .i64 l.length)), (7, .v (.int .i64 i))]) (fun _ => [])
    (fun i h' m' => i ≤ l.length ∧ (∀ j, j < i → okR l j = true) ∧ h' = h ∧ m' = m) (fun i => l.length - i) 0 ⟨[], ?_⟩ ⟨by omega, by simp, rfl, rfl⟩ ?_)
  · exact ⟨trivial, ⟨rfl, rfl, rfl, rfl, trivial⟩, trivial⟩
  rintro i h' m' _ ⟨hi, hn, rfl, rfl⟩
  ((try (conv => whnf)); repeat ((first | refine And.intro ?_ True.intro | refine And.intro ⟨by omega, by omega⟩ ?_ | refine ⟨_, (by assumption : RO.c _ _ _ = _), ?_⟩ | refine ⟨_, _, _, (by assumption : (_ : Option Obj) = _), ?_⟩ | refine ⟨_, _, _, (by assumption : RO.c _ _ _ = _), ?_⟩ | refine ⟨_, (by assumption : Row _ _ _ _), ?_⟩ | refine ⟨_, (by assumption : Cell _ _ _ _ _), ?_⟩ | refine ⟨_, _, _, (by assumption : Cell _ _ _ _ _), ?_⟩ | refine ⟨_, Or.inl (by assumption), ?_⟩ | refine ⟨_, _, _, Or.inl (by assumption), ?_⟩ | refine And.intro (ints_one _) ?_ | refine And.intro (by omega) ?_ | refine d1 ?_ | refine d2 ?_ | refine d3 ?_ | refine d4 ?_ | refine go G302 400 hC (by kernel_rfl) ?_); (conv => whnf)))
  refine ⟨fun hlt => ?_, fun hge => ?_⟩
  · have hlt : i < l.length := by simpa using hlt
    obtain ⟨p, q, rfl, hc⟩ := ha.get hlt
    have c1 := hc i hlt
    have bad : okR l i = false → Ending.returned (.bool false) = Ending.returned (.bool (rises l)) := fun hb => by rw [rises, allN_false hlt hb]
    ((try (conv => whnf)); repeat ((first | refine And.intro ?_ True.intro | refine And.intro ⟨by omega, by omega⟩ ?_ | refine ⟨_, (by assumption : RO.c _ _ _ = _), ?_⟩ | refine ⟨_, _, _, (by assumption : (_ : Option Obj) = _), ?_⟩ | refine ⟨_, _, _, (by assumption : RO.c _ _ _ = _), ?_⟩ | refine ⟨_, (by assumption : Row _ _ _ _), ?_⟩ | refine ⟨_, (by assumption : Cell _ _ _ _ _), ?_⟩ | refine ⟨_, _, _, (by assumption : Cell _ _ _ _ _), ?_⟩ | refine ⟨_, Or.inl (by assumption), ?_⟩ | refine ⟨_, _, _, Or.inl (by assumption), ?_⟩ | refine And.intro (ints_one _) ?_ | refine And.intro (by omega) ?_ | refine d1 ?_ | refine d2 ?_ | refine d3 ?_ | refine d4 ?_ | refine go G302 400 hC (by kernel_rfl) ?_); (conv => whnf)))
    by_cases h0 : 0 < i
    · have e0 := predI (i := i) (by omega) h0
      have c0 : h'.c p (q + (IntKind.i64.wrap ((i : Int) - 1)).toNat) = some (.int .i64 (g l (i - 1))) := by rw [e0]; exact hc (i - 1) (by omega)
      iterate 4 (all_goals try ((refine ⟨fun _ => ?_, fun _ => ?_⟩) <;> ((try (conv => whnf)); repeat ((first | refine And.intro ?_ True.intro | refine And.intro ⟨by omega, by omega⟩ ?_ | refine ⟨_, (by assumption : RO.c _ _ _ = _), ?_⟩ | refine ⟨_, _, _, (by assumption : (_ : Option Obj) = _), ?_⟩ | refine ⟨_, _, _, (by assumption : RO.c _ _ _ = _), ?_⟩ | refine ⟨_, (by assumption : Row _ _ _ _), ?_⟩ | refine ⟨_, (by assumption : Cell _ _ _ _ _), ?_⟩ | refine ⟨_, _, _, (by assumption : Cell _ _ _ _ _), ?_⟩ | refine ⟨_, Or.inl (by assumption), ?_⟩ | refine ⟨_, _, _, Or.inl (by assumption), ?_⟩ | refine And.intro (ints_one _) ?_ | refine And.intro (by omega) ?_ | refine d1 ?_ | refine d2 ?_ | refine d3 ?_ | refine d4 ?_ | refine go G302 400 hC (by kernel_rfl) ?_); (conv => whnf)))))
      all_goals first
        | exact ⟨bad (by clear hC hn bad hc ha hr c1; (try clear c0 e0); simp_all [okR]), rfl, rfl⟩
        | exact halt ⟨i + 1, [], ⟨trivial, ⟨rfl, rfl, rfl, stepI (by omega), trivial⟩, trivial⟩, RO.le.refl _, ⟨hlt, allS hn (by clear hC hn bad hc ha hr c1; (try clear c0 e0); simp_all [okR]), rfl, rfl⟩, by omega⟩
    · iterate 4 (all_goals try ((refine ⟨fun _ => ?_, fun _ => ?_⟩) <;> ((try (conv => whnf)); repeat ((first | refine And.intro ?_ True.intro | refine And.intro ⟨by omega, by omega⟩ ?_ | refine ⟨_, (by assumption : RO.c _ _ _ = _), ?_⟩ | refine ⟨_, _, _, (by assumption : (_ : Option Obj) = _), ?_⟩ | refine ⟨_, _, _, (by assumption : RO.c _ _ _ = _), ?_⟩ | refine ⟨_, (by assumption : Row _ _ _ _), ?_⟩ | refine ⟨_, (by assumption : Cell _ _ _ _ _), ?_⟩ | refine ⟨_, _, _, (by assumption : Cell _ _ _ _ _), ?_⟩ | refine ⟨_, Or.inl (by assumption), ?_⟩ | refine ⟨_, _, _, Or.inl (by assumption), ?_⟩ | refine And.intro (ints_one _) ?_ | refine And.intro (by omega) ?_ | refine d1 ?_ | refine d2 ?_ | refine d3 ?_ | refine d4 ?_ | refine go G302 400 hC (by kernel_rfl) ?_); (conv => whnf)))))
      all_goals first
        | exact absurd (by simpa using ‹decide ((i : Int) > 0) = true›) h0
        | exact ⟨bad (by clear hC hn bad hc ha hr c1; simp_all [okR]), rfl, rfl⟩
        | exact halt ⟨i + 1, [], ⟨trivial, ⟨rfl, rfl, rfl, stepI (by omega), trivial⟩, trivial⟩, RO.le.refl _, ⟨hlt, allS hn (by clear hC hn bad hc ha hr c1; simp_all [okR]), rfl, rfl⟩, by omega⟩
  · have hge : i = l.length := by simp at hge; omega
    ((try (conv => whnf)); repeat ((first | refine And.intro ?_ True.intro | refine And.intro ⟨by omega, by omega⟩ ?_ | refine ⟨_, (by assumption : RO.c _ _ _ = _), ?_⟩ | refine ⟨_, _, _, (by assumption : (_ : Option Obj) = _), ?_⟩ | refine ⟨_, _, _, (by assumption : RO.c _ _ _ = _), ?_⟩ | refine ⟨_, (by assumption : Row _ _ _ _), ?_⟩ | refine ⟨_, (by assumption : Cell _ _ _ _ _), ?_⟩ | refine ⟨_, _, _, (by assumption : Cell _ _ _ _ _), ?_⟩ | refine ⟨_, Or.inl (by assumption), ?_⟩ | refine ⟨_, _, _, Or.inl (by assumption), ?_⟩ | refine And.intro (ints_one _) ?_ | refine And.intro (by omega) ?_ | refine d1 ?_ | refine d2 ?_ | refine d3 ?_ | refine d4 ?_ | refine go G302 400 hC (by kernel_rfl) ?_); (conv => whnf)))
    exact ⟨by rw [rises, allN_true (hge ▸ hn)]; rfl, rfl, rfl⟩
end Go.Proofs.YtoefoaabnjeofaaGreat
namespace Go.Proofs.YtoefoaabnjeofaaGreat
open Go.SX
theorem keyInt : KeyT Tryz.prog 3 (MapKept.IsKey (.int .i64)) := KeyT.plain (by kernel_rfl)
theorem keyStr : KeyT Tryz.prog 9 (MapKept.IsKey .string) := KeyT.plain (by kernel_rfl)
theorem isKeyInt (n : Int) : MapKept.IsKey (.int .i64) (.int .i64 n) := by trivial
theorem isKeyStr (s : ByteArray) : MapKept.IsKey .string (.string s) := by trivial
end Go.Proofs.YtoefoaabnjeofaaGreat
namespace Go.Proofs.YtoefoaabnjeofaaGreat
open Go.SX
set_option maxHeartbeats 2000000
set_option maxRecDepth 20000
def G181 : Gv := ⟨[], [], []⟩
theorem indexFunc {u : Value} {l : List Int} {k : Nat} {cap : Array Value} {p : Int → Bool} {h : RO} {m : Hp} (ha : IntS h u l)
    (hf : ∀ x, Con Tryz.prog k (.int .i64 x :: cap.toList) h m fun e h' m' => e = .returned (.bool (p x)) ∧ h' = h ∧ m' = m) :
    Con Tryz.prog 181 [u, .func (.func k) #[] cap] h m fun e h' m' => (∃ n, e = .returned (.int .i64 n) ∧ (decide (n ≥ 0) = l.any p)) ∧ h' = h ∧ m' = m := by
  obtain ⟨x, c, rfl, hr⟩ := ha.s
  have hla := ha.len
  refine fn_of (nt := 19) T Tryz.func181 rfl (by kernel_rfl) Tryz.ntmps181 (by simp) T_ok T_mixed fun C hC => ?_
  simp only [Tryz.f181, argFr, Nat.zero_add, Nat.reduceAdd] at hC ⊢
  ((try (conv => whnf)); repeat ((first | refine And.intro ?_ True.intro | refine And.intro ⟨by omega, by omega⟩ ?_ | refine ⟨_, (by assumption : RO.c _ _ _ = _), ?_⟩ | refine ⟨_, _, _, (by assumption : (_ : Option Obj) = _), ?_⟩ | refine ⟨_, _, _, (by assumption : RO.c _ _ _ = _), ?_⟩ | refine ⟨_, (by assumption : Row _ _ _ _), ?_⟩ | refine ⟨_, (by assumption : Cell _ _ _ _ _), ?_⟩ | refine ⟨_, _, _, (by assumption : Cell _ _ _ _ _), ?_⟩ | refine ⟨_, Or.inl (by assumption), ?_⟩ | refine ⟨_, _, _, Or.inl (by assumption), ?_⟩ | refine And.intro (ints_one _) ?_ | refine And.intro (by omega) ?_ | refine d1 ?_ | refine d2 ?_ | refine d3 ?_ | refine d4 ?_ | refine go G181 400 hC (by kernel_rfl) ?_); (conv => whnf)))
  refine halt (sx_loop (X := Nat) (fun i => [(0, .v (.slice x l.length c)), (1, .v (.func (.func k) #[] cap)), (7, .v (.int .i64 l.length)), (8, .v (.int .i64 i))]) (fun _ => [])
    (fun i h' m' => i ≤ l.length ∧ (∀ j, j < i → p (g l j) = false) ∧ h' = h ∧ m' = m) (fun i => l.length - i) 0 ⟨[], ?_⟩ ⟨by omega, by simp, rfl, rfl⟩ ?_)
  · exact ⟨trivial, ⟨rfl, rfl, rfl, rfl, trivial⟩, trivial⟩
  rintro i h' m' _ ⟨hi, hn, rfl, rfl⟩
  ((try (conv => whnf)); repeat ((first | refine And.intro ?_ True.intro | refine And.intro ⟨by omega, by omega⟩ ?_ | refine ⟨_, (by assumption : RO.c _ _ _ = _), ?_⟩ | refine ⟨_, _, _, (by assumption : (_ : Option Obj) = _), ?_⟩ | refine ⟨_, _, _, (by assumption : RO.c _ _ _ = _), ?_⟩ | refine ⟨_, (by assumption : Row _ _ _ _), ?_⟩ | refine ⟨_, (by assumption : Cell _ _ _ _ _), ?_⟩ | refine ⟨_, _, _, (by assumption : Cell _ _ _ _ _), ?_⟩ | refine ⟨_, Or.inl (by assumption), ?_⟩ | refine ⟨_, _, _, Or.inl (by assumption), ?_⟩ | refine And.intro (ints_one _) ?_ | refine And.intro (by omega) ?_ | refine d1 ?_ | refine d2 ?_ | refine d3 ?_ | refine d4 ?_ | refine go G181 400 hC (by kernel_rfl) ?_); (conv => whnf)))
  refine ⟨fun hlt => ?_, fun hge => ?_⟩
  · have hlt : i < l.length := by simpa using hlt
    obtain ⟨b, q, rfl, hc⟩ := ha.get hlt
    have c1 := hc i hlt
    ((try (conv => whnf)); repeat ((first | refine And.intro ?_ True.intro | refine And.intro ⟨by omega, by omega⟩ ?_ | refine ⟨_, (by assumption : RO.c _ _ _ = _), ?_⟩ | refine ⟨_, _, _, (by assumption : (_ : Option Obj) = _), ?_⟩ | refine ⟨_, _, _, (by assumption : RO.c _ _ _ = _), ?_⟩ | refine ⟨_, (by assumption : Row _ _ _ _), ?_⟩ | refine ⟨_, (by assumption : Cell _ _ _ _ _), ?_⟩ | refine ⟨_, _, _, (by assumption : Cell _ _ _ _ _), ?_⟩ | refine ⟨_, Or.inl (by assumption), ?_⟩ | refine ⟨_, _, _, Or.inl (by assumption), ?_⟩ | refine And.intro (ints_one _) ?_ | refine And.intro (by omega) ?_ | refine d1 ?_ | refine d2 ?_ | refine d3 ?_ | refine d4 ?_ | refine go G181 400 hC (by kernel_rfl) ?_); (conv => whnf)))
    (refine Con.mono (hf (g l i)) ?_; rintro _ _ _ - ⟨rfl, rfl, rfl⟩; ((try (conv => whnf)); repeat ((first | refine And.intro ?_ True.intro | refine And.intro ⟨by omega, by omega⟩ ?_ | refine ⟨_, (by assumption : RO.c _ _ _ = _), ?_⟩ | refine ⟨_, _, _, (by assumption : (_ : Option Obj) = _), ?_⟩ | refine ⟨_, _, _, (by assumption : RO.c _ _ _ = _), ?_⟩ | refine ⟨_, (by assumption : Row _ _ _ _), ?_⟩ | refine ⟨_, (by assumption : Cell _ _ _ _ _), ?_⟩ | refine ⟨_, _, _, (by assumption : Cell _ _ _ _ _), ?_⟩ | refine ⟨_, Or.inl (by assumption), ?_⟩ | refine ⟨_, _, _, Or.inl (by assumption), ?_⟩ | refine And.intro (ints_one _) ?_ | refine And.intro (by omega) ?_ | refine d1 ?_ | refine d2 ?_ | refine d3 ?_ | refine d4 ?_ | refine go G181 400 hC (by kernel_rfl) ?_); (conv => whnf))))
    refine ⟨fun he => ?_, fun he => ?_⟩
    · ((try (conv => whnf)); repeat ((first | refine And.intro ?_ True.intro | refine And.intro ⟨by omega, by omega⟩ ?_ | refine ⟨_, (by assumption : RO.c _ _ _ = _), ?_⟩ | refine ⟨_, _, _, (by assumption : (_ : Option Obj) = _), ?_⟩ | refine ⟨_, _, _, (by assumption : RO.c _ _ _ = _), ?_⟩ | refine ⟨_, (by assumption : Row _ _ _ _), ?_⟩ | refine ⟨_, (by assumption : Cell _ _ _ _ _), ?_⟩ | refine ⟨_, _, _, (by assumption : Cell _ _ _ _ _), ?_⟩ | refine ⟨_, Or.inl (by assumption), ?_⟩ | refine ⟨_, _, _, Or.inl (by assumption), ?_⟩ | refine And.intro (ints_one _) ?_ | refine And.intro (by omega) ?_ | refine d1 ?_ | refine d2 ?_ | refine d3 ?_ | refine d4 ?_ | refine go G181 400 hC (by kernel_rfl) ?_); (conv => whnf)))
      have he : p (g l i) = true := he
      exact ⟨⟨(i : Int), rfl, by rw [show l.any p = true from List.any_eq_true.2 ⟨_, g_mem hlt, he⟩]; simp⟩, rfl, rfl⟩
    · ((try (conv => whnf)); repeat ((first | refine And.intro ?_ True.intro | refine And.intro ⟨by omega, by omega⟩ ?_ | refine ⟨_, (by assumption : RO.c _ _ _ = _), ?_⟩ | refine ⟨_, _, _, (by assumption : (_ : Option Obj) = _), ?_⟩ | refine ⟨_, _, _, (by assumption : RO.c _ _ _ = _), ?_⟩ | refine ⟨_, (by assumption : Row _ _ _ _), ?_⟩ | refine ⟨_, (by assumption : Cell _ _ _ _ _), ?_⟩ | refine ⟨_, _, _, (by assumption : Cell _ _ _ _ _), ?_⟩ | refine ⟨_, Or.inl (by assumption), ?_⟩ | refine ⟨_, _, _, Or.inl (by assumption), ?_⟩ | refine And.intro (ints_one _) ?_ | refine And.intro (by omega) ?_ | refine d1 ?_ | refine d2 ?_ | refine d3 ?_ | refine d4 ?_ | refine go G181 400 hC (by kernel_rfl) ?_); (conv => whnf)))
      have he : p (g l i) = false := he
      refine halt ⟨i + 1, [], ⟨trivial, ⟨rfl, rfl, rfl, stepI (by omega), trivial⟩, trivial⟩, RO.le.refl _, ⟨hlt, fun j hj => ?_, rfl, rfl⟩, by omega⟩
      by_cases e : j = i
      · exact e ▸ he
      · exact hn j (by omega)
  · have hge : i = l.length := by simp at hge; omega
    ((try (conv => whnf)); repeat ((first | refine And.intro ?_ True.intro | refine And.intro ⟨by omega, by omega⟩ ?_ | refine ⟨_, (by assumption : RO.c _ _ _ = _), ?_⟩ | refine ⟨_, _, _, (by assumption : (_ : Option Obj) = _), ?_⟩ | refine ⟨_, _, _, (by assumption : RO.c _ _ _ = _), ?_⟩ | refine ⟨_, (by assumption : Row _ _ _ _), ?_⟩ | refine ⟨_, (by assumption : Cell _ _ _ _ _), ?_⟩ | refine ⟨_, _, _, (by assumption : Cell _ _ _ _ _), ?_⟩ | refine ⟨_, Or.inl (by assumption), ?_⟩ | refine ⟨_, _, _, Or.inl (by assumption), ?_⟩ | refine And.intro (ints_one _) ?_ | refine And.intro (by omega) ?_ | refine d1 ?_ | refine d2 ?_ | refine d3 ?_ | refine d4 ?_ | refine go G181 400 hC (by kernel_rfl) ?_); (conv => whnf)))
    have hno : l.any p = false := by
      rw [List.any_eq_false]
      intro y hy
      obtain ⟨j, hj, e⟩ := List.getElem_of_mem hy
      have := hn j (by omega)
      simp [g, hj, e] at this; simp [this]
    exact ⟨⟨-1, rfl, by rw [hno]; rfl⟩, rfl, rfl⟩
def G95 : Gv := ⟨[], [], []⟩
theorem containsFunc {u : Value} {l : List Int} {k : Nat} {cap : Array Value} {p : Int → Bool} {h : RO} {m : Hp} (ha : IntS h u l)
    (hf : ∀ x, Con Tryz.prog k (.int .i64 x :: cap.toList) h m fun e h' m' => e = .returned (.bool (p x)) ∧ h' = h ∧ m' = m) :
    Con Tryz.prog 95 [u, .func (.func k) #[] cap] h m fun e h' m' => e = .returned (.bool (l.any p)) ∧ h' = h ∧ m' = m := by
  refine fn_of (nt := 9) T Tryz.func95 rfl (by kernel_rfl) Tryz.ntmps95 (by simp) T_ok T_mixed fun C hC => ?_
  simp only [Tryz.f95, argFr, Nat.zero_add, Nat.reduceAdd] at hC ⊢
  ((try (conv => whnf)); repeat ((first | refine And.intro ?_ True.intro | refine And.intro ⟨by omega, by omega⟩ ?_ | refine ⟨_, (by assumption : RO.c _ _ _ = _), ?_⟩ | refine ⟨_, _, _, (by assumption : (_ : Option Obj) = _), ?_⟩ | refine ⟨_, _, _, (by assumption : RO.c _ _ _ = _), ?_⟩ | refine ⟨_, (by assumption : Row _ _ _ _), ?_⟩ | refine ⟨_, (by assumption : Cell _ _ _ _ _), ?_⟩ | refine ⟨_, _, _, (by assumption : Cell _ _ _ _ _), ?_⟩ | refine ⟨_, Or.inl (by assumption), ?_⟩ | refine ⟨_, _, _, Or.inl (by assumption), ?_⟩ | refine And.intro (ints_one _) ?_ | refine And.intro (by omega) ?_ | refine d1 ?_ | refine d2 ?_ | refine d3 ?_ | refine d4 ?_ | refine go G95 400 hC (by kernel_rfl) ?_); (conv => whnf)))
  refine Con.mono (indexFunc ha hf) ?_
  rintro _ _ _ - ⟨⟨n, rfl, hn⟩, rfl, rfl⟩
  ((try (conv => whnf)); repeat ((first | refine And.intro ?_ True.intro | refine And.intro ⟨by omega, by omega⟩ ?_ | refine ⟨_, (by assumption : RO.c _ _ _ = _), ?_⟩ | refine ⟨_, _, _, (by assumption : (_ : Option Obj) = _), ?_⟩ | refine ⟨_, _, _, (by assumption : RO.c _ _ _ = _), ?_⟩ | refine ⟨_, (by assumption : Row _ _ _ _), ?_⟩ | refine ⟨_, (by assumption : Cell _ _ _ _ _), ?_⟩ | refine ⟨_, _, _, (by assumption : Cell _ _ _ _ _), ?_⟩ | refine ⟨_, Or.inl (by assumption), ?_⟩ | refine ⟨_, _, _, Or.inl (by assumption), ?_⟩ | refine And.intro (ints_one _) ?_ | refine And.intro (by omega) ?_ | refine d1 ?_ | refine d2 ?_ | refine d3 ?_ | refine d4 ?_ | refine go G95 400 hC (by kernel_rfl) ?_); (conv => whnf)))
  exact ⟨by rw [← hn]; rfl, rfl, rfl⟩
end Go.Proofs.YtoefoaabnjeofaaGreat
/-
  SX, part Q: maps from ints to true, as functions.
-/
namespace Go.SX

abbrev IK : Value → Prop := MapKept.IsKey (.int .i64)
def bO (b : Bool) : Option Value := match b with | true => some (.bool true) | false => none

/-- A map from ints to true, in a block that may be changed. -/
def MapM (m : Hp) (b : Nat) (f : Int → Bool) : Prop := ∃ es clock F, m b = some (.map es clock) ∧ MRep IK es F ∧ ∀ x, F (.int .i64 x) = bO (f x)
/-- .. in a block that may be read. -/
structure MapIB (h : RO) (m : Hp) (b : Nat) (f : Int → Bool) : Prop where
  ex : ∃ es clock F, ObjAt h m b (.map es clock) ∧ MRep IK es F ∧ ∀ x, F (.int .i64 x) = bO (f x)
theorem MapM.ib {h : RO} {m : Hp} {b : Nat} {f : Int → Bool} (r : MapM m b f) : MapIB h m b f := ⟨let ⟨es, c, F, a, k⟩ := r; ⟨es, c, F, .inl a, k⟩⟩
theorem MapM.new (m : Hp) (b : Nat) : MapM (m.set b (.map #[] 0)) b fun _ => false := ⟨#[], 0, fun _ => none, by simp [Hp.set], MRep.nil _, fun _ => rfl⟩
theorem MapM.other {m : Hp} {b b' : Nat} {f : Int → Bool} (r : MapM m b f) (hne : b ≠ b') (x : Obj) : MapM (m.set b' x) b f := by
  obtain ⟨es, c, F, a, k⟩ := r
  exact ⟨es, c, F, by simp [Hp.set, hne, a], k⟩
def insI (f : Int → Bool) (x : Int) : Int → Bool := fun y => y == x || f y
theorem MapM.ins {m : Hp} {b : Nat} {f : Int → Bool} {F : Value → Option Value} {x : Int} {es : Array MapEntry} {clock : Nat} (hF : ∀ x, F (.int .i64 x) = bO (f x)) (hr : MRep IK es (updF F (.int .i64 x) (some (.bool true)))) :
    MapM (m.set b (.map es clock)) b (insI f x) := by
  refine ⟨es, clock, _, by simp [Hp.set], hr, fun y => ?_⟩
  by_cases e : y = x
  · subst e; rw [updF_self]; simp [insI, bO]
  · rw [updF_ne _ _ (by simpa using e), hF]; simp [insI, show (y == x) = false by simpa using e]
def memI (l : List Int) : Int → Bool := fun x => l.contains x
theorem memI_snoc (l : List Int) (x : Int) : insI (memI l) x = memI (l ++ [x]) := by
  funext y; simp only [insI, memI, List.contains_eq_mem, List.mem_append, List.mem_singleton, Bool.decide_or]
  rw [Bool.or_comm]; congr 1
theorem memI_nil : memI [] = fun _ => false := by funext y; simp [memI]
theorem isIK (n : Int) : IK (.int .i64 n) := by unfold IK; trivial

theorem Hp.sub.refl (m : Hp) : m.sub m := fun _ _ e => e
theorem Hp.sub.trans {a b c : Hp} (h : a.sub b) (k : b.sub c) : a.sub c := fun x o e => k x o (h x o e)
theorem Hp.sub.fresh {a m : Hp} (h : a.sub m) {b : Nat} (hb : a b = Option.none) (x : Obj) : a.sub (m.set b x) := fun k o e => by
  unfold Hp.set
  split
  · rename_i e'; subst e'; rw [hb] at e; cases e
  · exact h k o e
theorem Hp.sub.none {a m : Hp} (h : a.sub m) {b : Nat} (hb : m b = Option.none) : a b = Option.none := by
  cases e : a b with
  | none => rfl
  | some o => rw [h b o e] at hb; cases hb
end Go.SX
namespace Go.Proofs.YtoefoaabnjeofaaGreat
open Go.SX
set_option maxHeartbeats 2000000
set_option maxRecDepth 20000
def G303 : Gv := ⟨[], [], []⟩
theorem mayD1 {x : Int} {b c : Nat} {f : Int → Bool} {h : RO} {m : Hp} (hc : Cell h m c 0 (.map (some b))) (hm : MapIB h m b f) :
    Con Tryz.prog 303 [.int .i64 x, .pointer (some ⟨c, 0, none⟩)] h m fun e h' m' => e = .returned (.bool (!f x)) ∧ h' = h ∧ m' = m := by
  obtain ⟨es, clock, F, ho, hr, hF⟩ := hm
  refine fn_of (nt := 8) T Tryz.func303 rfl (by kernel_rfl) Tryz.ntmps303 (by simp) T_ok T_mixed fun C hC => ?_
  simp only [Tryz.f303, argFr, Nat.zero_add, Nat.reduceAdd] at hC ⊢
  ((try (conv => whnf)); repeat ((first | refine And.intro ?_ True.intro | refine And.intro ⟨by omega, by omega⟩ ?_ | refine ⟨_, (by assumption : RO.c _ _ _ = _), ?_⟩ | refine ⟨_, _, _, (by assumption : (_ : Option Obj) = _), ?_⟩ | refine ⟨_, _, _, (by assumption : RO.c _ _ _ = _), ?_⟩ | refine ⟨_, (by assumption : Row _ _ _ _), ?_⟩ | refine ⟨_, (by assumption : Cell _ _ _ _ _), ?_⟩ | refine ⟨_, _, _, (by assumption : Cell _ _ _ _ _), ?_⟩ | refine ⟨_, Or.inl (by assumption), ?_⟩ | refine ⟨_, _, _, Or.inl (by assumption), ?_⟩ | refine And.intro (ints_one _) ?_ | refine And.intro (by omega) ?_ | refine d1 ?_ | refine d2 ?_ | refine d3 ?_ | refine d4 ?_ | refine go G303 400 hC (by kernel_rfl) ?_); (conv => whnf)))
  refine ⟨es, clock, _, F, ⟨ho, keyInt, hr, isKeyInt x⟩, ?_⟩
  have := hF x
  cases hf : f x with
  | true =>
    rw [hf] at this
    simp only [this, bO]
    ((try (conv => whnf)); repeat ((first | refine And.intro ?_ True.intro | refine And.intro ⟨by omega, by omega⟩ ?_ | refine ⟨_, (by assumption : RO.c _ _ _ = _), ?_⟩ | refine ⟨_, _, _, (by assumption : (_ : Option Obj) = _), ?_⟩ | refine ⟨_, _, _, (by assumption : RO.c _ _ _ = _), ?_⟩ | refine ⟨_, (by assumption : Row _ _ _ _), ?_⟩ | refine ⟨_, (by assumption : Cell _ _ _ _ _), ?_⟩ | refine ⟨_, _, _, (by assumption : Cell _ _ _ _ _), ?_⟩ | refine ⟨_, Or.inl (by assumption), ?_⟩ | refine ⟨_, _, _, Or.inl (by assumption), ?_⟩ | refine And.intro (ints_one _) ?_ | refine And.intro (by omega) ?_ | refine d1 ?_ | refine d2 ?_ | refine d3 ?_ | refine d4 ?_ | refine go G303 400 hC (by kernel_rfl) ?_); (conv => whnf)))
    exact ⟨rfl, rfl, rfl⟩
  | false =>
    rw [hf] at this
    simp only [this, bO]
    ((try (conv => whnf)); repeat ((first | refine And.intro ?_ True.intro | refine And.intro ⟨by omega, by omega⟩ ?_ | refine ⟨_, (by assumption : RO.c _ _ _ = _), ?_⟩ | refine ⟨_, _, _, (by assumption : (_ : Option Obj) = _), ?_⟩ | refine ⟨_, _, _, (by assumption : RO.c _ _ _ = _), ?_⟩ | refine ⟨_, (by assumption : Row _ _ _ _), ?_⟩ | refine ⟨_, (by assumption : Cell _ _ _ _ _), ?_⟩ | refine ⟨_, _, _, (by assumption : Cell _ _ _ _ _), ?_⟩ | refine ⟨_, Or.inl (by assumption), ?_⟩ | refine ⟨_, _, _, Or.inl (by assumption), ?_⟩ | refine And.intro (ints_one _) ?_ | refine And.intro (by omega) ?_ | refine d1 ?_ | refine d2 ?_ | refine d3 ?_ | refine d4 ?_ | refine go G303 400 hC (by kernel_rfl) ?_); (conv => whnf)))
    exact ⟨rfl, rfl, rfl⟩
def G352 : Gv := ⟨[], [], []⟩
theorem has1_spec {x : Int} {b c : Nat} {f : Int → Bool} {h : RO} {m : Hp} (hc : Cell h m c 0 (.map (some b))) (hm : MapIB h m b f) :
    Con Tryz.prog 352 [.int .i64 x, .pointer (some ⟨c, 0, none⟩)] h m fun e h' m' => e = .returned (.bool (f x)) ∧ h' = h ∧ m' = m := by
  obtain ⟨es, clock, F, ho, hr, hF⟩ := hm
  refine fn_of (nt := 13) T Tryz.func352 rfl (by kernel_rfl) Tryz.ntmps352 (by simp) T_ok T_mixed fun C hC => ?_
  simp only [Tryz.f352, argFr, Nat.zero_add, Nat.reduceAdd] at hC ⊢
  ((try (conv => whnf)); repeat ((first | refine And.intro ?_ True.intro | refine And.intro ⟨by omega, by omega⟩ ?_ | refine ⟨_, (by assumption : RO.c _ _ _ = _), ?_⟩ | refine ⟨_, _, _, (by assumption : (_ : Option Obj) = _), ?_⟩ | refine ⟨_, _, _, (by assumption : RO.c _ _ _ = _), ?_⟩ | refine ⟨_, (by assumption : Row _ _ _ _), ?_⟩ | refine ⟨_, (by assumption : Cell _ _ _ _ _), ?_⟩ | refine ⟨_, _, _, (by assumption : Cell _ _ _ _ _), ?_⟩ | refine ⟨_, Or.inl (by assumption), ?_⟩ | refine ⟨_, _, _, Or.inl (by assumption), ?_⟩ | refine And.intro (ints_one _) ?_ | refine And.intro (by omega) ?_ | refine d1 ?_ | refine d2 ?_ | refine d3 ?_ | refine d4 ?_ | refine go G352 400 hC (by kernel_rfl) ?_); (conv => whnf)))
  refine ⟨es, clock, _, F, ⟨ho, keyInt, hr, isKeyInt x⟩, ?_⟩
  have := hF x
  cases hf : f x with
  | true =>
    rw [hf] at this
    simp only [this, bO]
    ((try (conv => whnf)); repeat ((first | refine And.intro ?_ True.intro | refine And.intro ⟨by omega, by omega⟩ ?_ | refine ⟨_, (by assumption : RO.c _ _ _ = _), ?_⟩ | refine ⟨_, _, _, (by assumption : (_ : Option Obj) = _), ?_⟩ | refine ⟨_, _, _, (by assumption : RO.c _ _ _ = _), ?_⟩ | refine ⟨_, (by assumption : Row _ _ _ _), ?_⟩ | refine ⟨_, (by assumption : Cell _ _ _ _ _), ?_⟩ | refine ⟨_, _, _, (by assumption : Cell _ _ _ _ _), ?_⟩ | refine ⟨_, Or.inl (by assumption), ?_⟩ | refine ⟨_, _, _, Or.inl (by assumption), ?_⟩ | refine And.intro (ints_one _) ?_ | refine And.intro (by omega) ?_ | refine d1 ?_ | refine d2 ?_ | refine d3 ?_ | refine d4 ?_ | refine go G352 400 hC (by kernel_rfl) ?_); (conv => whnf)))
    exact ⟨rfl, rfl, rfl⟩
  | false =>
    rw [hf] at this
    simp only [this, bO]
    ((try (conv => whnf)); repeat ((first | refine And.intro ?_ True.intro | refine And.intro ⟨by omega, by omega⟩ ?_ | refine ⟨_, (by assumption : RO.c _ _ _ = _), ?_⟩ | refine ⟨_, _, _, (by assumption : (_ : Option Obj) = _), ?_⟩ | refine ⟨_, _, _, (by assumption : RO.c _ _ _ = _), ?_⟩ | refine ⟨_, (by assumption : Row _ _ _ _), ?_⟩ | refine ⟨_, (by assumption : Cell _ _ _ _ _), ?_⟩ | refine ⟨_, _, _, (by assumption : Cell _ _ _ _ _), ?_⟩ | refine ⟨_, Or.inl (by assumption), ?_⟩ | refine ⟨_, _, _, Or.inl (by assumption), ?_⟩ | refine And.intro (ints_one _) ?_ | refine And.intro (by omega) ?_ | refine d1 ?_ | refine d2 ?_ | refine d3 ?_ | refine d4 ?_ | refine go G352 400 hC (by kernel_rfl) ?_); (conv => whnf)))
    exact ⟨rfl, rfl, rfl⟩
end Go.Proofs.YtoefoaabnjeofaaGreat
namespace Go.Proofs.YtoefoaabnjeofaaGreat
open Go.SX
set_option maxHeartbeats 4000000
set_option maxRecDepth 20000
def pabs (x : Int) : Int := max x (IntKind.i64.wrap (0 - x))
def lastA (l : List Int) (k : Nat) : Int := if k = 0 then 0 else pabs (g l (k - 1))
def okPc (p : Int → Bool) (l : List Int) (k : Nat) : Bool := !(g l k == 0 || g l k < -65536 || g l k > 65536 || pabs (g l k) ≤ lastA l k || !p (pabs (g l k)))
def okPl (p : Int → Bool) (ls : List (List Int)) (i : Nat) : Bool := allN (gl ls i).length (okPc p (gl ls i))
def pcnf (p : Int → Bool) (ls : List (List Int)) : Bool := !decide ((ls.length : Int) > 20000) && (allN ls.length (okPl p ls) && decide ((tot ls : Int) ≤ 200000))
def G304 : Gv := ⟨[], [], []⟩
theorem pcnf_spec {u : Value} {ls : List (List Int)} {k0 : Nat} {cap : Array Value} {p : Int → Bool} {h : RO} {m : Hp} (ha : LLS h u ls) (ht : tot ls ≤ 1000000000000)
    (hf : ∀ x, Con Tryz.prog k0 (.int .i64 x :: cap.toList) h m fun e h' m' => e = .returned (.bool (p x)) ∧ h' = h ∧ m' = m) :
    Con Tryz.prog 304 [u, .func (.func k0) #[] cap] h m fun e h' m' => e = .returned (.bool (pcnf p ls)) ∧ h' = h ∧ m' = m := by
  obtain ⟨x, c, rfl⟩ := ha.sl
  have hla := ha.len
  refine fn_of (nt := 59) T Tryz.func304 rfl (by kernel_rfl) Tryz.ntmps304 (by simp) T_ok T_mixed fun C hC => ?_
  simp only [Tryz.f304, argFr, Nat.zero_add, Nat.reduceAdd] at hC ⊢
  ((try (conv => whnf)); repeat ((first | refine And.intro ?_ True.intro | refine And.intro ⟨by omega, by omega⟩ ?_ | refine ⟨_, (by assumption : RO.c _ _ _ = _), ?_⟩ | refine ⟨_, _, _, (by assumption : (_ : Option Obj) = _), ?_⟩ | refine ⟨_, _, _, (by assumption : RO.c _ _ _ = _), ?_⟩ | refine ⟨_, (by assumption : Row _ _ _ _), ?_⟩ | refine ⟨_, (by assumption : Cell _ _ _ _ _), ?_⟩ | refine ⟨_, _, _, (by assumption : Cell _ _ _ _ _), ?_⟩ | refine ⟨_, Or.inl (by assumption), ?_⟩ | refine ⟨_, _, _, Or.inl (by assumption), ?_⟩ | refine And.intro (ints_one _) ?_ | refine And.intro (by omega) ?_ | refine d1 ?_ | refine d2 ?_ | refine d3 ?_ | refine d4 ?_ | refine go G304 400 hC (by kernel_rfl) ?_); (conv => whnf)))
  refine ⟨fun he => ?_, fun he => ?_⟩
  · ((try (conv => whnf)); repeat ((first | refine And.intro ?_ True.intro | refine And.intro ⟨by omega, by omega⟩ ?_ | refine ⟨_, (by assumption : RO.c _ _ _ = _), ?_⟩ | refine ⟨_, _, _, (by assumption : (_ : Option Obj) = _), ?_⟩ | refine ⟨_, _, _, (by assumption : RO.c _ _ _ = _), ?_⟩ | refine ⟨_, (by assumption : Row _ _ _ _), ?_⟩ | refine ⟨_, (by assumption : Cell _ _ _ _ _), ?_⟩ | refine ⟨_, _, _, (by assumption : Cell _ _ _ _ _), ?_⟩ | refine ⟨_, Or.inl (by assumption), ?_⟩ | refine ⟨_, _, _, Or.inl (by assumption), ?_⟩ | refine And.intro (ints_one _) ?_ | refine And.intro (by omega) ?_ | refine d1 ?_ | refine d2 ?_ | refine d3 ?_ | refine d4 ?_ | refine go G304 400 hC (by kernel_rfl) ?_); (conv => whnf)))
    exact ⟨by rw [pcnf, he]; rfl, rfl, rfl⟩
  ((try (conv => whnf)); repeat ((first | refine And.intro ?_ True.intro | refine And.intro ⟨by omega, by omega⟩ ?_ | refine ⟨_, (by assumption : RO.c _ _ _ = _), ?_⟩ | refine ⟨_, _, _, (by assumption : (_ : Option Obj) = _), ?_⟩ | refine ⟨_, _, _, (by assumption : RO.c _ _ _ = _), ?_⟩ | refine ⟨_, (by assumption : Row _ _ _ _), ?_⟩ | refine ⟨_, (by assumption : Cell _ _ _ _ _), ?_⟩ | refine ⟨_, _, _, (by assumption : Cell _ _ _ _ _), ?_⟩ | refine ⟨_, Or.inl (by assumption), ?_⟩ | refine ⟨_, _, _, Or.inl (by assumption), ?_⟩ | refine And.intro (ints_one _) ?_ | refine And.intro (by omega) ?_ | refine d1 ?_ | refine d2 ?_ | refine d3 ?_ | refine d4 ?_ | refine go G304 400 hC (by kernel_rfl) ?_); (conv => whnf)))
  have he : decide ((ls.length : Int) > 20000) = false := he
  refine halt (sx_loop (X := Nat) (fun i => [(1, .v (.func (.func k0) #[] cap)), (5, .v (.int .i64 (tot (ls.take i) : Nat))), (14, .v (.slice x ls.length c)), (15, .v (.int .i64 ls.length)), (16, .v (.int .i64 i))]) (fun _ => [])
    (fun i h' m' => i ≤ ls.length ∧ (∀ j, j < i → okPl p ls j = true) ∧ h' = h ∧ m' = m) (fun i => ls.length - i) 0 ⟨[], ?_⟩ ⟨by omega, by simp, rfl, rfl⟩ ?_)
  · exact ⟨trivial, ⟨rfl, rfl, rfl, rfl, rfl, trivial⟩, trivial⟩
  rintro i h' m' _ ⟨hi, hn, rfl, rfl⟩
  ((try (conv => whnf)); repeat ((first | refine And.intro ?_ True.intro | refine And.intro ⟨by omega, by omega⟩ ?_ | refine ⟨_, (by assumption : RO.c _ _ _ = _), ?_⟩ | refine ⟨_, _, _, (by assumption : (_ : Option Obj) = _), ?_⟩ | refine ⟨_, _, _, (by assumption : RO.c _ _ _ = _), ?_⟩ | refine ⟨_, (by assumption : Row _ _ _ _), ?_⟩ | refine ⟨_, (by assumption : Cell _ _ _ _ _), ?_⟩ | refine ⟨_, _, _, (by assumption : Cell _ _ _ _ _), ?_⟩ | refine ⟨_, Or.inl (by assumption), ?_⟩ | refine ⟨_, _, _, Or.inl (by assumption), ?_⟩ | refine And.intro (ints_one _) ?_ | refine And.intro (by omega) ?_ | refine d1 ?_ | refine d2 ?_ | refine d3 ?_ | refine d4 ?_ | refine go G304 400 hC (by kernel_rfl) ?_); (conv => whnf)))
  refine ⟨fun hlt => ?_, fun hge => ?_⟩
  · have hlt : i < ls.length := by simpa using hlt
    obtain ⟨b, q, rfl, hc⟩ := ha.get hlt
    obtain ⟨a', c', c1, hi1⟩ := hc i hlt
    have hl2 := hi1.len
    ((try (conv => whnf)); repeat ((first | refine And.intro ?_ True.intro | refine And.intro ⟨by omega, by omega⟩ ?_ | refine ⟨_, (by assumption : RO.c _ _ _ = _), ?_⟩ | refine ⟨_, _, _, (by assumption : (_ : Option Obj) = _), ?_⟩ | refine ⟨_, _, _, (by assumption : RO.c _ _ _ = _), ?_⟩ | refine ⟨_, (by assumption : Row _ _ _ _), ?_⟩ | refine ⟨_, (by assumption : Cell _ _ _ _ _), ?_⟩ | refine ⟨_, _, _, (by assumption : Cell _ _ _ _ _), ?_⟩ | refine ⟨_, Or.inl (by assumption), ?_⟩ | refine ⟨_, _, _, Or.inl (by assumption), ?_⟩ | refine And.intro (ints_one _) ?_ | refine And.intro (by omega) ?_ | refine d1 ?_ | refine d2 ?_ | refine d3 ?_ | refine d4 ?_ | refine go G304 400 hC (by kernel_rfl) ?_); (conv => whnf)))
    refine halt (sx_loop (X := Nat) (fun k => [(1, .v (.func (.func k0) #[] cap)), (5, .v (.int .i64 (tot (ls.take i) : Nat))), (7, .v (.slice a' (gl ls i).length c')), (8, .v (.int .i64 (lastA (gl ls i) k))), (14, .v (.slice (some ⟨b, q, none⟩) ls.length c)), (15, .v (.int .i64 ls.length)), (16, .v (.int .i64 i)), (20, .v (.slice a' (gl ls i).length c')), (21, .v (.int .i64 (gl ls i).length)), (22, .v (.int .i64 k))]) (fun _ => [])
      (fun k h'' m'' => k ≤ (gl ls i).length ∧ (∀ j, j < k → okPc p (gl ls i) j = true) ∧ h'' = h' ∧ m'' = m') (fun k => (gl ls i).length - k) 0 ⟨[], ?_⟩ ⟨by omega, by simp, rfl, rfl⟩ ?_)
    · exact ⟨trivial, ⟨rfl, rfl, rfl, rfl, rfl, rfl, rfl, rfl, rfl, rfl, trivial⟩, trivial⟩
    rintro k h'' m'' _ ⟨hk, hn2, rfl, rfl⟩
    ((try (conv => whnf)); repeat ((first | refine And.intro ?_ True.intro | refine And.intro ⟨by omega, by omega⟩ ?_ | refine ⟨_, (by assumption : RO.c _ _ _ = _), ?_⟩ | refine ⟨_, _, _, (by assumption : (_ : Option Obj) = _), ?_⟩ | refine ⟨_, _, _, (by assumption : RO.c _ _ _ = _), ?_⟩ | refine ⟨_, (by assumption : Row _ _ _ _), ?_⟩ | refine ⟨_, (by assumption : Cell _ _ _ _ _), ?_⟩ | refine ⟨_, _, _, (by assumption : Cell _ _ _ _ _), ?_⟩ | refine ⟨_, Or.inl (by assumption), ?_⟩ | refine ⟨_, _, _, Or.inl (by assumption), ?_⟩ | refine And.intro (ints_one _) ?_ | refine And.intro (by omega) ?_ | refine d1 ?_ | refine d2 ?_ | refine d3 ?_ | refine d4 ?_ | refine go G304 400 hC (by kernel_rfl) ?_); (conv => whnf)))
    refine ⟨fun hlt2 => ?_, fun hge2 => ?_⟩
    · have hlt2 : k < (gl ls i).length := by simpa using hlt2
      obtain ⟨b2, q2, rfl, hc2⟩ := hi1.get hlt2
      have c2 := hc2 k hlt2
      have bad : okPc p (gl ls i) k = false → Ending.returned (.bool false) = Ending.returned (.bool (pcnf p ls)) := fun hb => by rw [pcnf, allN_false hlt (allN_false hlt2 hb), Bool.false_and, Bool.and_false]
      ((try (conv => whnf)); repeat ((first | refine And.intro ?_ True.intro | refine And.intro ⟨by omega, by omega⟩ ?_ | refine ⟨_, (by assumption : RO.c _ _ _ = _), ?_⟩ | refine ⟨_, _, _, (by assumption : (_ : Option Obj) = _), ?_⟩ | refine ⟨_, _, _, (by assumption : RO.c _ _ _ = _), ?_⟩ | refine ⟨_, (by assumption : Row _ _ _ _), ?_⟩ | refine ⟨_, (by assumption : Cell _ _ _ _ _), ?_⟩ | refine ⟨_, _, _, (by assumption : Cell _ _ _ _ _), ?_⟩ | refine ⟨_, Or.inl (by assumption), ?_⟩ | refine ⟨_, _, _, Or.inl (by assumption), ?_⟩ | refine And.intro (ints_one _) ?_ | refine And.intro (by omega) ?_ | refine d1 ?_ | refine d2 ?_ | refine d3 ?_ | refine d4 ?_ | refine go G304 400 hC (by kernel_rfl) ?_); (conv => whnf)))
      iterate 3 (all_goals try ((refine ⟨fun _ => ?_, fun _ => ?_⟩) <;> ((try (conv => whnf)); repeat ((first | refine And.intro ?_ True.intro | refine And.intro ⟨by omega, by omega⟩ ?_ | refine ⟨_, (by assumption : RO.c _ _ _ = _), ?_⟩ | refine ⟨_, _, _, (by assumption : (_ : Option Obj) = _), ?_⟩ | refine ⟨_, _, _, (by assumption : RO.c _ _ _ = _), ?_⟩ | refine ⟨_, (by assumption : Row _ _ _ _), ?_⟩ | refine ⟨_, (by assumption : Cell _ _ _ _ _), ?_⟩ | refine ⟨_, _, _, (by assumption : Cell _ _ _ _ _), ?_⟩ | refine ⟨_, Or.inl (by assumption), ?_⟩ | refine ⟨_, _, _, Or.inl (by assumption), ?_⟩ | refine And.intro (ints_one _) ?_ | refine And.intro (by omega) ?_ | refine d1 ?_ | refine d2 ?_ | refine d3 ?_ | refine d4 ?_ | refine go G304 400 hC (by kernel_rfl) ?_); (conv => whnf)))))
      all_goals try (refine Con.mono (pabs_spec) ?_; rintro _ _ _ - ⟨rfl, rfl, rfl⟩; ((try (conv => whnf)); repeat ((first | refine And.intro ?_ True.intro | refine And.intro ⟨by omega, by omega⟩ ?_ | refine ⟨_, (by assumption : RO.c _ _ _ = _), ?_⟩ | refine ⟨_, _, _, (by assumption : (_ : Option Obj) = _), ?_⟩ | refine ⟨_, _, _, (by assumption : RO.c _ _ _ = _), ?_⟩ | refine ⟨_, (by assumption : Row _ _ _ _), ?_⟩ | refine ⟨_, (by assumption : Cell _ _ _ _ _), ?_⟩ | refine ⟨_, _, _, (by assumption : Cell _ _ _ _ _), ?_⟩ | refine ⟨_, Or.inl (by assumption), ?_⟩ | refine ⟨_, _, _, Or.inl (by assumption), ?_⟩ | refine And.intro (ints_one _) ?_ | refine And.intro (by omega) ?_ | refine d1 ?_ | refine d2 ?_ | refine d3 ?_ | refine d4 ?_ | refine go G304 400 hC (by kernel_rfl) ?_); (conv => whnf))))
      all_goals try ((refine ⟨fun _ => ?_, fun _ => ?_⟩) <;> ((try (conv => whnf)); repeat ((first | refine And.intro ?_ True.intro | refine And.intro ⟨by omega, by omega⟩ ?_ | refine ⟨_, (by assumption : RO.c _ _ _ = _), ?_⟩ | refine ⟨_, _, _, (by assumption : (_ : Option Obj) = _), ?_⟩ | refine ⟨_, _, _, (by assumption : RO.c _ _ _ = _), ?_⟩ | refine ⟨_, (by assumption : Row _ _ _ _), ?_⟩ | refine ⟨_, (by assumption : Cell _ _ _ _ _), ?_⟩ | refine ⟨_, _, _, (by assumption : Cell _ _ _ _ _), ?_⟩ | refine ⟨_, Or.inl (by assumption), ?_⟩ | refine ⟨_, _, _, Or.inl (by assumption), ?_⟩ | refine And.intro (ints_one _) ?_ | refine And.intro (by omega) ?_ | refine d1 ?_ | refine d2 ?_ | refine d3 ?_ | refine d4 ?_ | refine go G304 400 hC (by kernel_rfl) ?_); (conv => whnf))))
      all_goals try (refine Con.mono (pabs_spec) ?_; rintro _ _ _ - ⟨rfl, rfl, rfl⟩; ((try (conv => whnf)); repeat ((first | refine And.intro ?_ True.intro | refine And.intro ⟨by omega, by omega⟩ ?_ | refine ⟨_, (by assumption : RO.c _ _ _ = _), ?_⟩ | refine ⟨_, _, _, (by assumption : (_ : Option Obj) = _), ?_⟩ | refine ⟨_, _, _, (by assumption : RO.c _ _ _ = _), ?_⟩ | refine ⟨_, (by assumption : Row _ _ _ _), ?_⟩ | refine ⟨_, (by assumption : Cell _ _ _ _ _), ?_⟩ | refine ⟨_, _, _, (by assumption : Cell _ _ _ _ _), ?_⟩ | refine ⟨_, Or.inl (by assumption), ?_⟩ | refine ⟨_, _, _, Or.inl (by assumption), ?_⟩ | refine And.intro (ints_one _) ?_ | refine And.intro (by omega) ?_ | refine d1 ?_ | refine d2 ?_ | refine d3 ?_ | refine d4 ?_ | refine go G304 400 hC (by kernel_rfl) ?_); (conv => whnf))))
      all_goals try (refine Con.mono (hf _) ?_; rintro _ _ _ - ⟨rfl, rfl, rfl⟩; ((try (conv => whnf)); repeat ((first | refine And.intro ?_ True.intro | refine And.intro ⟨by omega, by omega⟩ ?_ | refine ⟨_, (by assumption : RO.c _ _ _ = _), ?_⟩ | refine ⟨_, _, _, (by assumption : (_ : Option Obj) = _), ?_⟩ | refine ⟨_, _, _, (by assumption : RO.c _ _ _ = _), ?_⟩ | refine ⟨_, (by assumption : Row _ _ _ _), ?_⟩ | refine ⟨_, (by assumption : Cell _ _ _ _ _), ?_⟩ | refine ⟨_, _, _, (by assumption : Cell _ _ _ _ _), ?_⟩ | refine ⟨_, Or.inl (by assumption), ?_⟩ | refine ⟨_, _, _, Or.inl (by assumption), ?_⟩ | refine And.intro (ints_one _) ?_ | refine And.intro (by omega) ?_ | refine d1 ?_ | refine d2 ?_ | refine d3 ?_ | refine d4 ?_ | refine go G304 400 hC (by kernel_rfl) ?_); (conv => whnf))))
      all_goals try ((refine ⟨fun _ => ?_, fun _ => ?_⟩) <;> ((try (conv => whnf)); repeat ((first | refine And.intro ?_ True.intro | refine And.intro ⟨by omega, by omega⟩ ?_ | refine ⟨_, (by assumption : RO.c _ _ _ = _), ?_⟩ | refine ⟨_, _, _, (by assumption : (_ : Option Obj) = _), ?_⟩ | refine ⟨_, _, _, (by assumption : RO.c _ _ _ = _), ?_⟩ | refine ⟨_, (by assumption : Row _ _ _ _), ?_⟩ | refine ⟨_, (by assumption : Cell _ _ _ _ _), ?_⟩ | refine ⟨_, _, _, (by assumption : Cell _ _ _ _ _), ?_⟩ | refine ⟨_, Or.inl (by assumption), ?_⟩ | refine ⟨_, _, _, Or.inl (by assumption), ?_⟩ | refine And.intro (ints_one _) ?_ | refine And.intro (by omega) ?_ | refine d1 ?_ | refine d2 ?_ | refine d3 ?_ | refine d4 ?_ | refine go G304 400 hC (by kernel_rfl) ?_); (conv => whnf))))
      all_goals try (refine Con.mono (pabs_spec) ?_; rintro _ _ _ - ⟨rfl, rfl, rfl⟩; ((try (conv => whnf)); repeat ((first | refine And.intro ?_ True.intro | refine And.intro ⟨by omega, by omega⟩ ?_ | refine ⟨_, (by assumption : RO.c _ _ _ = _), ?_⟩ | refine ⟨_, _, _, (by assumption : (_ : Option Obj) = _), ?_⟩ | refine ⟨_, _, _, (by assumption : RO.c _ _ _ = _), ?_⟩ | refine ⟨_, (by assumption : Row _ _ _ _), ?_⟩ | refine ⟨_, (by assumption : Cell _ _ _ _ _), ?_⟩ | refine ⟨_, _, _, (by assumption : Cell _ _ _ _ _), ?_⟩ | refine ⟨_, Or.inl (by assumption), ?_⟩ | refine ⟨_, _, _, Or.inl (by assumption), ?_⟩ | refine And.intro (ints_one _) ?_ | refine And.intro (by omega) ?_ | refine d1 ?_ | refine d2 ?_ | refine d3 ?_ | refine d4 ?_ | refine go G304 400 hC (by kernel_rfl) ?_); (conv => whnf))))
      all_goals first
        | exact ⟨bad (by clear hC bad hc hc2 c1 c2 hi1 ha hf hn hn2; simp_all [okPc, pabs]), rfl, rfl⟩
        | exact halt ⟨k + 1, [], ⟨trivial, ⟨rfl, rfl, rfl, rfl, rfl, rfl, rfl, rfl, rfl, stepI (by omega), trivial⟩, trivial⟩, RO.le.refl _, ⟨hlt2, allS hn2 (by clear hC bad hc hc2 c1 c2 hi1 ha hf hn hn2; simp_all [okPc, pabs]), rfl, rfl⟩, by omega⟩
    · have hge2 : k = (gl ls i).length := by simp at hge2; omega
      ((try (conv => whnf)); repeat ((first | refine And.intro ?_ True.intro | refine And.intro ⟨by omega, by omega⟩ ?_ | refine ⟨_, (by assumption : RO.c _ _ _ = _), ?_⟩ | refine ⟨_, _, _, (by assumption : (_ : Option Obj) = _), ?_⟩ | refine ⟨_, _, _, (by assumption : RO.c _ _ _ = _), ?_⟩ | refine ⟨_, (by assumption : Row _ _ _ _), ?_⟩ | refine ⟨_, (by assumption : Cell _ _ _ _ _), ?_⟩ | refine ⟨_, _, _, (by assumption : Cell _ _ _ _ _), ?_⟩ | refine ⟨_, Or.inl (by assumption), ?_⟩ | refine ⟨_, _, _, Or.inl (by assumption), ?_⟩ | refine And.intro (ints_one _) ?_ | refine And.intro (by omega) ?_ | refine d1 ?_ | refine d2 ?_ | refine d3 ?_ | refine d4 ?_ | refine go G304 400 hC (by kernel_rfl) ?_); (conv => whnf)))
      have h1 := tot_take hlt
      have h2 := tot_le ls (i + 1)
      refine halt ⟨i + 1, [], ⟨trivial, ⟨rfl, ?_, rfl, rfl, stepI (by omega), trivial⟩, trivial⟩, RO.le.refl _, ⟨hlt, allS hn (allN_true (hge2 ▸ hn2)), rfl, rfl⟩, by omega⟩
      show Value.int .i64 _ = .int .i64 (IntKind.i64.wrap ((tot (ls.take i) : Nat) + ((gl ls i).length : Nat) : Int))
      rw [w64 (by omega) (by omega), h1]; rfl
  · have hge : i = ls.length := by simp at hge; omega
    subst hge
    rw [List.take_length]
    ((try (conv => whnf)); repeat ((first | refine And.intro ?_ True.intro | refine And.intro ⟨by omega, by omega⟩ ?_ | refine ⟨_, (by assumption : RO.c _ _ _ = _), ?_⟩ | refine ⟨_, _, _, (by assumption : (_ : Option Obj) = _), ?_⟩ | refine ⟨_, _, _, (by assumption : RO.c _ _ _ = _), ?_⟩ | refine ⟨_, (by assumption : Row _ _ _ _), ?_⟩ | refine ⟨_, (by assumption : Cell _ _ _ _ _), ?_⟩ | refine ⟨_, _, _, (by assumption : Cell _ _ _ _ _), ?_⟩ | refine ⟨_, Or.inl (by assumption), ?_⟩ | refine ⟨_, _, _, Or.inl (by assumption), ?_⟩ | refine And.intro (ints_one _) ?_ | refine And.intro (by omega) ?_ | refine d1 ?_ | refine d2 ?_ | refine d3 ?_ | refine d4 ?_ | refine go G304 400 hC (by kernel_rfl) ?_); (conv => whnf)))
    exact ⟨by rw [pcnf, he, allN_true hn]; rfl, rfl, rfl⟩
end Go.Proofs.YtoefoaabnjeofaaGreat
namespace Go.Proofs.YtoefoaabnjeofaaGreat
open Go.SX
set_option maxHeartbeats 2000000
set_option maxRecDepth 20000
def G305 : Gv := ⟨[], [], []⟩
theorem has_spec {v : Option Nat} {h : RO} {m : Hp} :
    Con Tryz.prog 305 [.map v] h m fun e h' m' => (∃ c, e = .returned (.func (.func 352) #[] #[.pointer (some ⟨c, 0, none⟩)]) ∧ h'.c c 0 = some (.map v)) ∧ m' = m := by
  refine fn_of (nt := 4) T Tryz.func305 rfl (by kernel_rfl) Tryz.ntmps305 (by simp) T_ok T_mixed fun C hC => ?_
  simp only [Tryz.f305, argFr, Nat.zero_add, Nat.reduceAdd] at hC ⊢
  ((try (conv => whnf)); repeat ((first | refine And.intro ?_ True.intro | refine And.intro ⟨by omega, by omega⟩ ?_ | refine ⟨_, (by assumption : RO.c _ _ _ = _), ?_⟩ | refine ⟨_, _, _, (by assumption : (_ : Option Obj) = _), ?_⟩ | refine ⟨_, _, _, (by assumption : RO.c _ _ _ = _), ?_⟩ | refine ⟨_, (by assumption : Row _ _ _ _), ?_⟩ | refine ⟨_, (by assumption : Cell _ _ _ _ _), ?_⟩ | refine ⟨_, _, _, (by assumption : Cell _ _ _ _ _), ?_⟩ | refine ⟨_, Or.inl (by assumption), ?_⟩ | refine ⟨_, _, _, Or.inl (by assumption), ?_⟩ | refine And.intro (ints_one _) ?_ | refine And.intro (by omega) ?_ | refine d1 ?_ | refine d2 ?_ | refine d3 ?_ | refine d4 ?_ | refine go G305 400 hC (by kernel_rfl) ?_); (conv => whnf)))
  intro b0 h1 hle1 hp
  ((try (conv => whnf)); repeat ((first | refine And.intro ?_ True.intro | refine And.intro ⟨by omega, by omega⟩ ?_ | refine ⟨_, (by assumption : RO.c _ _ _ = _), ?_⟩ | refine ⟨_, _, _, (by assumption : (_ : Option Obj) = _), ?_⟩ | refine ⟨_, _, _, (by assumption : RO.c _ _ _ = _), ?_⟩ | refine ⟨_, (by assumption : Row _ _ _ _), ?_⟩ | refine ⟨_, (by assumption : Cell _ _ _ _ _), ?_⟩ | refine ⟨_, _, _, (by assumption : Cell _ _ _ _ _), ?_⟩ | refine ⟨_, Or.inl (by assumption), ?_⟩ | refine ⟨_, _, _, Or.inl (by assumption), ?_⟩ | refine And.intro (ints_one _) ?_ | refine And.intro (by omega) ?_ | refine d1 ?_ | refine d2 ?_ | refine d3 ?_ | refine d4 ?_ | refine go G305 400 hC (by kernel_rfl) ?_); (conv => whnf)))
  exact ⟨⟨b0, rfl, hp 0 _ rfl⟩, rfl⟩
end Go.Proofs.YtoefoaabnjeofaaGreat
namespace Go.Proofs.YtoefoaabnjeofaaGreat
open Go.SX
set_option maxHeartbeats 1000000

/-! ### validity: the program's test and the reference's are one -/

theorem snocInd {α : Type} {p : List α → Prop} (h0 : p []) (h1 : ∀ l a, p l → p (l ++ [a])) (l : List α) : p l := by
  have key : ∀ l : List α, p l.reverse := by
    intro l
    induction l with
    | nil => exact h0
    | cons a l ih => rw [List.reverse_cons]; exact h1 _ _ ih
  have := key l.reverse
  rwa [List.reverse_reverse] at this
theorem idxOf_append_mem {α : Type} [BEq α] [LawfulBEq α] {a b : List α} {c : α} (h : c ∈ a) : (a ++ b).idxOf c = a.idxOf c := by
  rw [List.idxOf_append, if_pos h]
theorem g_take {l : List Int} {n j : Nat} (h : j < n) : g (l.take n) j = g l j := by
  simp only [g, List.getD_eq_getElem?_getD, List.getElem?_take, h, if_true]
theorem mem_g {l : List Int} {x : Int} (h : x ∈ l) : ∃ i, i < l.length ∧ g l i = x := by
  obtain ⟨i, hi, e⟩ := List.getElem_of_mem h
  exact ⟨i, hi, by simp [g, hi, e]⟩
theorem gl_mem {l : List (List Int)} {i : Nat} (h : i < l.length) : gl l i ∈ l := List.mem_of_getElem? (gl_get h)
theorem mem_gl {l : List (List Int)} {x : List Int} (h : x ∈ l) : ∃ i, i < l.length ∧ gl l i = x := by
  obtain ⟨i, hi, e⟩ := List.getElem_of_mem h
  exact ⟨i, hi, by simp [gl, hi, e]⟩
theorem gd_mem {l : List (Int × List Int)} {i : Nat} (h : i < l.length) : gd l i ∈ l := List.mem_of_getElem? (gd_get h)
theorem mem_gd {l : List (Int × List Int)} {x : Int × List Int} (h : x ∈ l) : ∃ i, i < l.length ∧ gd l i = x := by
  obtain ⟨i, hi, e⟩ := List.getElem_of_mem h
  exact ⟨i, hi, by simp [gd, hi, e]⟩

/-- Strictly rising variables. -/
structure Rising (l : List Int) : Prop where
  lo : ∀ x ∈ l, 1 ≤ x ∧ x ≤ 65536
  asc : Asc l
theorem asc_of_step {l : List Int} (h : ∀ i, i + 1 < l.length → g l i < g l (i + 1)) : Asc l := by
  intro i j hij hj
  induction j with
  | zero => omega
  | succ j ih =>
    by_cases e : i = j
    · subst e; exact h i hj
    · have := ih (by omega) (by omega); have := h j hj; omega
theorem rises_iff {l : List Int} : rises l = true ↔ Rising l := by
  rw [rises, allN_iff]
  constructor
  · intro h
    refine ⟨fun x hx => ?_, asc_of_step fun i hi => ?_⟩
    · obtain ⟨i, hi, rfl⟩ := mem_g hx
      have := h i hi
      simp [okR] at this
      omega
    · have := h (i + 1) hi
      simp [okR] at this
      omega
  · intro h i hi
    have h1 := h.lo _ (g_mem hi)
    simp only [okR, Bool.not_eq_true', Bool.or_eq_false_iff, decide_eq_false_iff_not, Bool.and_eq_false_iff]
    refine ⟨⟨by omega, by omega⟩, ?_⟩
    by_cases e : i = 0
    · exact .inl (by omega)
    · have := h.asc (i - 1) i (by omega) hi; exact .inr (by omega)
theorem Asc.nodup {l : List Int} (h : Asc l) : l.Nodup := by
  rw [List.nodup_iff_pairwise_ne, List.pairwise_iff_getElem]
  intro i j hi hj hij
  have := h i j hij hj
  simp [g, hi, hj] at this
  omega

theorem pabs_eq {x : Int} (h : -65536 ≤ x) (h' : x ≤ 65536) : pabs x = abs64 x := by
  unfold pabs abs64
  rw [w64 (by omega) (by omega)]
  split <;> omega
theorem abs64_small {x : Int} (h : -65536 ≤ x) (h' : x ≤ 65536) : abs64 x = if x < 0 then -x else x := by
  unfold abs64
  rw [w64 (by omega) (by omega)]
  split <;> omega

/-- A list of literals that the program calls normal. -/
theorem normal_iff {l : List Int} : normal l = true ↔ (∀ x ∈ l, -65536 ≤ x ∧ x ≤ 65536 ∧ x ≠ 0) ∧ ∀ i, i + 1 < l.length → abs64 (g l i) < abs64 (g l (i + 1)) := by
  rw [normal, allN_iff]
  constructor
  · intro h
    refine ⟨fun x hx => ?_, fun i hi => ?_⟩
    · obtain ⟨i, hi, rfl⟩ := mem_g hx
      have := h i hi
      simp [okN] at this
      omega
    · have := h (i + 1) hi
      simp [okN] at this
      omega
  · rintro ⟨h1, h2⟩ i hi
    have := h1 _ (g_mem hi)
    simp only [okN, Bool.not_eq_true', Bool.or_eq_false_iff, decide_eq_false_iff_not, Bool.and_eq_false_iff, beq_eq_false_iff_ne]
    refine ⟨⟨⟨by omega, by omega⟩, by omega⟩, ?_⟩
    by_cases e : i = 0
    · exact .inl (by omega)
    · have := h2 (i - 1) (by omega); rw [show i - 1 + 1 = i by omega] at this; exact .inr (by omega)

theorem okPl_iff {p : Int → Bool} {ls : List (List Int)} {i : Nat} : okPl p ls i = true ↔ normal (gl ls i) = true ∧ ∀ x ∈ gl ls i, p (abs64 x) = true := by
  rw [okPl, allN_iff, normal_iff]
  have hr : ∀ k, okPc p (gl ls i) k = true → -65536 ≤ g (gl ls i) k ∧ g (gl ls i) k ≤ 65536 ∧ g (gl ls i) k ≠ 0 := fun k hk => by simp [okPc] at hk; omega
  constructor
  · intro h
    refine ⟨⟨fun x hx => ?_, fun k hk => ?_⟩, fun x hx => ?_⟩
    · obtain ⟨k, hk, rfl⟩ := mem_g hx
      exact hr k (h k hk)
    · have a := hr k (h k (by omega))
      have b := hr (k + 1) (h (k + 1) hk)
      rw [← pabs_eq a.1 a.2.1, ← pabs_eq b.1 b.2.1]
      have := h (k + 1) hk
      simp [okPc, lastA] at this
      omega
    · obtain ⟨k, hk, rfl⟩ := mem_g hx
      have a := hr k (h k hk)
      rw [← pabs_eq a.1 a.2.1]
      have := h k hk
      simp [okPc] at this
      exact this.2
  · rintro ⟨⟨h1, h2⟩, h3⟩ k hk
    have a := h1 _ (g_mem hk)
    have e := pabs_eq a.1 a.2.1
    have e3 := h3 _ (g_mem hk)
    simp only [okPc, Bool.not_eq_true', Bool.or_eq_false_iff, decide_eq_false_iff_not, beq_eq_false_iff_ne, Bool.not_eq_false']
    refine ⟨⟨⟨⟨by omega, by omega⟩, by omega⟩, ?_⟩, by rw [e]; exact e3⟩
    rw [e, lastA]
    by_cases hk0 : k = 0
    · rw [if_pos hk0]; have := abs64_small a.1 a.2.1; split at this <;> omega
    · rw [if_neg hk0]
      have b := h1 _ (g_mem (l := gl ls i) (i := k - 1) (by omega))
      have := h2 (k - 1) (by omega)
      rw [show k - 1 + 1 = k by omega] at this
      rw [pabs_eq b.1 b.2.1]; omega

theorem contains_iff {l : List Int} {x : Int} : l.contains x = true ↔ x ∈ l := by simp

def pokX (univ : List Int) (ex : List (Int × List Int)) (i : Nat) : Bool := !univ.contains (gd ex i).1 && (rises (gd ex i).2 && !(gd ex i).2.any fun v => !univ.contains v)
/-- What the program's test says. -/
def pMay (univ : List Int) (ex : List (Int × List Int)) (cls : List (List Int)) : Bool :=
  allN ex.length (pokX univ ex) && (rises univ && (rises (ex.map (·.1)) && (decide (((univ.length + ex.length : Nat) : Int) ≤ 1024) && pcnf (fun v => univ.contains v || (ex.map (·.1)).contains v) cls)))

theorem single_iff {l : List Int} : single l = true ↔ (∀ x ∈ l, 1 ≤ x ∧ x ≤ 65536) ∧ l.Nodup := by
  rw [single, allN_iff]
  constructor
  · intro h
    refine ⟨fun x hx => ?_, ?_⟩
    · obtain ⟨i, hi, rfl⟩ := mem_g hx
      have := h i hi
      simp [okS] at this
      omega
    · rw [List.nodup_iff_pairwise_ne, List.pairwise_iff_getElem]
      intro i j hi hj hij e
      have := h j hj
      simp only [okS, Bool.not_eq_true', Bool.or_eq_false_iff] at this
      have h2 := this.2
      simp only [List.contains_eq_mem, decide_eq_false_iff_not] at h2
      refine h2 ?_
      have : g l j = l[i] := by simp [g, hj, e]
      rw [this]
      exact List.mem_iff_getElem.2 ⟨i, by simp; omega, by simp⟩
  · rintro ⟨h1, h2⟩ i hi
    have := h1 _ (g_mem hi)
    simp only [okS, Bool.not_eq_true', Bool.or_eq_false_iff, decide_eq_false_iff_not, List.contains_eq_mem]
    refine ⟨⟨by omega, by omega⟩, fun hm => ?_⟩
    obtain ⟨j, hj, e⟩ := mem_g hm
    have hj' : j < i := by simp at hj; omega
    rw [g_take hj'] at e
    rw [List.nodup_iff_pairwise_ne, List.pairwise_iff_getElem] at h2
    refine h2 j i (by omega) hi hj' ?_
    simpa [g, hi, show j < l.length by omega] using e

theorem part_iff {a b : List Int} : part a b = true ↔ ∀ x ∈ a, x ∈ b := by
  rw [part, allN_iff]
  constructor
  · intro h x hx
    obtain ⟨i, hi, rfl⟩ := mem_g hx
    simpa [okP] using h i hi
  · intro h i hi
    simpa [okP] using h _ (g_mem hi)

/-- A formula that is valid, told plainly. -/
structure ValidD (univ : List Int) (ex : List (Int × List Int)) (cls : List (List Int)) : Prop where
  ru : Rising univ
  re : Rising (ex.map (·.1))
  apart : ∀ v ∈ ex.map (·.1), v ∉ univ
  deps : ∀ y ∈ ex, Rising y.2 ∧ ∀ v ∈ y.2, v ∈ univ
  size : univ.length + ex.length ≤ 1024
  ncl : cls.length ≤ 20000
  ntot : tot cls ≤ 200000
  norm : ∀ c ∈ cls, normal c = true
  vars : ∀ c ∈ cls, ∀ x ∈ c, abs64 x ∈ univ ∨ abs64 x ∈ ex.map (·.1)

theorem mayDqbf_iff {univ : List Int} {ex : List (Int × List Int)} {cls : List (List Int)} : mayDqbf univ ex cls = true ↔ ValidD univ ex cls := by
  simp only [mayDqbf, headD, Bool.and_eq_true, Bool.not_eq_true', Bool.or_eq_false_iff, Bool.not_eq_false', decide_eq_false_iff_not, allN_iff]
  rw [single_iff, rises_iff, rises_iff]
  have hd : (allV univ ex).drop univ.length = ex.map (·.1) := by simp [allV]
  have hl : (allV univ ex).length = univ.length + ex.length := by simp [allV]
  rw [hd, hl]
  constructor
  · rintro ⟨⟨⟨⟨⟨⟨h1, h2, h3⟩, h4⟩, h5⟩, h6⟩, h7⟩, h8⟩
    simp only [cnf, Bool.and_eq_true, decide_eq_true_eq, allN_iff] at h6
    simp only [within, allN_iff] at h7
    refine ⟨h4, h5, fun v hv hu => ?_, fun y hy => ?_, by omega, h6.2.1, h6.2.2, fun c hc => ?_, fun c hc x hx => ?_⟩
    · have := (List.nodup_append.1 h3).2.2
      exact this v hu v hv rfl
    · obtain ⟨i, hi, rfl⟩ := mem_gd hy
      have := h8 i hi
      simp only [okD, Bool.and_eq_true, part_iff] at this
      exact ⟨rises_iff.1 this.1, this.2⟩
    · obtain ⟨i, hi, rfl⟩ := mem_gl hc
      exact h6.1 i hi
    · obtain ⟨i, hi, rfl⟩ := mem_gl hc
      obtain ⟨k, hk, rfl⟩ := mem_g hx
      have := h7 i hi
      simp only [okW, allN_iff] at this
      have := this k hk
      simp only [okW2, contains_iff, allV, List.mem_append] at this
      exact this
  · intro v
    refine ⟨⟨⟨⟨⟨⟨by have := v.size; omega, fun x hx => ?_, ?_⟩, v.ru⟩, v.re⟩, ?_⟩, ?_⟩, fun i hi => ?_⟩
    · simp only [allV, List.mem_append] at hx
      exact hx.elim (v.ru.lo x) (v.re.lo x)
    · exact List.nodup_append.2 ⟨v.ru.asc.nodup, v.re.asc.nodup, fun a ha b hb e => v.apart b hb (e ▸ ha)⟩
    · simp only [cnf, Bool.and_eq_true, decide_eq_true_eq, allN_iff]
      exact ⟨fun i hi => v.norm _ (gl_mem hi), v.ncl, v.ntot⟩
    · simp only [within, allN_iff, okW, okW2, contains_iff, allV, List.mem_append]
      exact fun i hi k hk => v.vars _ (gl_mem hi) _ (g_mem hk)
    · have := v.deps _ (gd_mem hi)
      simp only [okD, Bool.and_eq_true, part_iff]
      exact ⟨rises_iff.2 this.1, this.2⟩

theorem pMay_iff {univ : List Int} {ex : List (Int × List Int)} {cls : List (List Int)} : pMay univ ex cls = true ↔ ValidD univ ex cls := by
  simp only [pMay, pcnf, pokX, Bool.and_eq_true, allN_iff, okPl_iff, rises_iff, decide_eq_true_eq, Bool.not_eq_true', decide_eq_false_iff_not]
  constructor
  · rintro ⟨h1, h2, h3, h4, h5, h6, h7⟩
    refine ⟨h2, h3, fun v hv hu => ?_, fun y hy => ?_, by omega, by omega, by omega, fun c hc => ?_, fun c hc x hx => ?_⟩
    · obtain ⟨y, hy, rfl⟩ := List.mem_map.1 hv
      obtain ⟨i, hi, rfl⟩ := mem_gd hy
      have := (h1 i hi).1
      simp at this
      exact this hu
    · obtain ⟨i, hi, rfl⟩ := mem_gd hy
      refine ⟨(h1 i hi).2.1, fun v hv => ?_⟩
      have := (h1 i hi).2.2
      simp at this
      exact this v hv
    · obtain ⟨i, hi, rfl⟩ := mem_gl hc
      exact (h6 i hi).1
    · obtain ⟨i, hi, rfl⟩ := mem_gl hc
      have := (h6 i hi).2 x hx
      simpa using this
  · intro v
    refine ⟨fun i hi => ⟨?_, (v.deps _ (gd_mem hi)).1, ?_⟩, v.ru, v.re, by have := v.size; omega, by have := v.ncl; omega, fun i hi => ⟨v.norm _ (gl_mem hi), fun x hx => ?_⟩, by have := v.ntot; omega⟩
    · simpa using v.apart _ (List.mem_map.2 ⟨_, gd_mem hi, rfl⟩)
    · simpa using (v.deps _ (gd_mem hi)).2
    · simpa using v.vars _ (gl_mem hi) x hx
theorem pMay_eq (univ : List Int) (ex : List (Int × List Int)) (cls : List (List Int)) : pMay univ ex cls = mayDqbf univ ex cls := by
  rw [Bool.eq_iff_iff, pMay_iff, mayDqbf_iff]
end Go.Proofs.YtoefoaabnjeofaaGreat
/-
  SX, part R: loops whose unchanged slots are kept by their numbers; a map that becomes readable.
-/
namespace Go.SX

/-- Of a frame the slots of some numbers are told. -/
inductive Keep (ρ : Fr) : List Nat → Fr → Prop
  | nil : Keep ρ [] []
  | cons {t : Nat} {s : SV} {ts : List Nat} {r : Fr} : Fr.get ρ t = some s → Keep ρ ts r → Keep ρ (t :: ts) ((t, s) :: r)
  | skip {t : Nat} {ts : List Nat} {r : Fr} : Fr.get ρ t = none → Keep ρ ts r → Keep ρ (t :: ts) r

/-- .. and of the private things. -/
inductive KeepB (bx : BX) : List Nat → BX → Prop
  | nil : KeepB bx [] []
  | cons {t : Nat} {s : BS} {ts : List Nat} {r : BX} : BX.get bx t = some s → KeepB bx ts r → KeepB bx (t :: ts) ((t, s) :: r)

section
variable {C : Cx} {k : List It} {ρ : Fr} {bx : BX} {h : RO} {m : Hp}

/-- 'sx_loop', where the slots that stay are told by their numbers. -/
theorem sx_loopK {body : Code} {X : Type} (ts : List Nat) (cs : X → Fr) (bxs : X → BX) (I : X → RO → Hp → Prop) (μ : X → Nat) (x0 : X) {kept : Fr} (_ : Keep ρ ts kept)
    (hfr : ∃ σ, Mat σ (cs x0 ++ kept) (bxs x0) ρ bx) (hI : I x0 h m)
    (round : ∀ x h' m', h.le h' → I x h' m' → Sx C (.code body :: .goal (fun ρ' bx' h'' m'' => Halt (∃ x' σ, Mat σ (cs x' ++ kept) (bxs x') ρ' bx' ∧ h'.le h'' ∧ I x' h'' m'' ∧ μ x' < μ x)) :: k) (cs x ++ kept) (bxs x) h' m') :
    Sx C (.code (.loop body) :: k) ρ bx h m := sx_loop (fun x => cs x ++ kept) bxs I μ x0 hfr hI round
/-- .. and private things too. -/
theorem sx_loopB {body : Code} {X : Type} (ts : List Nat) (us : List Nat) (cs : X → Fr) (cb : X → BX) (I : X → RO → Hp → Prop) (μ : X → Nat) (x0 : X) {kept : Fr} {keptB : BX} (_ : Keep ρ ts kept) (_ : KeepB bx us keptB)
    (hfr : ∃ σ, Mat σ (cs x0 ++ kept) (cb x0 ++ keptB) ρ bx) (hI : I x0 h m)
    (round : ∀ x h' m', h.le h' → I x h' m' → Sx C (.code body :: .goal (fun ρ' bx' h'' m'' => Halt (∃ x' σ, Mat σ (cs x' ++ kept) (cb x' ++ keptB) ρ' bx' ∧ h'.le h'' ∧ I x' h'' m'' ∧ μ x' < μ x)) :: k) (cs x ++ kept) (cb x ++ keptB) h' m') :
    Sx C (.code (.loop body) :: k) ρ bx h m := sx_loop (fun x => cs x ++ kept) (fun x => cb x ++ keptB) I μ x0 hfr hI round
/-- A cut: what stands first comes to J; from J on the rest. Slots and private things that stay are told by their numbers. -/
theorem sx_cutB {c : Code} {X : Type} (ts us : List Nat) (cs : X → Fr) (cb : X → BX) (I : X → RO → Hp → Prop) {kept : Fr} {keptB : BX} (_ : Keep ρ ts kept) (_ : KeepB bx us keptB)
    (first : Sx C (.code c :: .goal (fun ρ' bx' h' m' => Halt (∃ x σ, Mat σ (cs x ++ kept) (cb x ++ keptB) ρ' bx' ∧ h.le h' ∧ I x h' m')) :: k) ρ bx h m)
    (rest : ∀ x h' m', h.le h' → I x h' m' → Sx C k (cs x ++ kept) (cb x ++ keptB) h' m') : Sx C (.code c :: k) ρ bx h m :=
  sx_cut (fun x => cs x ++ kept) (fun x => cb x ++ keptB) I first rest
end

section
variable {β : Nat → Nat} {w0 w w' : World} {h0 h : RO} {m0 m : Hp} {bx : BX}
/-- A block that is no row of cells becomes readable, and stays as it is. -/
theorem Mem.pubO (M : Mem β w0 h0 m0 bx h m w) {b : Nat} {x : Obj} (hg : m b = some x) (hr : Obj.isRow x = false) :
    ∃ h', h.le h' ∧ h'.o b = some x ∧ Mem β w0 h0 m0 bx h' (m.unset b) w := by
  have hb0 : h.o b = none := by
    cases e : h.o b with
    | none => rfl
    | some y => have := M.step.disj.o _ _ e; rw [hg] at this; cases this
  have hle : h.le ⟨h.c, fun k => if k = b then some x else h.o k⟩ := ⟨fun _ _ _ e => e, fun k v e => by
    simp only
    split
    · rename_i eb; subst eb; rw [hb0] at e; cases e
    · exact e⟩
  have q := M.step.mon b _ hg
  have hun : ∀ k, m k = none → m.unset b k = none := fun k hk => by unfold Hp.unset; split <;> simp [hk]
  refine ⟨_, hle, by simp, ⟨⟨M.step.os, M.step.tape, M.step.output, M.step.size, M.step.same, M.step.le.trans hle, ⟨M.step.hon.c, fun k v e => ?_⟩, fun k x e => ?_, ⟨fun k i v e => hun k (M.step.disj.c k i v e), fun k v e => ?_⟩, M.step.hnew, fun k v e => ?_, fun k x e => ?_⟩, ?_, M.ne⟩⟩
  · simp only at e
    split at e
    · rename_i eb; subst eb; cases e; exact ⟨q, hr⟩
    · exact M.step.hon.o k v e
  · unfold Hp.unset at e
    split at e
    · cases e
    · exact M.step.mon k x e
  · simp only at e
    split at e
    · rename_i eb; subst eb; simp [Hp.unset]
    · exact hun k (M.step.disj.o k v e)
  · simp only at e
    split at e
    · rename_i eb; subst eb
      rcases M.step.mnew k _ hg with q | q
      · exact .inr (.inr q)
      · exact .inr (.inl q)
    · exact M.step.onew k v e
  · unfold Hp.unset at e
    split at e
    · cases e
    · exact M.step.mnew k x e
  · intro i s e
    have hne : ∀ b', s.blk β i = some b' → b' ≠ b := fun b' eb e' => by
      have := (M.blk_lt e eb).2.2.1; subst e'; rw [hg] at this; cases this
    exact (M.ok i s e).kept hle (fun _ _ => rfl) (fun b' eb => hun b' (M.blk_lt e eb).2.2.1) (fun b' k eb => rfl) (fun b' eb => by simp only; rw [if_neg (hne b' eb)]; exact (M.blk_lt e eb).2.2.2)
end

theorem sx_pubO {C : Cx} {k : List It} {ρ : Fr} {bx : BX} {h : RO} {m : Hp} {b : Nat} {x : Obj} (hg : m b = some x) (hr : Obj.isRow x = false)
    (hk : ∀ h', h.le h' → h'.o b = some x → Sx C k ρ bx h' (m.unset b)) : Sx C k ρ bx h m := .mk fun a w s => by
  obtain ⟨β, M, F⟩ := s.parts
  obtain ⟨h', hle, hc, M'⟩ := M.pubO hg hr
  exact WPx_mono hle ((hk h' hle hc).run a w (Sat.of_parts s.size s.defers M' F.f))

/-! ### maps, told by plain keys -/
open Classical in
noncomputable def updA {α : Type} (f : α → Option Value) (x : α) (v : Option Value) : α → Option Value := fun y => if y = x then v else f y
theorem updA_self {α : Type} (f : α → Option Value) (x : α) (v : Option Value) : updA f x v x = v := by simp [updA]
theorem updA_ne {α : Type} (f : α → Option Value) {x y : α} (v : Option Value) (h : y ≠ x) : updA f x v y = f y := by simp [updA, h]

/-- The entries of a map whose keys are the images of plain things: a function of these. -/
structure MapO (G : Value → Prop) {α : Type} (ι : α → Value) (es : Array MapEntry) (F : Value → Option Value) (f : α → Option Value) : Prop where
  r : MRep G es F
  eq : ∀ x, F (ι x) = f x
  keys : ∀ k v, F k = some v → ∃ x, k = ι x
theorem MapO.nil (G : Value → Prop) {α : Type} (ι : α → Value) : MapO G ι #[] (fun _ => none) fun _ => none := ⟨MRep.nil _, fun _ => rfl, fun _ _ h => by cases h⟩
theorem MapO.upd {G : Value → Prop} {α : Type} {ι : α → Value} (hi : ∀ x y, ι x = ι y → x = y) {es es' : Array MapEntry} {F : Value → Option Value} {f : α → Option Value} (r : MapO G ι es F f) {x : α} {v : Option Value}
    (hr : MRep G es' (updF F (ι x) v)) : MapO G ι es' (updF F (ι x) v) (updA f x v) := by
  refine ⟨hr, fun y => ?_, fun k u hk => ?_⟩
  · by_cases e : y = x
    · subst e; rw [updF_self, updA_self]
    · rw [updF_ne _ _ (fun h => e (hi _ _ h)), updA_ne _ _ e]; exact r.eq y
  · by_cases e : k = ι x
    · exact ⟨x, e⟩
    · rw [updF_ne _ _ e] at hk; exact r.keys k u hk
theorem MapO.congr {G : Value → Prop} {α : Type} {ι : α → Value} {es : Array MapEntry} {F : Value → Option Value} {f f' : α → Option Value} (r : MapO G ι es F f) (h : ∀ x, f x = f' x) : MapO G ι es F f' :=
  ⟨r.r, fun x => (r.eq x).trans (h x), r.keys⟩
/-- A map in a block that may be changed. -/
def MapX (G : Value → Prop) {α : Type} (ι : α → Value) (m : Hp) (b : Nat) (f : α → Option Value) : Prop := ∃ es clock F, m b = some (.map es clock) ∧ MapO G ι es F f
/-- A map that may be read. -/
def MapR (G : Value → Prop) {α : Type} (ι : α → Value) (h : RO) (m : Hp) (b : Nat) (f : α → Option Value) : Prop := ∃ es clock F, ObjAt h m b (.map es clock) ∧ MapO G ι es F f
section
variable {G : Value → Prop} {α : Type} {ι : α → Value} {m : Hp} {b : Nat} {f : α → Option Value}
theorem MapX.r {h : RO} (r : MapX G ι m b f) : MapR G ι h m b f := let ⟨es, c, F, e, q⟩ := r; ⟨es, c, F, .inl e, q⟩
theorem MapX.new (G : Value → Prop) {α : Type} (ι : α → Value) (m : Hp) (b : Nat) : MapX G ι (m.set b (.map #[] 0)) b fun _ => none := ⟨#[], 0, _, by simp [Hp.set], MapO.nil G ι⟩
theorem MapX.other (r : MapX G ι m b f) {b' : Nat} (hne : b ≠ b') (x : Obj) : MapX G ι (m.set b' x) b f := let ⟨es, c, F, e, q⟩ := r; ⟨es, c, F, by simp [Hp.set, hne, e], q⟩
theorem MapX.congr {f' : α → Option Value} (r : MapX G ι m b f) (h : ∀ x, f x = f' x) : MapX G ι m b f' := let ⟨es, c, F, e, q⟩ := r; ⟨es, c, F, e, q.congr h⟩
theorem MapO.x {es : Array MapEntry} {clock : Nat} {F : Value → Option Value} (q : MapO G ι es F f) (m : Hp) (b : Nat) : MapX G ι (m.set b (.map es clock)) b f := ⟨es, clock, F, by simp [Hp.set], q⟩
theorem MapR.mono {h h' : RO} (r : MapR G ι h Hp.none b f) (hl : h.le h') (m' : Hp) : MapR G ι h' m' b f := let ⟨es, c, F, e, q⟩ := r; ⟨es, c, F, e.elim (fun e => by cases e) fun e => .inr (hl.o _ _ e), q⟩
end
theorem MRow.sl {m : Hp} {e sz n : Nat} {v : Value} {es : List Value} (r : MRow m e sz v n es) : ∃ a c, v = .slice a n c := by
  rcases r.2 with ⟨h, hn⟩ | ⟨g, cap, cur, h, _⟩
  · subst hn; exact ⟨_, _, h⟩
  · exact ⟨_, _, h⟩
theorem Turned.keep {m m' : Hp} {h : RO} {v v' : Value} {e sz n b : Nat} {es : List Value} {o : Obj} (t : Turned m m' h v v') (r : MRow m e sz v n es) (hb : m b = some o) (ho : Obj.isRow o = false) : m' b = some o := by
  rcases t with ⟨_, rfl⟩ | ⟨b', x, _, rfl, hc⟩
  · exact hb
  · unfold Hp.set
    split
    · rename_i e'; subst e'
      rcases hc with hc | ⟨hc, _⟩
      · rcases r.2 with ⟨rfl, _⟩ | ⟨g, cap, cur, rfl, h2, _⟩
        · simp [Value.ownBlock] at hc
        · simp [Value.ownBlock] at hc; subst hc; rw [h2] at hb; cases hb; simp [Obj.isRow] at ho
      · rw [hc] at hb; cases hb
    · exact hb
theorem Turned.sub {m0 m m' : Hp} {h : RO} {v v' : Value} (t : Turned m m' h v v') (hs : m0.sub m) (ho : ∀ b, v.ownBlock = some b → m0 b = none) : m0.sub m' ∧ ∀ b, v'.ownBlock = some b → m0 b = none := by
  rcases t with ⟨e, rfl⟩ | ⟨b', x, e, rfl, hc⟩
  · exact ⟨hs, fun b hb => by rw [e] at hb; cases hb⟩
  · have h0 : m0 b' = none := by
      rcases hc with hc | ⟨hc, _⟩
      · exact ho _ hc
      · exact hs.none hc
    exact ⟨hs.fresh h0 _, fun b hb => by rw [e] at hb; cases hb; exact h0⟩
theorem MRow.set {m : Hp} {e sz n b : Nat} {v : Value} {es : List Value} (r : MRow m e sz v n es) (h : ∀ g, v.ownBlock = some g → g ≠ b) (o : Obj) : MRow (m.set b o) e sz v n es := by
  refine ⟨r.1, r.2.imp id ?_⟩
  rintro ⟨g, cap, cur, rfl, h2, h3⟩
  exact ⟨g, cap, cur, rfl, by unfold Hp.set; rw [if_neg (h g rfl)]; exact h2, h3⟩
theorem Hp.sub.unset {m0 m : Hp} (hs : m0.sub m) {b : Nat} (h : m0 b = Option.none) : m0.sub (m.unset b) := fun k o e => by
  unfold Hp.unset
  split
  · rename_i e'; subst e'; rw [h] at e; cases e
  · exact hs k o e
/-- A slice that might be appended to becomes readable. -/
theorem sx_pubRow {C : Cx} {k : List It} {ρ : Fr} {bx : BX} {h : RO} {m m0 : Hp} {e sz n : Nat} {v : Value} {es : List Value} (r : MRow m e sz v n es) (hs : m0.sub m) (ho : ∀ b, v.ownBlock = some b → m0 b = none)
    (hk : ∀ h' m', h.le h' → m0.sub m' → (∀ b o, m b = some o → Obj.isRow o = false → m' b = some o) → Row h' sz v es → Sx C k ρ bx h' m') : Sx C k ρ bx h m := by
  obtain ⟨hl, ⟨rfl, rfl⟩ | ⟨g, cap, cur, rfl, h2, h3, h4, h5, h6⟩⟩ := r
  · exact hk h m (RO.le.refl h) hs (fun b o h _ => h) ⟨none, 0, 0, rfl, hl, Nat.le_refl _, .inl ⟨rfl, rfl⟩⟩
  · refine sx_pubM h2 fun h' hle hc => hk h' _ hle (hs.unset (ho g rfl)) (fun b o hb hr => ?_) ⟨_, n, cap, rfl, hl, h3, .inr ⟨g, 0, rfl, fun i u hu => ?_⟩⟩
    · unfold Hp.unset
      split
      · rename_i e'; subst e'; rw [h2] at hb; cases hb; simp [Obj.isRow] at hr
      · exact hb
    · rw [← h6] at hu
      rw [Nat.zero_add]
      refine hc i u ?_
      rw [List.getElem?_take] at hu
      split at hu
      · simpa using hu
      · cases hu
theorem MRow.ne {m : Hp} {e sz n b : Nat} {v : Value} {es : List Value} {o : Obj} (r : MRow m e sz v n es) (hb : m b = some o) (ho : Obj.isRow o = false) : ∀ g, v.ownBlock = some g → g ≠ b := by
  intro g hg e'
  subst e'
  rcases r.2 with ⟨rfl, _⟩ | ⟨g', cap, cur, rfl, h2, _⟩
  · cases hg
  · simp [Value.ownBlock] at hg; subst hg; rw [h2] at hb; cases hb; simp [Obj.isRow] at ho
theorem MRow.setMap {G : Value → Prop} {α : Type} {ι : α → Value} {f : α → Option Value} {m : Hp} {e sz n b : Nat} {v : Value} {es : List Value} (r : MRow m e sz v n es) (hb : MapX G ι m b f) (o : Obj) : MRow (m.set b o) e sz v n es := by
  obtain ⟨es, c, F, hm, _⟩ := hb
  exact r.set (r.ne hm rfl) o
theorem MapX.ne {G : Value → Prop} {α : Type} {ι : α → Value} {f : α → Option Value} {m : Hp} {b b' : Nat} {cs : Array Value} {ty : Nat} {fr : Nat × Nat} (r : MapX G ι m b f) (h : m b' = some (.cells cs ty fr)) : b ≠ b' := by
  intro e; subst e
  obtain ⟨es, c, F, hm, _⟩ := r
  rw [h] at hm; cases hm
theorem MapX.sub {G : Value → Prop} {α : Type} {ι : α → Value} {f : α → Option Value} {m m' : Hp} {b : Nat} (r : MapX G ι m b f) (h : m.sub m') : MapX G ι m' b f :=
  let ⟨es, c, F, hm, q⟩ := r; ⟨es, c, F, h _ _ hm, q⟩
theorem Hp.set_ne {m : Hp} {b k : Nat} {x : Obj} (h : k ≠ b) : m.set b x k = m k := by unfold Hp.set; rw [if_neg h]
theorem Hp.set_eq {m : Hp} {b : Nat} {x : Obj} : m.set b x b = some x := by unfold Hp.set; rw [if_pos rfl]
theorem Cell.of {h : RO} {m : Hp} {b i : Nat} {cs : Array Value} {ty : Nat} {f : Nat × Nat} (hm : m b = some (.cells cs ty f)) {v : Value} (hv : cs[i]? = some v) : Cell h m b i v := .inr ⟨cs, ty, f, hm, hv⟩
theorem Turned.keep2 {m m' : Hp} {h : RO} {v v' : Value} {b : Nat} {o : Obj} (t : Turned m m' h v v') (hb : m b = some o) (hn : v.ownBlock ≠ some b) : m' b = some o := by
  rcases t with ⟨_, rfl⟩ | ⟨b', x, _, rfl, hc⟩
  · exact hb
  · have : b ≠ b' := fun e => by
      subst e
      rcases hc with hc | ⟨hc, _⟩
      · exact hn hc
      · rw [hc] at hb; cases hb
    rw [Hp.set_ne this]; exact hb
theorem Turned.own {m m' : Hp} {h : RO} {v v' : Value} {b : Nat} (t : Turned m m' h v v') (hb : v'.ownBlock = some b) : v.ownBlock = some b ∨ m b = none := by
  rcases t with ⟨e, rfl⟩ | ⟨b', x, e, rfl, hc⟩
  · rw [e] at hb; cases hb
  · rw [e] at hb; cases hb
    exact hc.imp id fun q => q.1
end Go.SX
/-
  SX, part S: bits of ints.
-/
namespace Go.SX

theorem bits64 : IntKind.i64.bits = 64 := rfl
theorem bv_nat {a : Int} (h0 : 0 ≤ a) (h1 : a < 9223372036854775808) : (BitVec.ofInt IntKind.i64.bits a).toNat = a.toNat := by
  rw [bits64, BitVec.toNat_ofInt]; omega
theorem nxor1 (n : Nat) : n ^^^ 1 = if n % 2 = 0 then n + 1 else n - 1 := by
  have h : (n ^^^ 1) / 2 = n / 2 := by
    have := Nat.xor_div_two (a := n) (b := 1); simpa using this
  have h2 : (n ^^^ 1) % 2 = 1 - n % 2 := by
    have := @Nat.xor_mod_two_eq_one n 1
    by_cases h : n % 2 = 1
    · have h3 : ¬ (n ^^^ 1) % 2 = 1 := fun e => (this.1 e) ⟨fun _ => rfl, fun _ => h⟩
      omega
    · have h3 : (n ^^^ 1) % 2 = 1 := this.2 fun e => h (e.2 rfl)
      omega
  split <;> omega
/-- 'e ^ 1'. -/
def x1 (e : Int) : Int := if e % 2 = 0 then e + 1 else e - 1
theorem xor1 {e : Int} (h0 : 0 ≤ e) (h1 : e < 9223372036854775806) : IntKind.i64.wrap (BitVec.ofInt IntKind.i64.bits e ^^^ BitVec.ofInt IntKind.i64.bits 1).toNat = x1 e := by
  rw [BitVec.toNat_xor, bv_nat h0 (by omega), bv_nat (by decide) (by decide), show (1 : Int).toNat = 1 from rfl, nxor1]
  unfold x1
  split <;> split <;> rw [w64 (by omega) (by omega)] <;> omega
theorem and1 {e : Int} (h0 : 0 ≤ e) (h1 : e < 9223372036854775808) : IntKind.i64.wrap (BitVec.ofInt IntKind.i64.bits e &&& BitVec.ofInt IntKind.i64.bits 1).toNat = e % 2 := by
  rw [BitVec.toNat_and, bv_nat h0 (by omega), bv_nat (by decide) (by decide), show (1 : Int).toNat = 1 from rfl, Nat.and_one_is_mod]
  rw [w64 (by omega) (by omega)]; omega
theorem shr1 (e : Int) : e.fdiv (2 ^ (min (Int.toNat 1) IntKind.i64.bits)) = e / 2 := by
  have e2 : (2 : Int) ^ (min (Int.toNat 1) IntKind.i64.bits) = 2 := by decide
  rw [e2, Int.fdiv_eq_ediv_of_nonneg _ (by decide)]
end Go.SX
namespace Go.Proofs.YtoefoaabnjeofaaGreat
open Go.SX
set_option maxHeartbeats 4000000
set_option maxRecDepth 20000
def G241 : Gv := ⟨[], [1, 3, 9], [(20, .one 0 (.one 1 (.fork 2 (.one 3 (.one 4 (.fork 5 (.one 6 (.one 7 (.one 8 (.one 9 (.one 10 (.one 11 (.one 12 (.one 13 (.one 14 (.one 15 (.one 16 (.one 17 (.one 18 (.one 19 (.fork 20 (.fork 21 (.one 22 (.one 23 (.nil))) .stop) .stop))))))))))))))) .stop))) .stop)))]⟩
theorem pmay_spec {u v w : Value} {univ : List Int} {ex : List (Int × List Int)} {cls : List (List Int)} {h : RO} {m : Hp} (ha : IntS h u univ) (hb : DepS h v ex) (hc : LLS h w cls)
    (hl : univ.length + ex.length ≤ 1000000000) (ht : tot cls ≤ 1000000000000) :
    Con Tryz.prog 241 [.agg #[u, v, w]] h m fun e h' m' => e = .returned (.bool (pMay univ ex cls)) ∧ m' = m := by
  obtain ⟨x, c, rfl, hr⟩ := ha.s
  obtain ⟨y, d, rfl⟩ := hb.sl
  obtain ⟨z, f, rfl⟩ := hc.sl
  have hla := ha.len
  have hlb := hb.len
  refine Con.drop ?_
  refine fn_of (nt := 87) T Tryz.func241 rfl (by kernel_rfl) Tryz.ntmps241 (by simp) T_ok T_mixed fun C hC => ?_
  simp only [Tryz.f241, argFr, Nat.zero_add, Nat.reduceAdd] at hC ⊢
  ((try (conv => whnf)); repeat ((first | refine And.intro ?_ True.intro | refine And.intro ⟨by omega, by omega⟩ ?_ | refine ⟨_, (by assumption : RO.c _ _ _ = _), ?_⟩ | refine ⟨_, _, _, (by assumption : (_ : Option Obj) = _), ?_⟩ | refine ⟨_, _, _, (by assumption : RO.c _ _ _ = _), ?_⟩ | refine ⟨_, (by assumption : Row _ _ _ _), ?_⟩ | refine ⟨_, (by assumption : Cell _ _ _ _ _), ?_⟩ | refine ⟨_, _, _, (by assumption : Cell _ _ _ _ _), ?_⟩ | refine ⟨_, Or.inl (by assumption), ?_⟩ | refine ⟨_, _, _, Or.inl (by assumption), ?_⟩ | refine And.intro (ints_one _) ?_ | refine And.intro (by omega) ?_ | refine d1 ?_ | refine d2 ?_ | refine d3 ?_ | refine d4 ?_ | refine go G241 400 hC (by kernel_rfl) ?_); (conv => whnf)))
  intro b0 h1 hle1 hp1
  replace ha := ha.mono hle1
  replace hb := hb.mono hle1
  replace hc := hc.mono hle1
  ((try (conv => whnf)); repeat ((first | refine And.intro ?_ True.intro | refine And.intro ⟨by omega, by omega⟩ ?_ | refine ⟨_, (by assumption : RO.c _ _ _ = _), ?_⟩ | refine ⟨_, _, _, (by assumption : (_ : Option Obj) = _), ?_⟩ | refine ⟨_, _, _, (by assumption : RO.c _ _ _ = _), ?_⟩ | refine ⟨_, (by assumption : Row _ _ _ _), ?_⟩ | refine ⟨_, (by assumption : Cell _ _ _ _ _), ?_⟩ | refine ⟨_, _, _, (by assumption : Cell _ _ _ _ _), ?_⟩ | refine ⟨_, Or.inl (by assumption), ?_⟩ | refine ⟨_, _, _, Or.inl (by assumption), ?_⟩ | refine And.intro (ints_one _) ?_ | refine And.intro (by omega) ?_ | refine d1 ?_ | refine d2 ?_ | refine d3 ?_ | refine d4 ?_ | refine go G241 400 hC (by kernel_rfl) ?_); (conv => whnf)))
  intro b1 f1 f2 f3
  ((try (conv => whnf)); repeat ((first | refine And.intro ?_ True.intro | refine And.intro ⟨by omega, by omega⟩ ?_ | refine ⟨_, (by assumption : RO.c _ _ _ = _), ?_⟩ | refine ⟨_, _, _, (by assumption : (_ : Option Obj) = _), ?_⟩ | refine ⟨_, _, _, (by assumption : RO.c _ _ _ = _), ?_⟩ | refine ⟨_, (by assumption : Row _ _ _ _), ?_⟩ | refine ⟨_, (by assumption : Cell _ _ _ _ _), ?_⟩ | refine ⟨_, _, _, (by assumption : Cell _ _ _ _ _), ?_⟩ | refine ⟨_, Or.inl (by assumption), ?_⟩ | refine ⟨_, _, _, Or.inl (by assumption), ?_⟩ | refine And.intro (ints_one _) ?_ | refine And.intro (by omega) ?_ | refine d1 ?_ | refine d2 ?_ | refine d3 ?_ | refine d4 ?_ | refine go G241 400 hC (by kernel_rfl) ?_); (conv => whnf)))
  intro b2 g1 g2 g3
  ((try (conv => whnf)); repeat ((first | refine And.intro ?_ True.intro | refine And.intro ⟨by omega, by omega⟩ ?_ | refine ⟨_, (by assumption : RO.c _ _ _ = _), ?_⟩ | refine ⟨_, _, _, (by assumption : (_ : Option Obj) = _), ?_⟩ | refine ⟨_, _, _, (by assumption : RO.c _ _ _ = _), ?_⟩ | refine ⟨_, (by assumption : Row _ _ _ _), ?_⟩ | refine ⟨_, (by assumption : Cell _ _ _ _ _), ?_⟩ | refine ⟨_, _, _, (by assumption : Cell _ _ _ _ _), ?_⟩ | refine ⟨_, Or.inl (by assumption), ?_⟩ | refine ⟨_, _, _, Or.inl (by assumption), ?_⟩ | refine And.intro (ints_one _) ?_ | refine And.intro (by omega) ?_ | refine d1 ?_ | refine d2 ?_ | refine d3 ?_ | refine d4 ?_ | refine go G241 400 hC (by kernel_rfl) ?_); (conv => whnf)))
  intro b3 h2 hle2 hp2
  replace ha := ha.mono hle2
  replace hb := hb.mono hle2
  replace hc := hc.mono hle2
  have n12 : b2 ≠ b1 := fun e => by subst e; simp [Hp.set] at g1
  have f1' : m b2 = none := by simpa [Hp.set, n12] using g1
  ((try (conv => whnf)); repeat ((first | refine And.intro ?_ True.intro | refine And.intro ⟨by omega, by omega⟩ ?_ | refine ⟨_, (by assumption : RO.c _ _ _ = _), ?_⟩ | refine ⟨_, _, _, (by assumption : (_ : Option Obj) = _), ?_⟩ | refine ⟨_, _, _, (by assumption : RO.c _ _ _ = _), ?_⟩ | refine ⟨_, (by assumption : Row _ _ _ _), ?_⟩ | refine ⟨_, (by assumption : Cell _ _ _ _ _), ?_⟩ | refine ⟨_, _, _, (by assumption : Cell _ _ _ _ _), ?_⟩ | refine ⟨_, Or.inl (by assumption), ?_⟩ | refine ⟨_, _, _, Or.inl (by assumption), ?_⟩ | refine And.intro (ints_one _) ?_ | refine And.intro (by omega) ?_ | refine d1 ?_ | refine d2 ?_ | refine d3 ?_ | refine d4 ?_ | refine go G241 400 hC (by kernel_rfl) ?_); (conv => whnf)))
  refine halt (sx_loopB (X := Nat) [1, 3, 4, 15, 16] [1, 3] (fun i => [(17, .v (.int .i64 i))]) (fun _ => [])
    (fun i h' m' => i ≤ univ.length ∧ h' = h2 ∧ m.sub m' ∧ MapM m' b1 (memI (univ.take i)) ∧ MapM m' b2 (memI (univ.take i))) (fun i => univ.length - i) 0 (by repeat (first | exact Keep.nil | apply Keep.cons rfl | apply Keep.skip rfl)) (by repeat (first | exact KeepB.nil | apply KeepB.cons rfl)) ⟨[(1, 1), (3, 3)], ⟨by simp [sinj], by repeat (first | exact trivial | refine ⟨rfl, ?_⟩ | refine ⟨⟨rfl, rfl⟩, ?_⟩ | refine ⟨⟨rfl, rfl, rfl⟩, ?_⟩ | refine ⟨stepI (by omega), ?_⟩ | refine ⟨by assumption, ?_⟩), by repeat (first | exact trivial | refine ⟨rfl, ?_⟩ | refine ⟨⟨rfl, rfl, rfl⟩, ?_⟩ | refine ⟨by assumption, ?_⟩)⟩⟩
    ⟨by omega, rfl, ((Hp.sub.refl m).fresh f1 _).fresh (by simpa [Hp.set, n12] using f1') _, ?_, ?_⟩ ?_)
  · rw [List.take_zero, memI_nil]; exact (MapM.new m b1).other n12.symm _
  · rw [List.take_zero, memI_nil]; exact MapM.new _ b2
  rintro i h2 m0 - ⟨hi, rfl, hs, hm1, hm2⟩
  ((try (conv => whnf)); repeat ((first | refine And.intro ?_ True.intro | refine And.intro ⟨by omega, by omega⟩ ?_ | refine ⟨_, (by assumption : RO.c _ _ _ = _), ?_⟩ | refine ⟨_, _, _, (by assumption : (_ : Option Obj) = _), ?_⟩ | refine ⟨_, _, _, (by assumption : RO.c _ _ _ = _), ?_⟩ | refine ⟨_, (by assumption : Row _ _ _ _), ?_⟩ | refine ⟨_, (by assumption : Cell _ _ _ _ _), ?_⟩ | refine ⟨_, _, _, (by assumption : Cell _ _ _ _ _), ?_⟩ | refine ⟨_, Or.inl (by assumption), ?_⟩ | refine ⟨_, _, _, Or.inl (by assumption), ?_⟩ | refine And.intro (ints_one _) ?_ | refine And.intro (by omega) ?_ | refine d1 ?_ | refine d2 ?_ | refine d3 ?_ | refine d4 ?_ | refine go G241 400 hC (by kernel_rfl) ?_); (conv => whnf)))
  refine ⟨fun hlt => ?_, fun hge => ?_⟩
  · have hlt : i < univ.length := by simpa using hlt
    obtain ⟨p, q, rfl, hcc⟩ := ha.get hlt
    have c1 := hcc i hlt
    have hsn := memI_snoc (univ.take i) (g univ i)
    have htk : univ.take i ++ [g univ i] = univ.take (i + 1) := by rw [List.take_add_one, g_get hlt]; rfl
    rw [htk] at hsn
    ((try (conv => whnf)); repeat ((first | refine And.intro ?_ True.intro | refine And.intro ⟨by omega, by omega⟩ ?_ | refine ⟨_, (by assumption : RO.c _ _ _ = _), ?_⟩ | refine ⟨_, _, _, (by assumption : (_ : Option Obj) = _), ?_⟩ | refine ⟨_, _, _, (by assumption : RO.c _ _ _ = _), ?_⟩ | refine ⟨_, (by assumption : Row _ _ _ _), ?_⟩ | refine ⟨_, (by assumption : Cell _ _ _ _ _), ?_⟩ | refine ⟨_, _, _, (by assumption : Cell _ _ _ _ _), ?_⟩ | refine ⟨_, Or.inl (by assumption), ?_⟩ | refine ⟨_, _, _, Or.inl (by assumption), ?_⟩ | refine And.intro (ints_one _) ?_ | refine And.intro (by omega) ?_ | refine d1 ?_ | refine d2 ?_ | refine d3 ?_ | refine d4 ?_ | refine go G241 400 hC (by kernel_rfl) ?_); (conv => whnf)))
    obtain ⟨es, ck, F, e1, hr1, hF1⟩ := hm1
    refine ⟨es, ck, _, F, ⟨e1, keyInt, hr1, isIK _⟩, fun es' ck' hr' => ?_⟩
    have hm1 := MapM.ins (m := m0) (b := b1) (clock := ck') hF1 hr'
    replace hm2 := hm2.other n12 (.map es' ck')
    rw [hsn] at hm1
    ((try (conv => whnf)); repeat ((first | refine And.intro ?_ True.intro | refine And.intro ⟨by omega, by omega⟩ ?_ | refine ⟨_, (by assumption : RO.c _ _ _ = _), ?_⟩ | refine ⟨_, _, _, (by assumption : (_ : Option Obj) = _), ?_⟩ | refine ⟨_, _, _, (by assumption : RO.c _ _ _ = _), ?_⟩ | refine ⟨_, (by assumption : Row _ _ _ _), ?_⟩ | refine ⟨_, (by assumption : Cell _ _ _ _ _), ?_⟩ | refine ⟨_, _, _, (by assumption : Cell _ _ _ _ _), ?_⟩ | refine ⟨_, Or.inl (by assumption), ?_⟩ | refine ⟨_, _, _, Or.inl (by assumption), ?_⟩ | refine And.intro (ints_one _) ?_ | refine And.intro (by omega) ?_ | refine d1 ?_ | refine d2 ?_ | refine d3 ?_ | refine d4 ?_ | refine go G241 400 hC (by kernel_rfl) ?_); (conv => whnf)))
    obtain ⟨es2, ck2, F2, e2, hr2, hF2⟩ := hm2
    refine ⟨es2, ck2, _, F2, ⟨e2, keyInt, hr2, isIK _⟩, fun es3 ck3 hr3 => ?_⟩
    have hm2 := MapM.ins (m := m0.set b1 (.map es' ck')) (b := b2) (clock := ck3) hF2 hr3
    replace hm1 := hm1.other n12.symm (.map es3 ck3)
    rw [hsn] at hm2
    ((try (conv => whnf)); repeat ((first | refine And.intro ?_ True.intro | refine And.intro ⟨by omega, by omega⟩ ?_ | refine ⟨_, (by assumption : RO.c _ _ _ = _), ?_⟩ | refine ⟨_, _, _, (by assumption : (_ : Option Obj) = _), ?_⟩ | refine ⟨_, _, _, (by assumption : RO.c _ _ _ = _), ?_⟩ | refine ⟨_, (by assumption : Row _ _ _ _), ?_⟩ | refine ⟨_, (by assumption : Cell _ _ _ _ _), ?_⟩ | refine ⟨_, _, _, (by assumption : Cell _ _ _ _ _), ?_⟩ | refine ⟨_, Or.inl (by assumption), ?_⟩ | refine ⟨_, _, _, Or.inl (by assumption), ?_⟩ | refine And.intro (ints_one _) ?_ | refine And.intro (by omega) ?_ | refine d1 ?_ | refine d2 ?_ | refine d3 ?_ | refine d4 ?_ | refine go G241 400 hC (by kernel_rfl) ?_); (conv => whnf)))
    exact halt ⟨i + 1, [(1, 1), (3, 3)], ⟨by simp [sinj], by repeat (first | exact trivial | refine ⟨rfl, ?_⟩ | refine ⟨⟨rfl, rfl⟩, ?_⟩ | refine ⟨⟨rfl, rfl, rfl⟩, ?_⟩ | refine ⟨stepI (by omega), ?_⟩ | refine ⟨by assumption, ?_⟩), by repeat (first | exact trivial | refine ⟨rfl, ?_⟩ | refine ⟨⟨rfl, rfl, rfl⟩, ?_⟩ | refine ⟨by assumption, ?_⟩)⟩, RO.le.refl _, ⟨hlt, rfl, (hs.fresh f1 _).fresh f1' _, hm1, hm2⟩, by omega⟩
  have hge : i = univ.length := by simp at hge; omega
  subst hge
  rw [List.take_length] at hm1 hm2
  ((try (conv => whnf)); repeat ((first | refine And.intro ?_ True.intro | refine And.intro ⟨by omega, by omega⟩ ?_ | refine ⟨_, (by assumption : RO.c _ _ _ = _), ?_⟩ | refine ⟨_, _, _, (by assumption : (_ : Option Obj) = _), ?_⟩ | refine ⟨_, _, _, (by assumption : RO.c _ _ _ = _), ?_⟩ | refine ⟨_, (by assumption : Row _ _ _ _), ?_⟩ | refine ⟨_, (by assumption : Cell _ _ _ _ _), ?_⟩ | refine ⟨_, _, _, (by assumption : Cell _ _ _ _ _), ?_⟩ | refine ⟨_, Or.inl (by assumption), ?_⟩ | refine ⟨_, _, _, Or.inl (by assumption), ?_⟩ | refine And.intro (ints_one _) ?_ | refine And.intro (by omega) ?_ | refine d1 ?_ | refine d2 ?_ | refine d3 ?_ | refine d4 ?_ | refine go G241 400 hC (by kernel_rfl) ?_); (conv => whnf)))
  refine halt (sx_loopB (X := Nat × Value) [1, 3, 4, 27, 28] [1, 3] (fun i => [(29, .v (.int .i64 i.1)), (7, .own 7 i.2)]) (fun i => [(7, .row i.2 3 1 i.1 (ints ((ex.take i.1).map (·.1))))])
    (fun i h' m' => i.1 ≤ ex.length ∧ h2.le h' ∧ m' = m0 ∧ (∃ a c, i.2 = .slice a i.1 c ∧ Row h' 1 i.2 (ints ((ex.take i.1).map (·.1)))) ∧ ∀ j, j < i.1 → pokX univ ex j = true) (fun i => ex.length - i.1) (0, .slice none 0 0) (by repeat (first | exact Keep.nil | apply Keep.cons rfl | apply Keep.skip rfl)) (by repeat (first | exact KeepB.nil | apply KeepB.cons rfl)) ⟨[(1, 1), (3, 3)], ⟨by simp [sinj], by repeat (first | exact trivial | refine ⟨rfl, ?_⟩ | refine ⟨⟨rfl, rfl⟩, ?_⟩ | refine ⟨⟨rfl, rfl, rfl⟩, ?_⟩ | refine ⟨stepI (by omega), ?_⟩ | refine ⟨by assumption, ?_⟩), by repeat (first | exact trivial | refine ⟨rfl, ?_⟩ | refine ⟨⟨rfl, rfl, rfl⟩, ?_⟩ | refine ⟨by assumption, ?_⟩)⟩⟩
    ⟨by simp, RO.le.refl _, rfl, ⟨none, 0, rfl, ⟨none, 0, 0, rfl, rfl, Nat.le_refl _, .inl ⟨rfl, rfl⟩⟩⟩, by simp⟩ ?_)
  rintro ⟨i, s⟩ h3 m1 - ⟨hi, hle3, rfl, ⟨a1, k1, es1, hrow⟩, hn⟩
  dsimp only at hi es1 hrow hn ⊢
  subst es1
  have hcl : Cell h3 m1 b3 0 (.map (some b1)) := .inl (hle3.c _ _ _ (hp2 0 _ rfl))
  ((try (conv => whnf)); repeat ((first | refine And.intro ?_ True.intro | refine And.intro ⟨by omega, by omega⟩ ?_ | refine ⟨_, (by assumption : RO.c _ _ _ = _), ?_⟩ | refine ⟨_, _, _, (by assumption : (_ : Option Obj) = _), ?_⟩ | refine ⟨_, _, _, (by assumption : RO.c _ _ _ = _), ?_⟩ | refine ⟨_, (by assumption : Row _ _ _ _), ?_⟩ | refine ⟨_, (by assumption : Cell _ _ _ _ _), ?_⟩ | refine ⟨_, _, _, (by assumption : Cell _ _ _ _ _), ?_⟩ | refine ⟨_, Or.inl (by assumption), ?_⟩ | refine ⟨_, _, _, Or.inl (by assumption), ?_⟩ | refine And.intro (ints_one _) ?_ | refine And.intro (by omega) ?_ | refine d1 ?_ | refine d2 ?_ | refine d3 ?_ | refine d4 ?_ | refine go G241 400 hC (by kernel_rfl) ?_); (conv => whnf)))
  refine ⟨fun hlt => ?_, fun hge => ?_⟩
  · have hlt : i < ex.length := by simpa using hlt
    obtain ⟨p, q, rfl, hcc⟩ := (hb.mono hle3).get hlt
    obtain ⟨c1, a', c', c2, hi1⟩ := hcc i hlt
    have hbad : pokX univ ex i = false → Ending.returned (.bool false) = Ending.returned (.bool (pMay univ ex cls)) := fun hb => by rw [pMay, allN_false hlt hb, Bool.false_and]
    ((try (conv => whnf)); repeat ((first | refine And.intro ?_ True.intro | refine And.intro ⟨by omega, by omega⟩ ?_ | refine ⟨_, (by assumption : RO.c _ _ _ = _), ?_⟩ | refine ⟨_, _, _, (by assumption : (_ : Option Obj) = _), ?_⟩ | refine ⟨_, _, _, (by assumption : RO.c _ _ _ = _), ?_⟩ | refine ⟨_, (by assumption : Row _ _ _ _), ?_⟩ | refine ⟨_, (by assumption : Cell _ _ _ _ _), ?_⟩ | refine ⟨_, _, _, (by assumption : Cell _ _ _ _ _), ?_⟩ | refine ⟨_, Or.inl (by assumption), ?_⟩ | refine ⟨_, _, _, Or.inl (by assumption), ?_⟩ | refine And.intro (ints_one _) ?_ | refine And.intro (by omega) ?_ | refine d1 ?_ | refine d2 ?_ | refine d3 ?_ | refine d4 ?_ | refine go G241 400 hC (by kernel_rfl) ?_); (conv => whnf)))
    intro b4 h4 hle4 hp4
    ((try (conv => whnf)); repeat ((first | refine And.intro ?_ True.intro | refine And.intro ⟨by omega, by omega⟩ ?_ | refine ⟨_, (by assumption : RO.c _ _ _ = _), ?_⟩ | refine ⟨_, _, _, (by assumption : (_ : Option Obj) = _), ?_⟩ | refine ⟨_, _, _, (by assumption : RO.c _ _ _ = _), ?_⟩ | refine ⟨_, (by assumption : Row _ _ _ _), ?_⟩ | refine ⟨_, (by assumption : Cell _ _ _ _ _), ?_⟩ | refine ⟨_, _, _, (by assumption : Cell _ _ _ _ _), ?_⟩ | refine ⟨_, Or.inl (by assumption), ?_⟩ | refine ⟨_, _, _, Or.inl (by assumption), ?_⟩ | refine And.intro (ints_one _) ?_ | refine And.intro (by omega) ?_ | refine d1 ?_ | refine d2 ?_ | refine d3 ?_ | refine d4 ?_ | refine go G241 400 hC (by kernel_rfl) ?_); (conv => whnf)))
    obtain ⟨es, ck, F, e1, hr1, hF1⟩ := hm2
    refine ⟨es, ck, _, F, ⟨.inl e1, keyInt, hr1, isIK _⟩, ?_⟩
    erw [hF1 (gd ex i).1]
    cases hcx : memI univ (gd ex i).1 with
    | true =>
      ((try (conv => whnf)); repeat ((first | refine And.intro ?_ True.intro | refine And.intro ⟨by omega, by omega⟩ ?_ | refine ⟨_, (by assumption : RO.c _ _ _ = _), ?_⟩ | refine ⟨_, _, _, (by assumption : (_ : Option Obj) = _), ?_⟩ | refine ⟨_, _, _, (by assumption : RO.c _ _ _ = _), ?_⟩ | refine ⟨_, (by assumption : Row _ _ _ _), ?_⟩ | refine ⟨_, (by assumption : Cell _ _ _ _ _), ?_⟩ | refine ⟨_, _, _, (by assumption : Cell _ _ _ _ _), ?_⟩ | refine ⟨_, Or.inl (by assumption), ?_⟩ | refine ⟨_, _, _, Or.inl (by assumption), ?_⟩ | refine And.intro (ints_one _) ?_ | refine And.intro (by omega) ?_ | refine d1 ?_ | refine d2 ?_ | refine d3 ?_ | refine d4 ?_ | refine go G241 400 hC (by kernel_rfl) ?_); (conv => whnf)))
      exact ⟨_, hs, hbad (by simp only [memI] at hcx; simp only [pokX, hcx]; rfl), rfl⟩
    | false =>
      ((try (conv => whnf)); repeat ((first | refine And.intro ?_ True.intro | refine And.intro ⟨by omega, by omega⟩ ?_ | refine ⟨_, (by assumption : RO.c _ _ _ = _), ?_⟩ | refine ⟨_, _, _, (by assumption : (_ : Option Obj) = _), ?_⟩ | refine ⟨_, _, _, (by assumption : RO.c _ _ _ = _), ?_⟩ | refine ⟨_, (by assumption : Row _ _ _ _), ?_⟩ | refine ⟨_, (by assumption : Cell _ _ _ _ _), ?_⟩ | refine ⟨_, _, _, (by assumption : Cell _ _ _ _ _), ?_⟩ | refine ⟨_, Or.inl (by assumption), ?_⟩ | refine ⟨_, _, _, Or.inl (by assumption), ?_⟩ | refine And.intro (ints_one _) ?_ | refine And.intro (by omega) ?_ | refine d1 ?_ | refine d2 ?_ | refine d3 ?_ | refine d4 ?_ | refine go G241 400 hC (by kernel_rfl) ?_); (conv => whnf)))
      (refine Con.mono (prises_spec (hi1.mono hle4)) ?_; rintro _ _ _ - ⟨rfl, rfl, rfl⟩; ((try (conv => whnf)); repeat ((first | refine And.intro ?_ True.intro | refine And.intro ⟨by omega, by omega⟩ ?_ | refine ⟨_, (by assumption : RO.c _ _ _ = _), ?_⟩ | refine ⟨_, _, _, (by assumption : (_ : Option Obj) = _), ?_⟩ | refine ⟨_, _, _, (by assumption : RO.c _ _ _ = _), ?_⟩ | refine ⟨_, (by assumption : Row _ _ _ _), ?_⟩ | refine ⟨_, (by assumption : Cell _ _ _ _ _), ?_⟩ | refine ⟨_, _, _, (by assumption : Cell _ _ _ _ _), ?_⟩ | refine ⟨_, Or.inl (by assumption), ?_⟩ | refine ⟨_, _, _, Or.inl (by assumption), ?_⟩ | refine And.intro (ints_one _) ?_ | refine And.intro (by omega) ?_ | refine d1 ?_ | refine d2 ?_ | refine d3 ?_ | refine d4 ?_ | refine go G241 400 hC (by kernel_rfl) ?_); (conv => whnf))))
      refine ⟨fun hq => ?_, fun hq => ?_⟩
      · ((try (conv => whnf)); repeat ((first | refine And.intro ?_ True.intro | refine And.intro ⟨by omega, by omega⟩ ?_ | refine ⟨_, (by assumption : RO.c _ _ _ = _), ?_⟩ | refine ⟨_, _, _, (by assumption : (_ : Option Obj) = _), ?_⟩ | refine ⟨_, _, _, (by assumption : RO.c _ _ _ = _), ?_⟩ | refine ⟨_, (by assumption : Row _ _ _ _), ?_⟩ | refine ⟨_, (by assumption : Cell _ _ _ _ _), ?_⟩ | refine ⟨_, _, _, (by assumption : Cell _ _ _ _ _), ?_⟩ | refine ⟨_, Or.inl (by assumption), ?_⟩ | refine ⟨_, _, _, Or.inl (by assumption), ?_⟩ | refine And.intro (ints_one _) ?_ | refine And.intro (by omega) ?_ | refine d1 ?_ | refine d2 ?_ | refine d3 ?_ | refine d4 ?_ | refine go G241 400 hC (by kernel_rfl) ?_); (conv => whnf)))
        refine Con.mono (containsFunc (hi1.mono hle4) (fun x => mayD1 (x := x) (.inl (hle4.c _ _ _ (hle3.c _ _ _ (hp2 0 _ rfl)))) hm1.ib)) ?_
        rintro _ h4 m1 - ⟨rfl, rfl, rfl⟩
        have hle4' := hle4
        ((try (conv => whnf)); repeat ((first | refine And.intro ?_ True.intro | refine And.intro ⟨by omega, by omega⟩ ?_ | refine ⟨_, (by assumption : RO.c _ _ _ = _), ?_⟩ | refine ⟨_, _, _, (by assumption : (_ : Option Obj) = _), ?_⟩ | refine ⟨_, _, _, (by assumption : RO.c _ _ _ = _), ?_⟩ | refine ⟨_, (by assumption : Row _ _ _ _), ?_⟩ | refine ⟨_, (by assumption : Cell _ _ _ _ _), ?_⟩ | refine ⟨_, _, _, (by assumption : Cell _ _ _ _ _), ?_⟩ | refine ⟨_, Or.inl (by assumption), ?_⟩ | refine ⟨_, _, _, Or.inl (by assumption), ?_⟩ | refine And.intro (ints_one _) ?_ | refine And.intro (by omega) ?_ | refine d1 ?_ | refine d2 ?_ | refine d3 ?_ | refine d4 ?_ | refine go G241 400 hC (by kernel_rfl) ?_); (conv => whnf)))
        refine ⟨fun hq2 => ?_, fun hq2 => ?_⟩
        · ((try (conv => whnf)); repeat ((first | refine And.intro ?_ True.intro | refine And.intro ⟨by omega, by omega⟩ ?_ | refine ⟨_, (by assumption : RO.c _ _ _ = _), ?_⟩ | refine ⟨_, _, _, (by assumption : (_ : Option Obj) = _), ?_⟩ | refine ⟨_, _, _, (by assumption : RO.c _ _ _ = _), ?_⟩ | refine ⟨_, (by assumption : Row _ _ _ _), ?_⟩ | refine ⟨_, (by assumption : Cell _ _ _ _ _), ?_⟩ | refine ⟨_, _, _, (by assumption : Cell _ _ _ _ _), ?_⟩ | refine ⟨_, Or.inl (by assumption), ?_⟩ | refine ⟨_, _, _, Or.inl (by assumption), ?_⟩ | refine And.intro (ints_one _) ?_ | refine And.intro (by omega) ?_ | refine d1 ?_ | refine d2 ?_ | refine d3 ?_ | refine d4 ?_ | refine go G241 400 hC (by kernel_rfl) ?_); (conv => whnf)))
          exact ⟨_, hs, hbad (by rw [pokX]; show (_ && (_ && !((gd ex i).2.any fun v => !memI univ v))) = false; rw [hq2]; simp), rfl⟩
        · ((try (conv => whnf)); repeat ((first | refine And.intro ?_ True.intro | refine And.intro ⟨by omega, by omega⟩ ?_ | refine ⟨_, (by assumption : RO.c _ _ _ = _), ?_⟩ | refine ⟨_, _, _, (by assumption : (_ : Option Obj) = _), ?_⟩ | refine ⟨_, _, _, (by assumption : RO.c _ _ _ = _), ?_⟩ | refine ⟨_, (by assumption : Row _ _ _ _), ?_⟩ | refine ⟨_, (by assumption : Cell _ _ _ _ _), ?_⟩ | refine ⟨_, _, _, (by assumption : Cell _ _ _ _ _), ?_⟩ | refine ⟨_, Or.inl (by assumption), ?_⟩ | refine ⟨_, _, _, Or.inl (by assumption), ?_⟩ | refine And.intro (ints_one _) ?_ | refine And.intro (by omega) ?_ | refine d1 ?_ | refine d2 ?_ | refine d3 ?_ | refine d4 ?_ | refine go G241 400 hC (by kernel_rfl) ?_); (conv => whnf)))
          have hok : pokX univ ex i = true := by
            have hq' : rises (gd ex i).2 = true := by simpa using hq
            rw [pokX]
            show (!memI univ (gd ex i).1 && (_ && !((gd ex i).2.any fun v => !memI univ v))) = true
            rw [hcx, hq', hq2]; rfl
          refine ⟨rfl, by show (i + 1) * 8 ≤ 140737488355328; omega, fun a3 c3 h5 hle5 hrow5 => ?_⟩
          have hin : ints ((ex.take i).map (·.1)) ++ [.int .i64 (gd ex i).1] = ints ((ex.take (i + 1)).map (·.1)) := by rw [List.take_add_one, gd_get hlt]; simp [ints]
          change Row h5 1 (.slice a3 (i + 1) c3) (ints ((ex.take i).map (·.1)) ++ [.int .i64 (gd ex i).1]) at hrow5
          rw [hin] at hrow5
          ((try (conv => whnf)); repeat ((first | refine And.intro ?_ True.intro | refine And.intro ⟨by omega, by omega⟩ ?_ | refine ⟨_, (by assumption : RO.c _ _ _ = _), ?_⟩ | refine ⟨_, _, _, (by assumption : (_ : Option Obj) = _), ?_⟩ | refine ⟨_, _, _, (by assumption : RO.c _ _ _ = _), ?_⟩ | refine ⟨_, (by assumption : Row _ _ _ _), ?_⟩ | refine ⟨_, (by assumption : Cell _ _ _ _ _), ?_⟩ | refine ⟨_, _, _, (by assumption : Cell _ _ _ _ _), ?_⟩ | refine ⟨_, Or.inl (by assumption), ?_⟩ | refine ⟨_, _, _, Or.inl (by assumption), ?_⟩ | refine And.intro (ints_one _) ?_ | refine And.intro (by omega) ?_ | refine d1 ?_ | refine d2 ?_ | refine d3 ?_ | refine d4 ?_ | refine go G241 400 hC (by kernel_rfl) ?_); (conv => whnf)))
          refine halt ⟨(i + 1, .slice a3 (i + 1) c3), [(1, 1), (3, 3), (7, 53)], ⟨by simp [sinj], ⟨stepI (by omega), ⟨rfl, rfl⟩, ⟨rfl, rfl⟩, ⟨rfl, rfl⟩, rfl, rfl, rfl, trivial⟩, ?_, rfl, rfl, trivial⟩, hle4'.trans hle5, ⟨hlt, (hle3.trans hle4').trans hle5, rfl, ⟨a3, c3, rfl, hrow5⟩, allS hn hok⟩, by dsimp only; omega⟩
          show some (BS.row _ _ _ (i + 1) (ints ((ex.take i).map (·.1)) ++ [.int .i64 (gd ex i).1])) = _
          rw [hin]; rfl
      · ((try (conv => whnf)); repeat ((first | refine And.intro ?_ True.intro | refine And.intro ⟨by omega, by omega⟩ ?_ | refine ⟨_, (by assumption : RO.c _ _ _ = _), ?_⟩ | refine ⟨_, _, _, (by assumption : (_ : Option Obj) = _), ?_⟩ | refine ⟨_, _, _, (by assumption : RO.c _ _ _ = _), ?_⟩ | refine ⟨_, (by assumption : Row _ _ _ _), ?_⟩ | refine ⟨_, (by assumption : Cell _ _ _ _ _), ?_⟩ | refine ⟨_, _, _, (by assumption : Cell _ _ _ _ _), ?_⟩ | refine ⟨_, Or.inl (by assumption), ?_⟩ | refine ⟨_, _, _, Or.inl (by assumption), ?_⟩ | refine And.intro (ints_one _) ?_ | refine And.intro (by omega) ?_ | refine d1 ?_ | refine d2 ?_ | refine d3 ?_ | refine d4 ?_ | refine go G241 400 hC (by kernel_rfl) ?_); (conv => whnf)))
        exact ⟨_, hs, hbad (by simp at hq; simp [pokX, hq]), rfl⟩
  have hge : i = ex.length := by simp at hge; omega
  subst hge
  rw [List.take_length] at hrow
  ((try (conv => whnf)); repeat ((first | refine And.intro ?_ True.intro | refine And.intro ⟨by omega, by omega⟩ ?_ | refine ⟨_, (by assumption : RO.c _ _ _ = _), ?_⟩ | refine ⟨_, _, _, (by assumption : (_ : Option Obj) = _), ?_⟩ | refine ⟨_, _, _, (by assumption : RO.c _ _ _ = _), ?_⟩ | refine ⟨_, (by assumption : Row _ _ _ _), ?_⟩ | refine ⟨_, (by assumption : Cell _ _ _ _ _), ?_⟩ | refine ⟨_, _, _, (by assumption : Cell _ _ _ _ _), ?_⟩ | refine ⟨_, Or.inl (by assumption), ?_⟩ | refine ⟨_, _, _, Or.inl (by assumption), ?_⟩ | refine And.intro (ints_one _) ?_ | refine And.intro (by omega) ?_ | refine d1 ?_ | refine d2 ?_ | refine d3 ?_ | refine d4 ?_ | refine go G241 400 hC (by kernel_rfl) ?_); (conv => whnf)))
  have hex : IntS h3 (.slice a1 ex.length k1) (ex.map (·.1)) := ⟨⟨a1, k1, by simp, by simpa using hrow⟩, by simpa using hlb, fun z hz => by obtain ⟨y, hy, rfl⟩ := List.mem_map.1 hz; exact hb.rng y hy⟩
  refine halt (sx_loopB (X := Nat) [1, 4, 56] [1, 3] (fun i => [(57, .v (.int .i64 i)), (7, .v (.slice a1 ex.length k1)), (55, .v (.slice a1 ex.length k1))]) (fun _ => [])
    (fun i h' m' => i ≤ ex.length ∧ h' = h3 ∧ m.sub m' ∧ MapM m' b2 (memI (univ ++ (ex.map (·.1)).take i))) (fun i => ex.length - i) 0 (by repeat (first | exact Keep.nil | apply Keep.cons rfl | apply Keep.skip rfl)) (by repeat (first | exact KeepB.nil | apply KeepB.cons rfl)) ⟨[(1, 1), (3, 3)], ⟨by simp [sinj], by repeat (first | exact trivial | refine ⟨rfl, ?_⟩ | refine ⟨⟨rfl, rfl⟩, ?_⟩ | refine ⟨⟨rfl, rfl, rfl⟩, ?_⟩ | refine ⟨stepI (by omega), ?_⟩ | refine ⟨by assumption, ?_⟩), by repeat (first | exact trivial | refine ⟨rfl, ?_⟩ | refine ⟨⟨rfl, rfl, rfl⟩, ?_⟩ | refine ⟨by assumption, ?_⟩)⟩⟩
    ⟨by omega, rfl, hs, by simpa using hm2⟩ ?_)
  rintro i h3 m2 - ⟨hi, rfl, hs, hm2⟩
  ((try (conv => whnf)); repeat ((first | refine And.intro ?_ True.intro | refine And.intro ⟨by omega, by omega⟩ ?_ | refine ⟨_, (by assumption : RO.c _ _ _ = _), ?_⟩ | refine ⟨_, _, _, (by assumption : (_ : Option Obj) = _), ?_⟩ | refine ⟨_, _, _, (by assumption : RO.c _ _ _ = _), ?_⟩ | refine ⟨_, (by assumption : Row _ _ _ _), ?_⟩ | refine ⟨_, (by assumption : Cell _ _ _ _ _), ?_⟩ | refine ⟨_, _, _, (by assumption : Cell _ _ _ _ _), ?_⟩ | refine ⟨_, Or.inl (by assumption), ?_⟩ | refine ⟨_, _, _, Or.inl (by assumption), ?_⟩ | refine And.intro (ints_one _) ?_ | refine And.intro (by omega) ?_ | refine d1 ?_ | refine d2 ?_ | refine d3 ?_ | refine d4 ?_ | refine go G241 400 hC (by kernel_rfl) ?_); (conv => whnf)))
  refine ⟨fun hlt => ?_, fun hge => ?_⟩
  · have hlt : i < ex.length := by simpa using hlt
    obtain ⟨p, q, rfl, hcc⟩ := hex.get (i := i) (by simpa using hlt)
    have c1 := hcc i (by simpa using hlt)
    have hsn := memI_snoc (univ ++ (ex.map (·.1)).take i) (g (ex.map (·.1)) i)
    have htk : univ ++ (ex.map (·.1)).take i ++ [g (ex.map (·.1)) i] = univ ++ (ex.map (·.1)).take (i + 1) := by rw [List.take_add_one, g_get (by simpa using hlt), List.append_assoc]; rfl
    rw [htk] at hsn
    ((try (conv => whnf)); repeat ((first | refine And.intro ?_ True.intro | refine And.intro ⟨by omega, by omega⟩ ?_ | refine ⟨_, (by assumption : RO.c _ _ _ = _), ?_⟩ | refine ⟨_, _, _, (by assumption : (_ : Option Obj) = _), ?_⟩ | refine ⟨_, _, _, (by assumption : RO.c _ _ _ = _), ?_⟩ | refine ⟨_, (by assumption : Row _ _ _ _), ?_⟩ | refine ⟨_, (by assumption : Cell _ _ _ _ _), ?_⟩ | refine ⟨_, _, _, (by assumption : Cell _ _ _ _ _), ?_⟩ | refine ⟨_, Or.inl (by assumption), ?_⟩ | refine ⟨_, _, _, Or.inl (by assumption), ?_⟩ | refine And.intro (ints_one _) ?_ | refine And.intro (by omega) ?_ | refine d1 ?_ | refine d2 ?_ | refine d3 ?_ | refine d4 ?_ | refine go G241 400 hC (by kernel_rfl) ?_); (conv => whnf)))
    obtain ⟨es2, ck2, F2, e2, hr2, hF2⟩ := hm2
    refine ⟨es2, ck2, _, F2, ⟨e2, keyInt, hr2, isIK _⟩, fun es3 ck3 hr3 => ?_⟩
    have hm2 := MapM.ins (m := m2) (b := b2) (clock := ck3) hF2 hr3
    rw [hsn] at hm2
    ((try (conv => whnf)); repeat ((first | refine And.intro ?_ True.intro | refine And.intro ⟨by omega, by omega⟩ ?_ | refine ⟨_, (by assumption : RO.c _ _ _ = _), ?_⟩ | refine ⟨_, _, _, (by assumption : (_ : Option Obj) = _), ?_⟩ | refine ⟨_, _, _, (by assumption : RO.c _ _ _ = _), ?_⟩ | refine ⟨_, (by assumption : Row _ _ _ _), ?_⟩ | refine ⟨_, (by assumption : Cell _ _ _ _ _), ?_⟩ | refine ⟨_, _, _, (by assumption : Cell _ _ _ _ _), ?_⟩ | refine ⟨_, Or.inl (by assumption), ?_⟩ | refine ⟨_, _, _, Or.inl (by assumption), ?_⟩ | refine And.intro (ints_one _) ?_ | refine And.intro (by omega) ?_ | refine d1 ?_ | refine d2 ?_ | refine d3 ?_ | refine d4 ?_ | refine go G241 400 hC (by kernel_rfl) ?_); (conv => whnf)))
    exact halt ⟨i + 1, [(1, 1), (3, 3)], ⟨by simp [sinj], by repeat (first | exact trivial | refine ⟨rfl, ?_⟩ | refine ⟨⟨rfl, rfl⟩, ?_⟩ | refine ⟨⟨rfl, rfl, rfl⟩, ?_⟩ | refine ⟨stepI (by omega), ?_⟩ | refine ⟨by assumption, ?_⟩), by repeat (first | exact trivial | refine ⟨rfl, ?_⟩ | refine ⟨⟨rfl, rfl, rfl⟩, ?_⟩ | refine ⟨by assumption, ?_⟩)⟩, RO.le.refl _, ⟨hlt, rfl, hs.fresh f1' _, hm2⟩, by omega⟩
  have hge : i = ex.length := by simp at hge; omega
  subst hge
  rw [List.take_of_length_le (by simp)] at hm2
  ((try (conv => whnf)); repeat ((first | refine And.intro ?_ True.intro | refine And.intro ⟨by omega, by omega⟩ ?_ | refine ⟨_, (by assumption : RO.c _ _ _ = _), ?_⟩ | refine ⟨_, _, _, (by assumption : (_ : Option Obj) = _), ?_⟩ | refine ⟨_, _, _, (by assumption : RO.c _ _ _ = _), ?_⟩ | refine ⟨_, (by assumption : Row _ _ _ _), ?_⟩ | refine ⟨_, (by assumption : Cell _ _ _ _ _), ?_⟩ | refine ⟨_, _, _, (by assumption : Cell _ _ _ _ _), ?_⟩ | refine ⟨_, Or.inl (by assumption), ?_⟩ | refine ⟨_, _, _, Or.inl (by assumption), ?_⟩ | refine And.intro (ints_one _) ?_ | refine And.intro (by omega) ?_ | refine d1 ?_ | refine d2 ?_ | refine d3 ?_ | refine d4 ?_ | refine go G241 400 hC (by kernel_rfl) ?_); (conv => whnf)))
  have hbody : ∀ r, pMay univ ex cls = r ↔ (rises univ && (rises (ex.map (·.1)) && (decide (((univ.length + ex.length : Nat) : Int) ≤ 1024) && pcnf (memI (univ ++ ex.map (·.1))) cls))) = r := fun r => by
    have : (memI (univ ++ ex.map (·.1))) = fun v => univ.contains v || (ex.map (·.1)).contains v := by funext v; simp only [memI, List.contains_eq_mem, List.mem_append, Bool.decide_or]
    rw [pMay, allN_true hn, Bool.true_and, this]
  have fin : ∀ r, (rises univ && (rises (ex.map (·.1)) && (decide (((univ.length + ex.length : Nat) : Int) ≤ 1024) && pcnf (memI (univ ++ ex.map (·.1))) cls))) = r → Ending.returned (.bool r) = Ending.returned (.bool (pMay univ ex cls)) := fun r hr => by rw [(hbody r).2 hr]
  have hlen : IntKind.i64.wrap ((univ.length : Int) + (ex.length : Int)) = ((univ.length + ex.length : Nat) : Int) := by rw [w64 (by omega) (by omega)]; simp
  (refine Con.mono (prises_spec (ha.mono hle3)) ?_; rintro _ _ _ - ⟨rfl, rfl, rfl⟩; ((try (conv => whnf)); repeat ((first | refine And.intro ?_ True.intro | refine And.intro ⟨by omega, by omega⟩ ?_ | refine ⟨_, (by assumption : RO.c _ _ _ = _), ?_⟩ | refine ⟨_, _, _, (by assumption : (_ : Option Obj) = _), ?_⟩ | refine ⟨_, _, _, (by assumption : RO.c _ _ _ = _), ?_⟩ | refine ⟨_, (by assumption : Row _ _ _ _), ?_⟩ | refine ⟨_, (by assumption : Cell _ _ _ _ _), ?_⟩ | refine ⟨_, _, _, (by assumption : Cell _ _ _ _ _), ?_⟩ | refine ⟨_, Or.inl (by assumption), ?_⟩ | refine ⟨_, _, _, Or.inl (by assumption), ?_⟩ | refine And.intro (ints_one _) ?_ | refine And.intro (by omega) ?_ | refine d1 ?_ | refine d2 ?_ | refine d3 ?_ | refine d4 ?_ | refine go G241 400 hC (by kernel_rfl) ?_); (conv => whnf))))
  refine ⟨fun hq => ?_, fun hq => ?_⟩ <;> ((try (conv => whnf)); repeat ((first | refine And.intro ?_ True.intro | refine And.intro ⟨by omega, by omega⟩ ?_ | refine ⟨_, (by assumption : RO.c _ _ _ = _), ?_⟩ | refine ⟨_, _, _, (by assumption : (_ : Option Obj) = _), ?_⟩ | refine ⟨_, _, _, (by assumption : RO.c _ _ _ = _), ?_⟩ | refine ⟨_, (by assumption : Row _ _ _ _), ?_⟩ | refine ⟨_, (by assumption : Cell _ _ _ _ _), ?_⟩ | refine ⟨_, _, _, (by assumption : Cell _ _ _ _ _), ?_⟩ | refine ⟨_, Or.inl (by assumption), ?_⟩ | refine ⟨_, _, _, Or.inl (by assumption), ?_⟩ | refine And.intro (ints_one _) ?_ | refine And.intro (by omega) ?_ | refine d1 ?_ | refine d2 ?_ | refine d3 ?_ | refine d4 ?_ | refine go G241 400 hC (by kernel_rfl) ?_); (conv => whnf)))
  · (refine Con.mono (prises_spec hex) ?_; rintro _ _ _ - ⟨rfl, rfl, rfl⟩; ((try (conv => whnf)); repeat ((first | refine And.intro ?_ True.intro | refine And.intro ⟨by omega, by omega⟩ ?_ | refine ⟨_, (by assumption : RO.c _ _ _ = _), ?_⟩ | refine ⟨_, _, _, (by assumption : (_ : Option Obj) = _), ?_⟩ | refine ⟨_, _, _, (by assumption : RO.c _ _ _ = _), ?_⟩ | refine ⟨_, (by assumption : Row _ _ _ _), ?_⟩ | refine ⟨_, (by assumption : Cell _ _ _ _ _), ?_⟩ | refine ⟨_, _, _, (by assumption : Cell _ _ _ _ _), ?_⟩ | refine ⟨_, Or.inl (by assumption), ?_⟩ | refine ⟨_, _, _, Or.inl (by assumption), ?_⟩ | refine And.intro (ints_one _) ?_ | refine And.intro (by omega) ?_ | refine d1 ?_ | refine d2 ?_ | refine d3 ?_ | refine d4 ?_ | refine go G241 400 hC (by kernel_rfl) ?_); (conv => whnf))))
    refine ⟨fun hq2 => ?_, fun hq2 => ?_⟩ <;> ((try (conv => whnf)); repeat ((first | refine And.intro ?_ True.intro | refine And.intro ⟨by omega, by omega⟩ ?_ | refine ⟨_, (by assumption : RO.c _ _ _ = _), ?_⟩ | refine ⟨_, _, _, (by assumption : (_ : Option Obj) = _), ?_⟩ | refine ⟨_, _, _, (by assumption : RO.c _ _ _ = _), ?_⟩ | refine ⟨_, (by assumption : Row _ _ _ _), ?_⟩ | refine ⟨_, (by assumption : Cell _ _ _ _ _), ?_⟩ | refine ⟨_, _, _, (by assumption : Cell _ _ _ _ _), ?_⟩ | refine ⟨_, Or.inl (by assumption), ?_⟩ | refine ⟨_, _, _, Or.inl (by assumption), ?_⟩ | refine And.intro (ints_one _) ?_ | refine And.intro (by omega) ?_ | refine d1 ?_ | refine d2 ?_ | refine d3 ?_ | refine d4 ?_ | refine go G241 400 hC (by kernel_rfl) ?_); (conv => whnf)))
    · refine ⟨fun hq3 => ?_, fun hq3 => ?_⟩ <;> ((try (conv => whnf)); repeat ((first | refine And.intro ?_ True.intro | refine And.intro ⟨by omega, by omega⟩ ?_ | refine ⟨_, (by assumption : RO.c _ _ _ = _), ?_⟩ | refine ⟨_, _, _, (by assumption : (_ : Option Obj) = _), ?_⟩ | refine ⟨_, _, _, (by assumption : RO.c _ _ _ = _), ?_⟩ | refine ⟨_, (by assumption : Row _ _ _ _), ?_⟩ | refine ⟨_, (by assumption : Cell _ _ _ _ _), ?_⟩ | refine ⟨_, _, _, (by assumption : Cell _ _ _ _ _), ?_⟩ | refine ⟨_, Or.inl (by assumption), ?_⟩ | refine ⟨_, _, _, Or.inl (by assumption), ?_⟩ | refine And.intro (ints_one _) ?_ | refine And.intro (by omega) ?_ | refine d1 ?_ | refine d2 ?_ | refine d3 ?_ | refine d4 ?_ | refine go G241 400 hC (by kernel_rfl) ?_); (conv => whnf)))
      · refine Con.mono has_spec ?_
        rintro _ h5 m3 hle5 ⟨⟨b5, rfl, hc5⟩, rfl⟩
        ((try (conv => whnf)); repeat ((first | refine And.intro ?_ True.intro | refine And.intro ⟨by omega, by omega⟩ ?_ | refine ⟨_, (by assumption : RO.c _ _ _ = _), ?_⟩ | refine ⟨_, _, _, (by assumption : (_ : Option Obj) = _), ?_⟩ | refine ⟨_, _, _, (by assumption : RO.c _ _ _ = _), ?_⟩ | refine ⟨_, (by assumption : Row _ _ _ _), ?_⟩ | refine ⟨_, (by assumption : Cell _ _ _ _ _), ?_⟩ | refine ⟨_, _, _, (by assumption : Cell _ _ _ _ _), ?_⟩ | refine ⟨_, Or.inl (by assumption), ?_⟩ | refine ⟨_, _, _, Or.inl (by assumption), ?_⟩ | refine And.intro (ints_one _) ?_ | refine And.intro (by omega) ?_ | refine d1 ?_ | refine d2 ?_ | refine d3 ?_ | refine d4 ?_ | refine go G241 400 hC (by kernel_rfl) ?_); (conv => whnf)))
        refine Con.mono (pcnf_spec ((hc.mono hle3).mono hle5) ht fun x => has1_spec (x := x) (.inl hc5) hm2.ib) ?_
        rintro _ h6 m4 hle6 ⟨rfl, rfl, rfl⟩
        ((try (conv => whnf)); repeat ((first | refine And.intro ?_ True.intro | refine And.intro ⟨by omega, by omega⟩ ?_ | refine ⟨_, (by assumption : RO.c _ _ _ = _), ?_⟩ | refine ⟨_, _, _, (by assumption : (_ : Option Obj) = _), ?_⟩ | refine ⟨_, _, _, (by assumption : RO.c _ _ _ = _), ?_⟩ | refine ⟨_, (by assumption : Row _ _ _ _), ?_⟩ | refine ⟨_, (by assumption : Cell _ _ _ _ _), ?_⟩ | refine ⟨_, _, _, (by assumption : Cell _ _ _ _ _), ?_⟩ | refine ⟨_, Or.inl (by assumption), ?_⟩ | refine ⟨_, _, _, Or.inl (by assumption), ?_⟩ | refine And.intro (ints_one _) ?_ | refine And.intro (by omega) ?_ | refine d1 ?_ | refine d2 ?_ | refine d3 ?_ | refine d4 ?_ | refine go G241 400 hC (by kernel_rfl) ?_); (conv => whnf)))
        exact ⟨_, hs, fin _ (by rw [hq, hq2]; rw [hlen] at hq3; rw [hq3]; rfl), rfl⟩
      · exact ⟨_, hs, fin _ (by rw [hq, hq2]; rw [hlen] at hq3; rw [hq3]; rfl), rfl⟩
    · exact ⟨_, hs, fin _ (by rw [hq, hq2]; rfl), rfl⟩
  · exact ⟨_, hs, fin _ (by rw [hq]; rfl), rfl⟩
end Go.Proofs.YtoefoaabnjeofaaGreat
namespace Go.Proofs.YtoefoaabnjeofaaGreat
open Go.SX
set_option maxHeartbeats 1000000

/-! ### texts -/
def Lit16 (l : List Int) : Prop := ∀ x ∈ l, -65536 ≤ x ∧ x ≤ 65536
theorem enc3_inj {x y : Int} (hx : -65536 ≤ x ∧ x ≤ 65536) (hy : -65536 ≤ y ∧ y ≤ 65536) (h : enc3 x = enc3 y) : x = y := by
  have e8 : (2 : Int) ^ (min (Int.toNat 8) IntKind.i64.bits) = 256 := by decide
  have e16 : (2 : Int) ^ (min (Int.toNat 16) IntKind.i64.bits) = 65536 := by decide
  simp only [enc3, e8, e16, IntKind.wrap_u8, Int.fdiv_eq_ediv_of_nonneg _ (show (0 : Int) ≤ 256 by decide), Int.fdiv_eq_ediv_of_nonneg _ (show (0 : Int) ≤ 65536 by decide), List.cons.injEq, and_true] at h
  omega
theorem enc3_u8 (x : Int) : ∀ b ∈ enc3 x, 0 ≤ b ∧ b < 256 := by
  intro b hb
  simp only [enc3, List.mem_cons, List.not_mem_nil, or_false, IntKind.wrap_u8] at hb
  rcases hb with rfl | rfl | rfl <;> omega
theorem encs_inj : ∀ {a b : List Int}, Lit16 a → Lit16 b → encs a = encs b → a = b
  | [], [], _, _, _ => rfl
  | [], y :: b, _, _, h => by have := congrArg List.length h; simp [encs_length] at this
  | x :: a, [], _, _, h => by have := congrArg List.length h; simp [encs_length] at this
  | x :: a, y :: b, ha, hb, h => by
    simp only [encs, List.flatMap_cons] at h
    have h1 := List.append_inj h (by simp [enc3])
    rw [enc3_inj (ha x (by simp)) (hb y (by simp)) h1.1, encs_inj (fun z hz => ha z (by simp [hz])) (fun z hz => hb z (by simp [hz])) h1.2]
theorem u8s_inj {a b : List Int} (ha : ∀ x ∈ a, 0 ≤ x ∧ x < 256) (hb : ∀ x ∈ b, 0 ≤ x ∧ x < 256) (h : u8s a = u8s b) : a = b := by
  have h1 : a.map (fun n => UInt8.ofNat n.toNat) = b.map (fun n => UInt8.ofNat n.toNat) := by
    simp only [u8s, ByteArray.mk.injEq] at h
    simpa using h
  clear h
  induction a generalizing b with
  | nil => cases b <;> simp_all
  | cons x a ih =>
    cases b with
    | nil => simp at h1
    | cons y b =>
      simp only [List.map_cons, List.cons.injEq] at h1
      have e := ha x (by simp)
      have f := hb y (by simp)
      have : x = y := by
        have := congrArg UInt8.toNat h1.1
        simp only [UInt8.toNat_ofNat'] at this
        omega
      rw [this, ih (fun z hz => ha z (by simp [hz])) (fun z hz => hb z (by simp [hz])) h1.2]
def txt (l : List Int) : ByteArray := u8s (encs l)
theorem txt_encs {a b : List Int} : txt a = txt b ↔ encs a = encs b := by
  refine ⟨fun h => u8s_inj ?_ ?_ h, fun h => by rw [txt, h]; rfl⟩ <;>
  · intro x hx
    simp only [encs, List.mem_flatMap] at hx
    obtain ⟨y, _, hy⟩ := hx
    exact enc3_u8 y x hy
theorem txt_inj {a b : List Int} (ha : Lit16 a) (hb : Lit16 b) (h : txt a = txt b) : a = b := encs_inj ha hb (txt_encs.1 h)

/-! ### points -/
def okA (univ : List Int) (pts : List (List Int)) (i : Nat) : Bool := isPoint univ (gl pts i) && !(pts.take i).any fun p => encs p == encs (gl pts i)
/-- What the program's test of a formula and points says. -/
def mayA (univ : List Int) (ex : List (Int × List Int)) (cls pts : List (List Int)) : Bool := !decide ((pts.length : Int) > 4096) && (pMay univ ex cls && allN pts.length (okA univ pts))

/-- An assignment of the universal variables. -/
structure Pt (univ p : List Int) : Prop where
  len : p.length = univ.length
  at' : ∀ i, i < univ.length → g p i = g univ i ∨ g p i = -g univ i
theorem isPoint_iff {univ p : List Int} (hr : ∀ x ∈ univ, -65536 ≤ x ∧ x ≤ 65536) : isPoint univ p = true ↔ Pt univ p := by
  simp only [isPoint, Bool.and_eq_true, beq_iff_eq, allN_iff, okI, Bool.or_eq_true]
  constructor
  · rintro ⟨h1, h2⟩
    refine ⟨h1, fun i hi => ?_⟩
    have := h2 i (by omega)
    have hu := hr _ (g_mem hi)
    rw [w64 (by omega) (by omega)] at this
    omega
  · rintro ⟨h1, h2⟩
    refine ⟨h1, fun i hi => ?_⟩
    have := h2 i (by omega)
    have hu := hr _ (g_mem (l := univ) (i := i) (by omega))
    rw [w64 (by omega) (by omega)]
    omega
theorem Rising.lit {l : List Int} (h : Rising l) : Lit16 l := fun x hx => by have := h.lo x hx; omega
theorem Pt.lit {univ p : List Int} (h : Pt univ p) (hu : Rising univ) : Lit16 p := fun x hx => by
  obtain ⟨i, hi, rfl⟩ := mem_g hx
  have := hu.lo _ (g_mem (l := univ) (i := i) (by have := h.len; omega))
  have := h.at' i (by have := h.len; omega)
  omega
theorem Pt.mem {univ p : List Int} (h : Pt univ p) {x : Int} (hx : x ∈ p) : x ∈ univ ∨ -x ∈ univ := by
  obtain ⟨i, hi, rfl⟩ := mem_g hx
  have := h.len
  rcases h.at' i (by omega) with e | e
  · exact .inl (e ▸ g_mem (by omega))
  · exact .inr (by rw [e]; simpa using g_mem (l := univ) (i := i) (by omega))

structure ValidP (univ : List Int) (pts : List (List Int)) : Prop where
  n : pts.length ≤ 4096
  pt : ∀ p ∈ pts, Pt univ p
  nodup : pts.Nodup

theorem gl_take {l : List (List Int)} {n j : Nat} (h : j < n) : gl (l.take n) j = gl l j := by
  simp only [gl, List.getD_eq_getElem?_getD, List.getElem?_take, h, if_true]
theorem nodup_gl {pts : List (List Int)} : pts.Nodup ↔ ∀ i k, k < i → i < pts.length → gl pts k ≠ gl pts i := by
  rw [List.nodup_iff_pairwise_ne, List.pairwise_iff_getElem]
  constructor
  · intro h i k hk hi e
    exact h k i (by omega) hi hk (by simpa [gl, hi, show k < pts.length by omega] using e)
  · intro h k i hk hi hki e
    exact h i k hki hi (by simpa [gl, hi, hk] using e)

theorem mayP_iff {univ : List Int} {ex : List (Int × List Int)} {cls pts : List (List Int)} : mayP univ ex cls pts = true ↔ ValidD univ ex cls ∧ ValidP univ pts := by
  simp only [mayP, Bool.and_eq_true, mayDqbf_iff, allN_iff, okM, okM2, Bool.not_eq_true', decide_eq_false_iff_not, beq_eq_false_iff_ne]
  constructor
  · rintro ⟨h1, h2, h3⟩
    refine ⟨h1, by omega, fun p hp => ?_, nodup_gl.2 fun i k hk hi => (h3 i hi).2 k hk⟩
    obtain ⟨i, hi, rfl⟩ := mem_gl hp
    exact (isPoint_iff h1.ru.lit).1 (h3 i hi).1
  · rintro ⟨h1, h2⟩
    exact ⟨h1, by have := h2.n; omega, fun i hi => ⟨(isPoint_iff h1.ru.lit).2 (h2.pt _ (gl_mem hi)), fun k hk => nodup_gl.1 h2.nodup i k hk hi⟩⟩
theorem mayA_iff {univ : List Int} {ex : List (Int × List Int)} {cls pts : List (List Int)} : mayA univ ex cls pts = true ↔ ValidD univ ex cls ∧ ValidP univ pts := by
  simp only [mayA, Bool.and_eq_true, pMay_iff, allN_iff, okA, Bool.not_eq_true', decide_eq_false_iff_not, List.any_eq_false]
  constructor
  · rintro ⟨h2, h1, h3⟩
    refine ⟨h1, by omega, fun p hp => ?_, nodup_gl.2 fun i k hk hi e => ?_⟩
    · obtain ⟨i, hi, rfl⟩ := mem_gl hp
      exact (isPoint_iff h1.ru.lit).1 (h3 i hi).1
    · refine (h3 i hi).2 (gl pts k) ?_ (by rw [e]; simp)
      rw [← gl_take hk]
      exact gl_mem (by simp; omega)
  · rintro ⟨h1, h2⟩
    refine ⟨by have := h2.n; omega, h1, fun i hi => ⟨(isPoint_iff h1.ru.lit).2 (h2.pt _ (gl_mem hi)), fun p hp e => ?_⟩⟩
    obtain ⟨k, hk, rfl⟩ := mem_gl hp
    have hk' : k < i := by simp at hk; omega
    rw [gl_take hk'] at e
    exact nodup_gl.1 h2.nodup i k hk' hi (encs_inj ((h2.pt _ (gl_mem (by omega))).lit h1.ru) ((h2.pt _ (gl_mem hi)).lit h1.ru) (by simpa using e))
theorem mayA_eq (univ : List Int) (ex : List (Int × List Int)) (cls pts : List (List Int)) : mayA univ ex cls pts = mayP univ ex cls pts := by
  rw [Bool.eq_iff_iff, mayA_iff, mayP_iff]

/-! ### copies -/
abbrev Cp := Int × List Int
def cpAt (p : List Int) (y : Cp) : Cp := (y.1, wit p y.2)
def addC (acc : List Cp) (c : Cp) : List Cp := match acc.contains c with | true => acc | false => acc ++ [c]
def rowC (p : List Int) (ex : List Cp) (acc : List Cp) : List Cp := ex.foldl (fun acc y => addC acc (cpAt p y)) acc
/-- The copies at points, in the order of their numbers. -/
def cops (ex : List Cp) (pts : List (List Int)) : List Cp := pts.foldl (fun acc p => rowC p ex acc) []

theorem addC_pre (acc : List Cp) (c : Cp) : acc <+: addC acc c := by unfold addC; split; exact List.prefix_rfl; exact List.prefix_append _ _
theorem addC_mem (acc : List Cp) (c : Cp) : c ∈ addC acc c := by
  unfold addC; split
  · simpa using ‹acc.contains c = true›
  · simp
theorem addC_sub {acc : List Cp} {c x : Cp} (h : x ∈ addC acc c) : x ∈ acc ∨ x = c := by
  unfold addC at h; split at h
  · exact .inl h
  · simpa using h
theorem addC_nodup {acc : List Cp} {c : Cp} (h : acc.Nodup) : (addC acc c).Nodup := by
  unfold addC; split
  · exact h
  · have : c ∉ acc := by simpa using ‹acc.contains c = false›
    rw [List.nodup_append]
    exact ⟨h, by simp, fun a ha b hb => by simp at hb; subst hb; exact fun e => this (e ▸ ha)⟩
theorem addC_len (acc : List Cp) (c : Cp) : (addC acc c).length ≤ acc.length + 1 := by unfold addC; split <;> simp
theorem rowC_snoc (p : List Int) (ex : List Cp) (y : Cp) (acc : List Cp) : rowC p (ex ++ [y]) acc = addC (rowC p ex acc) (cpAt p y) := by simp [rowC]
theorem rowC_pre (p : List Int) (ex : List Cp) : ∀ acc, acc <+: rowC p ex acc := by
  induction ex with
  | nil => intro acc; exact List.prefix_rfl
  | cons y ex ih => intro acc; exact (addC_pre acc _).trans (ih _)
theorem rowC_mem {p : List Int} {ex : List Cp} {y : Cp} (hy : y ∈ ex) : ∀ acc, cpAt p y ∈ rowC p ex acc := by
  induction ex with
  | nil => cases hy
  | cons z ex ih =>
    intro acc
    rcases List.mem_cons.1 hy with rfl | h
    · exact (rowC_pre p ex _).subset (addC_mem _ _)
    · exact ih h _
theorem rowC_sub {p : List Int} {ex : List Cp} : ∀ {acc : List Cp} {x : Cp}, x ∈ rowC p ex acc → x ∈ acc ∨ ∃ y ∈ ex, x = cpAt p y := by
  induction ex with
  | nil => intro acc x h; exact .inl h
  | cons z ex ih =>
    intro acc x h
    rcases ih h with h | ⟨y, hy, e⟩
    · rcases addC_sub h with h | h
      · exact .inl h
      · exact .inr ⟨z, by simp, h⟩
    · exact .inr ⟨y, by simp [hy], e⟩
theorem rowC_nodup {p : List Int} {ex : List Cp} : ∀ {acc : List Cp}, acc.Nodup → (rowC p ex acc).Nodup := by
  induction ex with
  | nil => intro acc h; exact h
  | cons z ex ih => intro acc h; exact ih (addC_nodup h)
theorem rowC_len (p : List Int) (ex : List Cp) : ∀ acc, (rowC p ex acc).length ≤ acc.length + ex.length := by
  induction ex with
  | nil => intro acc; exact Nat.le_refl _
  | cons z ex ih => intro acc; have := ih (addC acc (cpAt p z)); have := addC_len acc (cpAt p z); simp only [rowC, List.foldl_cons, List.length_cons] at *; omega
theorem cops_snoc (ex : List Cp) (pts : List (List Int)) (p : List Int) : cops ex (pts ++ [p]) = rowC p ex (cops ex pts) := by simp [cops]
theorem cops_append (ex : List Cp) (a b : List (List Int)) : cops ex (a ++ b) = b.foldl (fun acc p => rowC p ex acc) (cops ex a) := by simp [cops]
theorem fold_pre (ex : List Cp) (b : List (List Int)) : ∀ acc, acc <+: b.foldl (fun acc p => rowC p ex acc) acc := by
  induction b with
  | nil => intro acc; exact List.prefix_rfl
  | cons p b ih => intro acc; exact (rowC_pre p ex acc).trans (ih _)
theorem cops_pre (ex : List Cp) (pts : List (List Int)) (k : Nat) : cops ex (pts.take k) <+: cops ex pts := by
  conv => rhs; rw [← List.take_append_drop k pts]
  rw [cops_append]; exact fold_pre _ _ _
theorem cops_mem {ex : List Cp} {pts : List (List Int)} {p : List Int} {y : Cp} (hp : p ∈ pts) (hy : y ∈ ex) : cpAt p y ∈ cops ex pts := by
  obtain ⟨a, b, rfl⟩ := List.append_of_mem hp
  rw [cops_append]
  exact (fold_pre ex b _).subset (rowC_mem hy _)
theorem cops_sub {ex : List Cp} {pts : List (List Int)} {x : Cp} (h : x ∈ cops ex pts) : ∃ p ∈ pts, ∃ y ∈ ex, x = cpAt p y := by
  induction pts using snocInd with
  | h0 => cases h
  | h1 pts p ih =>
    rw [cops_snoc] at h
    rcases rowC_sub h with h | ⟨y, hy, e⟩
    · obtain ⟨q, hq, k⟩ := ih h; exact ⟨q, by simp [hq], k⟩
    · exact ⟨p, by simp, y, hy, e⟩
theorem cops_nodup (ex : List Cp) (pts : List (List Int)) : (cops ex pts).Nodup := by
  induction pts using snocInd with
  | h0 => exact List.nodup_nil
  | h1 pts p ih => rw [cops_snoc]; exact rowC_nodup ih
theorem cops_len (ex : List Cp) (pts : List (List Int)) : (cops ex pts).length ≤ pts.length * ex.length := by
  induction pts using snocInd with
  | h0 => simp [cops]
  | h1 pts p ih => rw [cops_snoc]; have := rowC_len p ex (cops ex pts); simp only [List.length_append, List.length_singleton, Nat.succ_mul, Nat.add_mul, Nat.one_mul]; omega

/-- The number of a copy; 0: it has none. -/
def numC (l : List Cp) (c : Cp) : Nat := match l.contains c with | true => l.idxOf c + 1 | false => 0
theorem numC_pre {a b : List Cp} {c : Cp} (h : a <+: b) (hc : c ∈ a) : numC b c = numC a c := by
  obtain ⟨d, rfl⟩ := h
  have h1 : a.contains c = true := by simpa using hc
  have h2 : (a ++ d).contains c = true := by simp [hc]
  simp only [numC, h1, h2]
  rw [idxOf_append_mem hc]

/-! ### the expansion -/
def litC (l : List Cp) (ex : List Cp) (p : List Int) (x : Int) : Option Int :=
  match ex.find? (fun y => y.1 == abs64 x) with
  | some y => some (if x < 0 then -(numC l (cpAt p y) : Int) else numC l (cpAt p y))
  | none => none
def leA (a b : Int) : Bool := decide (abs64 a ≤ abs64 b)
def sortA (l : List Int) : List Int := l.mergeSort leA
def clC (l ex : List Cp) (p c : List Int) : List Int := sortA (c.filterMap (litC l ex p))
def skipC (p c : List Int) : Bool := c.any p.contains
def rowE (l ex : List Cp) (cls : List (List Int)) (p : List Int) : List (List Int) := (cls.filter fun c => !skipC p c).map (clC l ex p)
def expd (l ex : List Cp) (cls pts : List (List Int)) : List (List Int) := pts.flatMap (rowE l ex cls)

theorem litC_pre {a b ex : List Cp} {p : List Int} (h : a <+: b) (hm : ∀ y ∈ ex, cpAt p y ∈ a) (x : Int) : litC b ex p x = litC a ex p x := by
  unfold litC
  split
  · rename_i y hy
    rw [numC_pre h (hm y (List.mem_of_find?_eq_some hy))]
  · rfl
theorem rowE_pre {a b ex : List Cp} {p : List Int} (h : a <+: b) (hm : ∀ y ∈ ex, cpAt p y ∈ a) (cls : List (List Int)) : rowE b ex cls p = rowE a ex cls p := by
  unfold rowE clC
  have : litC b ex p = litC a ex p := funext (litC_pre h hm)
  rw [this]
theorem expd_pre (ex : List Cp) (cls pts : List (List Int)) (k : Nat) : expd (cops ex (pts.take k)) ex cls (pts.take k) <+: expd (cops ex pts) ex cls pts := by
  have : expd (cops ex (pts.take k)) ex cls (pts.take k) = expd (cops ex pts) ex cls (pts.take k) := by
    unfold expd
    simp only [List.flatMap_def]
    congr 1
    refine List.map_congr_left fun p hp => ?_
    exact (rowE_pre (cops_pre ex pts k) (fun y hy => cops_mem hp hy) cls).symm
  rw [this]
  have h2 : expd (cops ex pts) ex cls pts = expd (cops ex pts) ex cls (pts.take k) ++ expd (cops ex pts) ex cls (pts.drop k) := by
    unfold expd; rw [← List.flatMap_append, List.take_append_drop]
  rw [h2]
  exact List.prefix_append _ _
end Go.Proofs.YtoefoaabnjeofaaGreat
namespace Go.Proofs.YtoefoaabnjeofaaGreat
open Go.SX
set_option maxHeartbeats 1000000
set_option maxRecDepth 20000
theorem laidOut : laidOutB Tryz.prog = true := by kernel_rfl
theorem smallT : Tryz.prog.types.size + 2 ≤ 10000 := of_decide_eq_true (by kernel_rfl)
theorem u3 : Tryz.prog.underlying 3 = some (.int .i64) := by kernel_rfl
theorem u9 : Tryz.prog.underlying 9 = some .string := by kernel_rfl
theorem keyed {k : Nat} (hrow : k < Tryz.prog.types.size) (hk : Tryz.prog.keyType k = true) (hwide : (match Tryz.prog.underlying k with | some (.array _ _) | some (.struct _) => true | _ => false) = true) : Maps.Keyed Tryz.prog k :=
  Maps.Keyed.of_law (deep_law_gate laidOut smallT hrow hk hwide)

/-- The keys of annot.key, and those of [2]int. -/
def KA (v : Value) : Prop := ∃ l, keyOf Tryz.prog 237 v = some l
theorem keyA : KeyT Tryz.prog 237 KA := KeyT.deep (keyed (of_decide_eq_true (by kernel_rfl)) (by kernel_rfl) (by kernel_rfl))
def K2 (v : Value) : Prop := ∃ l, keyOf Tryz.prog 158 v = some l
theorem key2 : KeyT Tryz.prog 158 K2 := KeyT.deep (keyed (of_decide_eq_true (by kernel_rfl)) (by kernel_rfl) (by kernel_rfl))

theorem keyOf_deep {P : Program} {k : Nat} {v : Value} {ls : List Lit} (hw : (match P.underlying k with | some (.array _ _) | some (.struct _) => true | _ => false) = true)
    (hk : P.keyType k = true) (hf : v.formed P k = true) (hl : P.keyLits (P.types.size + 1) k v.cells.toList = some ls) : ∃ l, keyOf P k v = some l := by
  unfold keyOf
  split
  · rw [hk, hf, hl]; exact ⟨_, rfl⟩
  · rw [hk, hf, hl]; exact ⟨_, rfl⟩
  · rename_i h1 h2
    split at hw
    · exact absurd ‹_› (h1 _ _)
    · exact absurd ‹_› (h2 _)
    · cases hw
theorem wf64 {x : Int} (hx : R64 x) : (Lit.int .i64 x).wf = true := by
  simp only [Lit.wf, IntKind.min, IntKind.max, IntKind.signed, IntKind.bits]
  unfold R64 at hx
  simp; omega
theorem keyLits_int {P : Program} {t d : Nat} {x : Int} (hu : P.underlying t = some (.int .i64)) (hx : R64 x) : P.keyLits (d + 1) t [.int .i64 x] = some [.int .i64 x] := by
  have : (Lit.int .i64 x).wf = true := by
    simp only [Lit.wf, IntKind.min, IntKind.max, IntKind.signed, IntKind.bits]
    unfold R64 at hx
    simp; omega
  simp [Program.keyLits, hu, this]
theorem keyLits_str {P : Program} {t d : Nat} {s : ByteArray} (hu : P.underlying t = some .string) (hx : s.size ≤ maxLen) : P.keyLits (d + 1) t [.string s] = some [.string s.data.toList] := by
  simp [Program.keyLits, hu, hx]
theorem types_succ : ∃ n, Tryz.prog.types.size = n + 1 := ⟨Tryz.prog.types.size - 1, by have : 0 < Tryz.prog.types.size := of_decide_eq_true (by kernel_rfl); omega⟩
theorem isKA {x : Int} {s : ByteArray} (hx : R64 x) (hs : s.size ≤ maxLen) : KA (.agg #[.int .i64 x, .string s]) := by
  obtain ⟨n, hn⟩ := types_succ
  refine keyOf_deep (ls := [.int .i64 x, .string s.data.toList]) (by kernel_rfl) (by kernel_rfl) (by rfl) ?_
  rw [hn]
  have e1 := keyLits_int (P := Tryz.prog) (t := 3) (d := n) u3 hx
  have e2 := keyLits_str (P := Tryz.prog) (t := 9) (d := n) u9 hs
  show Tryz.prog.keyLits (n + 1 + 1) 237 [.int .i64 x, .string s] = _
  obtain ⟨fs, hfs, hu⟩ : ∃ fs, Tryz.prog.underlying 237 = some (.struct fs) ∧ fs.toList.map (fun f => (f.offset, f.type)) = [(0, 3), (1, 9)] ∧ fs.all (·.name != "_") = true := ⟨_, rfl, by kernel_rfl, by kernel_rfl⟩
  obtain ⟨hm, hnm⟩ := hu
  obtain ⟨f0, f1, hl, o0, t0, o1, t1⟩ : ∃ f0 f1, fs.toList = [f0, f1] ∧ f0.offset = 0 ∧ f0.type = 3 ∧ f1.offset = 1 ∧ f1.type = 9 := by
    match h : fs.toList, hm with
    | [f0, f1], hm => simp at hm; exact ⟨f0, f1, rfl, hm.1.1, hm.1.2, hm.2.1, hm.2.2⟩
    | [], hm => simp at hm
    | [_], hm => simp at hm
    | _ :: _ :: _ :: _, hm => simp at hm
  have c0 : Tryz.prog.cellsOf 237 = 2 := by kernel_rfl
  have c1 : Tryz.prog.cellsOf 3 = 1 := by kernel_rfl
  have c2 : Tryz.prog.cellsOf 9 = 1 := by kernel_rfl
  simp only [Program.keyLits, hfs, c0, hnm, List.length_cons, List.length_nil, and_self, if_true, hl]
  simp [o0, t0, o1, t1, c1, c2, u3, u9, wf64 hx, hs]
theorem isK2 {x y : Int} (hx : R64 x) (hy : R64 y) : K2 (.agg #[.int .i64 x, .int .i64 y]) := by
  obtain ⟨n, hn⟩ := types_succ
  refine keyOf_deep (ls := [.int .i64 x, .int .i64 y]) (by kernel_rfl) (by kernel_rfl) (by rfl) ?_
  rw [hn]
  have e1 := keyLits_int (P := Tryz.prog) (t := 3) (d := n) u3 hx
  have e2 := keyLits_int (P := Tryz.prog) (t := 3) (d := n) u3 hy
  show Tryz.prog.keyLits (n + 1 + 1) 158 [.int .i64 x, .int .i64 y] = _
  have hu : Tryz.prog.underlying 158 = some (.array 2 3) := by kernel_rfl
  have c0 : Tryz.prog.cellsOf 158 = 2 := by kernel_rfl
  have c1 : Tryz.prog.cellsOf 3 = 1 := by kernel_rfl
  simp [Program.keyLits, hu, c0, c1, List.range, List.range.loop, u3, wf64 hx, wf64 hy]
/-- The keys as plain things. -/
def ιA (k : Int × ByteArray) : Value := .agg #[.int .i64 k.1, .string k.2]
def ι2 (k : Int × Int) : Value := .agg #[.int .i64 k.1, .int .i64 k.2]
theorem ιA_inj : ∀ x y, ιA x = ιA y → x = y := by rintro ⟨a, b⟩ ⟨c, d⟩ h; simp [ιA] at h; rw [h.1, h.2]
theorem ι2_inj : ∀ x y, ι2 x = ι2 y → x = y := by rintro ⟨a, b⟩ ⟨c, d⟩ h; simp [ι2] at h; rw [h.1, h.2]
def ιS (s : ByteArray) : Value := .string s
theorem ιS_inj : ∀ x y, ιS x = ιS y → x = y := by intro x y h; simpa [ιS] using h
abbrev KS : Value → Prop := MapKept.IsKey .string
end Go.Proofs.YtoefoaabnjeofaaGreat
namespace Go.Proofs.YtoefoaabnjeofaaGreat
open Go.SX
set_option maxHeartbeats 4000000
set_option maxRecDepth 20000
open Classical in
/-- A set of texts, as a map to true. -/
noncomputable def setS (l : List ByteArray) : ByteArray → Option Value := fun s => bO (decide (s ∈ l))
theorem setS_nil (s : ByteArray) : (none : Option Value) = setS [] s := by simp [setS, bO]
theorem setS_snoc (l : List ByteArray) (x s : ByteArray) : updA (setS l) x (some (.bool true)) s = setS (l ++ [x]) s := by
  by_cases e : s = x
  · subst e; rw [updA_self]; simp [setS, bO]
  · rw [updA_ne _ _ e]; simp only [setS]; congr 1; exact decide_eq_decide.2 (by simp [e])
theorem setS_any {l : List (List Int)} {x : List Int} : setS (l.map txt) (txt x) = bO (l.any fun p => encs p == encs x) := by
  simp only [setS]
  congr 1
  rw [Bool.eq_iff_iff]
  simp only [decide_eq_true_eq, List.mem_map, List.any_eq_true, beq_iff_eq]
  exact ⟨fun ⟨p, hp, e⟩ => ⟨p, hp, txt_encs.1 e⟩, fun ⟨p, hp, e⟩ => ⟨p, hp, txt_encs.2 e⟩⟩
def G165 : Gv := ⟨[], [], []⟩
theorem amay_spec {u v w r : Value} {univ : List Int} {ex : List (Int × List Int)} {cls pts : List (List Int)} {h : RO} {m : Hp} (ha : IntS h u univ) (hb : DepS h v ex) (hc : LLS h w cls) (hp : LLS h r pts)
    (hl : univ.length + ex.length ≤ 1000000000) (ht : tot cls ≤ 1000000000000) (hpt : ∀ p ∈ pts, p.length ≤ 1000000000) :
    Con Tryz.prog 165 [.agg #[u, v, w], r] h m fun e h' m' => e = .returned (.bool (mayA univ ex cls pts)) ∧ m' = m := by
  obtain ⟨z, f, rfl⟩ := hp.sl
  have hlp := hp.len
  refine Con.drop ?_
  refine fn_of (nt := 38) T Tryz.func165 rfl (by kernel_rfl) Tryz.ntmps165 (by simp) T_ok T_mixed fun C hC => ?_
  simp only [Tryz.f165, argFr, Nat.zero_add, Nat.reduceAdd] at hC ⊢
  ((try (conv => whnf)); repeat ((first | refine And.intro ?_ True.intro | refine And.intro ⟨by omega, by omega⟩ ?_ | refine ⟨_, (by assumption : RO.c _ _ _ = _), ?_⟩ | refine ⟨_, _, _, (by assumption : (_ : Option Obj) = _), ?_⟩ | refine ⟨_, _, _, (by assumption : RO.c _ _ _ = _), ?_⟩ | refine ⟨_, (by assumption : Row _ _ _ _), ?_⟩ | refine ⟨_, (by assumption : Cell _ _ _ _ _), ?_⟩ | refine ⟨_, _, _, (by assumption : Cell _ _ _ _ _), ?_⟩ | refine ⟨_, Or.inl (by assumption), ?_⟩ | refine ⟨_, _, _, Or.inl (by assumption), ?_⟩ | refine And.intro (ints_one _) ?_ | refine And.intro (by omega) ?_ | refine d1 ?_ | refine d2 ?_ | refine d3 ?_ | refine d4 ?_ | refine go G165 400 hC (by kernel_rfl) ?_); (conv => whnf)))
  refine ⟨fun hq => ?_, fun hq => ?_⟩ <;> ((try (conv => whnf)); repeat ((first | refine And.intro ?_ True.intro | refine And.intro ⟨by omega, by omega⟩ ?_ | refine ⟨_, (by assumption : RO.c _ _ _ = _), ?_⟩ | refine ⟨_, _, _, (by assumption : (_ : Option Obj) = _), ?_⟩ | refine ⟨_, _, _, (by assumption : RO.c _ _ _ = _), ?_⟩ | refine ⟨_, (by assumption : Row _ _ _ _), ?_⟩ | refine ⟨_, (by assumption : Cell _ _ _ _ _), ?_⟩ | refine ⟨_, _, _, (by assumption : Cell _ _ _ _ _), ?_⟩ | refine ⟨_, Or.inl (by assumption), ?_⟩ | refine ⟨_, _, _, Or.inl (by assumption), ?_⟩ | refine And.intro (ints_one _) ?_ | refine And.intro (by omega) ?_ | refine d1 ?_ | refine d2 ?_ | refine d3 ?_ | refine d4 ?_ | refine go G165 400 hC (by kernel_rfl) ?_); (conv => whnf)))
  rotate_left
  · exact ⟨_, Hp.sub.refl _, by rw [mayA]; simp at hq; simp [hq]; rfl, rfl⟩
  refine Con.mono (pmay_spec ha hb hc hl ht) ?_
  rintro _ h2 m2 hle2 ⟨rfl, rfl⟩
  replace ha := ha.mono hle2
  replace hp := hp.mono hle2
  ((try (conv => whnf)); repeat ((first | refine And.intro ?_ True.intro | refine And.intro ⟨by omega, by omega⟩ ?_ | refine ⟨_, (by assumption : RO.c _ _ _ = _), ?_⟩ | refine ⟨_, _, _, (by assumption : (_ : Option Obj) = _), ?_⟩ | refine ⟨_, _, _, (by assumption : RO.c _ _ _ = _), ?_⟩ | refine ⟨_, (by assumption : Row _ _ _ _), ?_⟩ | refine ⟨_, (by assumption : Cell _ _ _ _ _), ?_⟩ | refine ⟨_, _, _, (by assumption : Cell _ _ _ _ _), ?_⟩ | refine ⟨_, Or.inl (by assumption), ?_⟩ | refine ⟨_, _, _, Or.inl (by assumption), ?_⟩ | refine And.intro (ints_one _) ?_ | refine And.intro (by omega) ?_ | refine d1 ?_ | refine d2 ?_ | refine d3 ?_ | refine d4 ?_ | refine go G165 400 hC (by kernel_rfl) ?_); (conv => whnf)))
  refine ⟨fun hq2 => ?_, fun hq2 => ?_⟩ <;> ((try (conv => whnf)); repeat ((first | refine And.intro ?_ True.intro | refine And.intro ⟨by omega, by omega⟩ ?_ | refine ⟨_, (by assumption : RO.c _ _ _ = _), ?_⟩ | refine ⟨_, _, _, (by assumption : (_ : Option Obj) = _), ?_⟩ | refine ⟨_, _, _, (by assumption : RO.c _ _ _ = _), ?_⟩ | refine ⟨_, (by assumption : Row _ _ _ _), ?_⟩ | refine ⟨_, (by assumption : Cell _ _ _ _ _), ?_⟩ | refine ⟨_, _, _, (by assumption : Cell _ _ _ _ _), ?_⟩ | refine ⟨_, Or.inl (by assumption), ?_⟩ | refine ⟨_, _, _, Or.inl (by assumption), ?_⟩ | refine And.intro (ints_one _) ?_ | refine And.intro (by omega) ?_ | refine d1 ?_ | refine d2 ?_ | refine d3 ?_ | refine d4 ?_ | refine go G165 400 hC (by kernel_rfl) ?_); (conv => whnf)))
  · exact ⟨_, Hp.sub.refl _, by rw [mayA]; simp at hq2; simp [hq2]; rfl, rfl⟩
  intro b1 f1 f2 f3
  ((try (conv => whnf)); repeat ((first | refine And.intro ?_ True.intro | refine And.intro ⟨by omega, by omega⟩ ?_ | refine ⟨_, (by assumption : RO.c _ _ _ = _), ?_⟩ | refine ⟨_, _, _, (by assumption : (_ : Option Obj) = _), ?_⟩ | refine ⟨_, _, _, (by assumption : RO.c _ _ _ = _), ?_⟩ | refine ⟨_, (by assumption : Row _ _ _ _), ?_⟩ | refine ⟨_, (by assumption : Cell _ _ _ _ _), ?_⟩ | refine ⟨_, _, _, (by assumption : Cell _ _ _ _ _), ?_⟩ | refine ⟨_, Or.inl (by assumption), ?_⟩ | refine ⟨_, _, _, Or.inl (by assumption), ?_⟩ | refine And.intro (ints_one _) ?_ | refine And.intro (by omega) ?_ | refine d1 ?_ | refine d2 ?_ | refine d3 ?_ | refine d4 ?_ | refine go G165 400 hC (by kernel_rfl) ?_); (conv => whnf)))
  have hgood : (!decide ((pts.length : Int) > 4096) && pMay univ ex cls) = true := by simp at hq hq2; simp [hq, hq2]
  have bad : ∀ i, i < pts.length → okA univ pts i = false → Ending.returned (.bool false) = Ending.returned (.bool (mayA univ ex cls pts)) := fun i hi hb => by rw [mayA, allN_false hi hb, Bool.and_false, Bool.and_false]
  refine halt (sx_loopB (X := Nat) [2, 5, 17, 18] [2] (fun i => [(19, .v (.int .i64 i))]) (fun _ => [])
    (fun i h' m' => i ≤ pts.length ∧ h2.le h' ∧ m2.sub m' ∧ MapX KS ιS m' b1 (setS ((pts.take i).map txt)) ∧ ∀ j, j < i → okA univ pts j = true) (fun i => pts.length - i) 0 (by repeat (first | exact Keep.nil | apply Keep.cons rfl | apply Keep.skip rfl)) (by repeat (first | exact KeepB.nil | apply KeepB.cons rfl)) ⟨[(2, 2)], ⟨by simp [sinj], by repeat (first | exact trivial | refine ⟨rfl, ?_⟩ | refine ⟨⟨rfl, rfl⟩, ?_⟩ | refine ⟨⟨rfl, rfl, rfl⟩, ?_⟩ | refine ⟨stepI (by omega), ?_⟩ | refine ⟨by assumption, ?_⟩), by repeat (first | exact trivial | refine ⟨rfl, ?_⟩ | refine ⟨⟨rfl, rfl, rfl⟩, ?_⟩ | refine ⟨by assumption, ?_⟩)⟩⟩
    ⟨by omega, RO.le.refl _, (Hp.sub.refl _).fresh f1 _, (MapX.new KS ιS m2 b1).congr (fun s => setS_nil s), by simp⟩ ?_)
  rintro i h3 m3 - ⟨hi, hle3, hs, hm, hn⟩
  ((try (conv => whnf)); repeat ((first | refine And.intro ?_ True.intro | refine And.intro ⟨by omega, by omega⟩ ?_ | refine ⟨_, (by assumption : RO.c _ _ _ = _), ?_⟩ | refine ⟨_, _, _, (by assumption : (_ : Option Obj) = _), ?_⟩ | refine ⟨_, _, _, (by assumption : RO.c _ _ _ = _), ?_⟩ | refine ⟨_, (by assumption : Row _ _ _ _), ?_⟩ | refine ⟨_, (by assumption : Cell _ _ _ _ _), ?_⟩ | refine ⟨_, _, _, (by assumption : Cell _ _ _ _ _), ?_⟩ | refine ⟨_, Or.inl (by assumption), ?_⟩ | refine ⟨_, _, _, Or.inl (by assumption), ?_⟩ | refine And.intro (ints_one _) ?_ | refine And.intro (by omega) ?_ | refine d1 ?_ | refine d2 ?_ | refine d3 ?_ | refine d4 ?_ | refine go G165 400 hC (by kernel_rfl) ?_); (conv => whnf)))
  refine ⟨fun hlt => ?_, fun hge => ?_⟩
  · have hlt : i < pts.length := by simpa using hlt
    obtain ⟨p, q, rfl, hcc⟩ := (hp.mono hle3).get hlt
    obtain ⟨a', c', c1, hi1⟩ := hcc i hlt
    ((try (conv => whnf)); repeat ((first | refine And.intro ?_ True.intro | refine And.intro ⟨by omega, by omega⟩ ?_ | refine ⟨_, (by assumption : RO.c _ _ _ = _), ?_⟩ | refine ⟨_, _, _, (by assumption : (_ : Option Obj) = _), ?_⟩ | refine ⟨_, _, _, (by assumption : RO.c _ _ _ = _), ?_⟩ | refine ⟨_, (by assumption : Row _ _ _ _), ?_⟩ | refine ⟨_, (by assumption : Cell _ _ _ _ _), ?_⟩ | refine ⟨_, _, _, (by assumption : Cell _ _ _ _ _), ?_⟩ | refine ⟨_, Or.inl (by assumption), ?_⟩ | refine ⟨_, _, _, Or.inl (by assumption), ?_⟩ | refine And.intro (ints_one _) ?_ | refine And.intro (by omega) ?_ | refine d1 ?_ | refine d2 ?_ | refine d3 ?_ | refine d4 ?_ | refine go G165 400 hC (by kernel_rfl) ?_); (conv => whnf)))
    (refine Con.mono (equalFunc_may hi1 (ha.mono hle3)) ?_; rintro _ _ _ - ⟨rfl, rfl, rfl⟩; ((try (conv => whnf)); repeat ((first | refine And.intro ?_ True.intro | refine And.intro ⟨by omega, by omega⟩ ?_ | refine ⟨_, (by assumption : RO.c _ _ _ = _), ?_⟩ | refine ⟨_, _, _, (by assumption : (_ : Option Obj) = _), ?_⟩ | refine ⟨_, _, _, (by assumption : RO.c _ _ _ = _), ?_⟩ | refine ⟨_, (by assumption : Row _ _ _ _), ?_⟩ | refine ⟨_, (by assumption : Cell _ _ _ _ _), ?_⟩ | refine ⟨_, _, _, (by assumption : Cell _ _ _ _ _), ?_⟩ | refine ⟨_, Or.inl (by assumption), ?_⟩ | refine ⟨_, _, _, Or.inl (by assumption), ?_⟩ | refine And.intro (ints_one _) ?_ | refine And.intro (by omega) ?_ | refine d1 ?_ | refine d2 ?_ | refine d3 ?_ | refine d4 ?_ | refine go G165 400 hC (by kernel_rfl) ?_); (conv => whnf))))
    refine ⟨fun he => ?_, fun he => ?_⟩ <;> ((try (conv => whnf)); repeat ((first | refine And.intro ?_ True.intro | refine And.intro ⟨by omega, by omega⟩ ?_ | refine ⟨_, (by assumption : RO.c _ _ _ = _), ?_⟩ | refine ⟨_, _, _, (by assumption : (_ : Option Obj) = _), ?_⟩ | refine ⟨_, _, _, (by assumption : RO.c _ _ _ = _), ?_⟩ | refine ⟨_, (by assumption : Row _ _ _ _), ?_⟩ | refine ⟨_, (by assumption : Cell _ _ _ _ _), ?_⟩ | refine ⟨_, _, _, (by assumption : Cell _ _ _ _ _), ?_⟩ | refine ⟨_, Or.inl (by assumption), ?_⟩ | refine ⟨_, _, _, Or.inl (by assumption), ?_⟩ | refine And.intro (ints_one _) ?_ | refine And.intro (by omega) ?_ | refine d1 ?_ | refine d2 ?_ | refine d3 ?_ | refine d4 ?_ | refine go G165 400 hC (by kernel_rfl) ?_); (conv => whnf)))
    rotate_left
    · exact ⟨_, hs, bad i hlt (by rw [okA]; simp at he; simp [he]), rfl⟩
    have he : isPoint univ (gl pts i) = true := by simpa using he
    refine Con.mono (text_spec hi1 (hpt _ (gl_mem hlt))) ?_
    rintro _ h4 m3 hle4 ⟨rfl, rfl⟩
    ((try (conv => whnf)); repeat ((first | refine And.intro ?_ True.intro | refine And.intro ⟨by omega, by omega⟩ ?_ | refine ⟨_, (by assumption : RO.c _ _ _ = _), ?_⟩ | refine ⟨_, _, _, (by assumption : (_ : Option Obj) = _), ?_⟩ | refine ⟨_, _, _, (by assumption : RO.c _ _ _ = _), ?_⟩ | refine ⟨_, (by assumption : Row _ _ _ _), ?_⟩ | refine ⟨_, (by assumption : Cell _ _ _ _ _), ?_⟩ | refine ⟨_, _, _, (by assumption : Cell _ _ _ _ _), ?_⟩ | refine ⟨_, Or.inl (by assumption), ?_⟩ | refine ⟨_, _, _, Or.inl (by assumption), ?_⟩ | refine And.intro (ints_one _) ?_ | refine And.intro (by omega) ?_ | refine d1 ?_ | refine d2 ?_ | refine d3 ?_ | refine d4 ?_ | refine go G165 400 hC (by kernel_rfl) ?_); (conv => whnf)))
    have hx1 := setS_any (l := pts.take i) (x := gl pts i)
    have hm0 := hm
    obtain ⟨es, ck, F, e1, hO⟩ := hm
    refine ⟨es, ck, _, F, ⟨.inl e1, keyStr, hO.r, isKeyStr _⟩, ?_⟩
    erw [hO.eq (txt (gl pts i))]
    rw [hx1]
    cases hcx : (pts.take i).any (fun p => encs p == encs (gl pts i)) with
    | true =>
      ((try (conv => whnf)); repeat ((first | refine And.intro ?_ True.intro | refine And.intro ⟨by omega, by omega⟩ ?_ | refine ⟨_, (by assumption : RO.c _ _ _ = _), ?_⟩ | refine ⟨_, _, _, (by assumption : (_ : Option Obj) = _), ?_⟩ | refine ⟨_, _, _, (by assumption : RO.c _ _ _ = _), ?_⟩ | refine ⟨_, (by assumption : Row _ _ _ _), ?_⟩ | refine ⟨_, (by assumption : Cell _ _ _ _ _), ?_⟩ | refine ⟨_, _, _, (by assumption : Cell _ _ _ _ _), ?_⟩ | refine ⟨_, Or.inl (by assumption), ?_⟩ | refine ⟨_, _, _, Or.inl (by assumption), ?_⟩ | refine And.intro (ints_one _) ?_ | refine And.intro (by omega) ?_ | refine d1 ?_ | refine d2 ?_ | refine d3 ?_ | refine d4 ?_ | refine go G165 400 hC (by kernel_rfl) ?_); (conv => whnf)))
      exact ⟨_, hs, bad i hlt (by rw [okA, hcx]; simp), rfl⟩
    | false =>
      ((try (conv => whnf)); repeat ((first | refine And.intro ?_ True.intro | refine And.intro ⟨by omega, by omega⟩ ?_ | refine ⟨_, (by assumption : RO.c _ _ _ = _), ?_⟩ | refine ⟨_, _, _, (by assumption : (_ : Option Obj) = _), ?_⟩ | refine ⟨_, _, _, (by assumption : RO.c _ _ _ = _), ?_⟩ | refine ⟨_, (by assumption : Row _ _ _ _), ?_⟩ | refine ⟨_, (by assumption : Cell _ _ _ _ _), ?_⟩ | refine ⟨_, _, _, (by assumption : Cell _ _ _ _ _), ?_⟩ | refine ⟨_, Or.inl (by assumption), ?_⟩ | refine ⟨_, _, _, Or.inl (by assumption), ?_⟩ | refine And.intro (ints_one _) ?_ | refine And.intro (by omega) ?_ | refine d1 ?_ | refine d2 ?_ | refine d3 ?_ | refine d4 ?_ | refine go G165 400 hC (by kernel_rfl) ?_); (conv => whnf)))
      refine Con.mono (text_spec (hi1.mono hle4) (hpt _ (gl_mem hlt))) ?_
      rintro _ h5 m3 hle5 ⟨rfl, rfl⟩
      ((try (conv => whnf)); repeat ((first | refine And.intro ?_ True.intro | refine And.intro ⟨by omega, by omega⟩ ?_ | refine ⟨_, (by assumption : RO.c _ _ _ = _), ?_⟩ | refine ⟨_, _, _, (by assumption : (_ : Option Obj) = _), ?_⟩ | refine ⟨_, _, _, (by assumption : RO.c _ _ _ = _), ?_⟩ | refine ⟨_, (by assumption : Row _ _ _ _), ?_⟩ | refine ⟨_, (by assumption : Cell _ _ _ _ _), ?_⟩ | refine ⟨_, _, _, (by assumption : Cell _ _ _ _ _), ?_⟩ | refine ⟨_, Or.inl (by assumption), ?_⟩ | refine ⟨_, _, _, Or.inl (by assumption), ?_⟩ | refine And.intro (ints_one _) ?_ | refine And.intro (by omega) ?_ | refine d1 ?_ | refine d2 ?_ | refine d3 ?_ | refine d4 ?_ | refine go G165 400 hC (by kernel_rfl) ?_); (conv => whnf)))
      refine ⟨es, ck, _, F, ⟨e1, keyStr, hO.r, isKeyStr _⟩, fun es' ck' hr' => ?_⟩
      have hm1 := ((hO.upd ιS_inj (x := txt (gl pts i)) hr').x (clock := ck') m3 b1).congr (fun s => setS_snoc _ _ s)
      have htk : (pts.take i).map txt ++ [txt (gl pts i)] = (pts.take (i + 1)).map txt := by rw [List.take_add_one, gl_get hlt]; simp
      rw [htk] at hm1
      ((try (conv => whnf)); repeat ((first | refine And.intro ?_ True.intro | refine And.intro ⟨by omega, by omega⟩ ?_ | refine ⟨_, (by assumption : RO.c _ _ _ = _), ?_⟩ | refine ⟨_, _, _, (by assumption : (_ : Option Obj) = _), ?_⟩ | refine ⟨_, _, _, (by assumption : RO.c _ _ _ = _), ?_⟩ | refine ⟨_, (by assumption : Row _ _ _ _), ?_⟩ | refine ⟨_, (by assumption : Cell _ _ _ _ _), ?_⟩ | refine ⟨_, _, _, (by assumption : Cell _ _ _ _ _), ?_⟩ | refine ⟨_, Or.inl (by assumption), ?_⟩ | refine ⟨_, _, _, Or.inl (by assumption), ?_⟩ | refine And.intro (ints_one _) ?_ | refine And.intro (by omega) ?_ | refine d1 ?_ | refine d2 ?_ | refine d3 ?_ | refine d4 ?_ | refine go G165 400 hC (by kernel_rfl) ?_); (conv => whnf)))
      exact halt ⟨i + 1, [(2, 2)], ⟨by simp [sinj], by repeat (first | exact trivial | refine ⟨rfl, ?_⟩ | refine ⟨⟨rfl, rfl⟩, ?_⟩ | refine ⟨⟨rfl, rfl, rfl⟩, ?_⟩ | refine ⟨stepI (by omega), ?_⟩ | refine ⟨by assumption, ?_⟩), by repeat (first | exact trivial | refine ⟨rfl, ?_⟩ | refine ⟨⟨rfl, rfl, rfl⟩, ?_⟩ | refine ⟨by assumption, ?_⟩)⟩, hle4.trans hle5, ⟨hlt, (hle3.trans hle4).trans hle5, hs.fresh f1 _, hm1, allS hn (by rw [okA, he, hcx]; rfl)⟩, by omega⟩
  · have hge : i = pts.length := by simp at hge; omega
    ((try (conv => whnf)); repeat ((first | refine And.intro ?_ True.intro | refine And.intro ⟨by omega, by omega⟩ ?_ | refine ⟨_, (by assumption : RO.c _ _ _ = _), ?_⟩ | refine ⟨_, _, _, (by assumption : (_ : Option Obj) = _), ?_⟩ | refine ⟨_, _, _, (by assumption : RO.c _ _ _ = _), ?_⟩ | refine ⟨_, (by assumption : Row _ _ _ _), ?_⟩ | refine ⟨_, (by assumption : Cell _ _ _ _ _), ?_⟩ | refine ⟨_, _, _, (by assumption : Cell _ _ _ _ _), ?_⟩ | refine ⟨_, Or.inl (by assumption), ?_⟩ | refine ⟨_, _, _, Or.inl (by assumption), ?_⟩ | refine And.intro (ints_one _) ?_ | refine And.intro (by omega) ?_ | refine d1 ?_ | refine d2 ?_ | refine d3 ?_ | refine d4 ?_ | refine go G165 400 hC (by kernel_rfl) ?_); (conv => whnf)))
    exact ⟨_, hs, by rw [mayA, allN_true (hge ▸ hn), Bool.and_true]; rw [hgood]; rfl, rfl⟩
end Go.Proofs.YtoefoaabnjeofaaGreat
