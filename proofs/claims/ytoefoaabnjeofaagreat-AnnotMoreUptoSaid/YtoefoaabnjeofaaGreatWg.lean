/- Proved here: AnnotMoreUptoSaid: the law AnnotMore returns true and leaves its arguments as they were, where what it reads is of bulk at most 1048576. Conditions: none beyond the statement's own. -/
import Derived.Test.YtoefoaabnjeofaaGreatWf
import Derived.Test.YtoefoaabnjeofaaGreatRows
import Derived.WalkKit
import Derived.ProofKit
import Derived.OpenShut
import Derived.JoinedCond
import Derived.Carry
set_option linter.unusedVariables false
set_option linter.unusedSimpArgs false
set_option linter.constructorNameAsVariable false
namespace Go.Proofs.YtoefoaabnjeofaaGreat
open Go.SX Go.ChangeShapes Go.WideShapes Go.ChangeAt Go.RowKit
set_option maxHeartbeats 2000000
/-- All cells of a world. -/
def rdW (W : World) : RO := ⟨fun b i => W.cell? ⟨b, i, none⟩, fun _ => none⟩
theorem rdW_on (W : World) : (rdW W).on W := ⟨fun _ _ _ e => e, fun _ _ e => by cases e⟩
theorem exists_list {α : Type} [Inhabited α] {p : Nat → α → Prop} : ∀ {n : Nat}, (∀ i, i < n → ∃ x, p i x) → ∃ l : List α, l.length = n ∧ ∀ i x, l[i]? = some x → p i x
  | 0, _ => ⟨[], rfl, fun i x e => by simp at e⟩
  | n + 1, h => by
    obtain ⟨l, hl, hp⟩ := exists_list (n := n) (p := p) fun i hi => h i (by omega)
    obtain ⟨x, hx⟩ := h n (by omega)
    refine ⟨l ++ [x], by simp [hl], fun i y e => ?_⟩
    by_cases hi : i < l.length
    · rw [List.getElem?_append_left hi] at e; exact hp i y e
    · rw [List.getElem?_append_right (by omega)] at e
      have : i - l.length = 0 := by
        by_cases h0 : i - l.length = 0
        · exact h0
        · rw [List.getElem?_eq_none (by simp; omega)] at e; cases e
      rw [this] at e; simp at e; subst e
      have : i = n := by omega
      subst this; exact hx
theorem plain_addr {W : World} {a : Addr} {v : Value} (h : W.cell? a = some v) : a = ⟨a.block, a.off, none⟩ := by
  obtain ⟨b, o, s⟩ := a
  cases s with
  | none => rfl
  | some x =>
    unfold World.cell? at h
    split at h
    · simp at h
    · cases h
theorem cells_one {W : World} {a : Addr} {n : Nat} {cs : List Value} (h : W.cells? 0 a n = some cs) {i : Nat} (hi : i < n) : ∃ v, cs[i]? = some v ∧ W.cell? (a.add i) = some v := by
  obtain ⟨_, hl, hc⟩ := World.cells?_some h
  have := hc i hi
  exact ⟨cs[i], by simp, by rw [this]; simp⟩
section
variable {H : Type} {enc : TypeId × Value → H} {P : Program} {W : World}
theorem bulk_one (d : DataW H) : 1 ≤ Rows.uptoBulk d := by
  cases d with
  | lit l => cases l <;> simp [Rows.uptoBulk]
  | nil => simp [Rows.uptoBulk]
  | ptr d => simp [Rows.uptoBulk]
  | slice elems spare => simp [Rows.uptoBulk]
  | agg parts => simp [Rows.uptoBulk]
  | iface t d => simp [Rows.uptoBulk]
  | map entries => simp [Rows.uptoBulk]
  | held h => simp [Rows.uptoBulk]
theorem bulk_part {d : DataW H} {l : List (DataW H)} (h : d ∈ l) : Rows.uptoBulk d ≤ Rows.uptoBulkAll l := by
  induction l with
  | nil => cases h
  | cons x r ih =>
    simp only [Rows.uptoBulkAll]
    rcases List.mem_cons.1 h with e | e
    · subst e; omega
    · have := ih e; omega
theorem bulk_len (l : List (DataW H)) : l.length ≤ Rows.uptoBulkAll l := by
  induction l with
  | nil => simp [Rows.uptoBulkAll]
  | cons x r ih => have := bulk_one x; simp only [Rows.uptoBulkAll, List.length_cons]; omega
/-- A slice, element by element. -/
theorem rd_slice {t e : TypeId} {fuel : Nat} {cs : List Value} {x : DataW H × List MemPlace} (ht : P.underlying t = some (.slice e)) (hp : 0 < P.cellsOf e)
    (h : DataW.trod enc P W 0 (fun _ => true) true fuel t cs = some x) (hb : Rows.uptoBulk x.1 ≤ 1048576) :
    ∃ a len cap, cs = [.slice a len cap] ∧ len ≤ cap ∧ len ≤ 1048576 ∧ ((len = 0 ∧ cap = 0) ∨ ∃ b off, a = some ⟨b, off, none⟩ ∧ ∀ i, i < len → ∃ us n y, us.length = P.cellsOf e ∧ (∀ j u, us[j]? = some u → (rdW W).c b (off + i * P.cellsOf e + j) = some u) ∧
      DataW.trod enc P W 0 (fun _ => true) true n e us = some y ∧ Rows.uptoBulk y.1 ≤ 1048576) := by
  rcases DataW.trod_slice ht h with ⟨rfl, _⟩ | ⟨a, len, cap, elems, rest, n, _, rfl, rfl, _, hl, _, hlen, hel, hsp, _⟩
  · exact ⟨none, 0, 0, rfl, Nat.le_refl _, by omega, .inl ⟨rfl, rfl⟩⟩
  · simp only [Rows.uptoBulk] at hb
    have hbl := bulk_len (elems.map (·.1))
    rw [List.length_map, hlen] at hbl
    refine ⟨some a, len, cap, rfl, hl, by omega, ?_⟩
    obtain ⟨hrl, hr⟩ := hsp rfl
    by_cases h0 : cap = 0
    · exact .inl ⟨by omega, h0⟩
    · have hex : ∃ us, W.cells? 0 a (P.cellsOf e) = some us := by
        have e0 : a.add 0 = a := by simp [Addr.add]
        by_cases hl0 : 0 < len
        · have := hel 0 hl0
          rw [List.getElem?_eq_getElem (by omega), Nat.zero_mul, e0] at this
          obtain ⟨us, hu, _⟩ := Option.bind_eq_some_iff.1 this
          exact ⟨us, hu⟩
        · have := hr 0 (by omega)
          rw [List.getElem?_eq_getElem (by omega), show len + 0 = 0 by omega, Nat.zero_mul, e0] at this
          obtain ⟨us, hu, _⟩ := Option.bind_eq_some_iff.1 this
          exact ⟨us, hu⟩
      obtain ⟨us0, hu0⟩ := hex
      obtain ⟨v0, _, hv0⟩ := cells_one hu0 hp
      have e0 : a.add 0 = a := by simp [Addr.add]
      rw [e0] at hv0
      have hpl := plain_addr hv0
      obtain ⟨b, o, s⟩ := a
      obtain rfl : s = none := by simpa using hpl
      refine .inr ⟨b, o, rfl, fun i hi => ?_⟩
      have hE := hel i hi
      rw [List.getElem?_eq_getElem (by omega), Go.WideShapes.add_plain] at hE
      obtain ⟨us, hu, hy⟩ := Option.bind_eq_some_iff.1 hE
      refine ⟨us, n, _, (World.cells?_some hu).2.1, fun j u hj => ?_, hy, ?_⟩
      · have hjl : j < P.cellsOf e := by
          have := (List.getElem?_eq_some_iff.1 hj).1
          rw [(World.cells?_some hu).2.1] at this; exact this
        obtain ⟨v, h1, h2⟩ := cells_one hu hjl
        rw [hj] at h1; cases h1
        rw [Go.WideShapes.add_plain] at h2
        exact h2
      · have : Rows.uptoBulk (elems[i]'(by omega)).1 ≤ Rows.uptoBulkAll (elems.map (·.1)) := bulk_part (List.mem_map_of_mem (List.getElem_mem _))
        omega
/-- A row, from its cells. -/
theorem row_of {a : Option Addr} {len cap sz : Nat} {vs : List Value} (hl : len ≤ cap) (hv : vs.length = len * sz)
    (hc : (len = 0 ∧ cap = 0) ∨ ∃ b off, a = some ⟨b, off, none⟩ ∧ ∀ i u, vs[i]? = some u → (rdW W).c b (off + i) = some u) : Row (rdW W) sz (.slice a len cap) vs :=
  ⟨a, len, cap, rfl, hv, hl, hc⟩
theorem rd_ints {t e : TypeId} {fuel : Nat} {cs : List Value} {x : DataW H × List MemPlace} (ht : P.underlying t = some (.slice e)) (he : P.underlying e = some (.int .i64)) (hc : P.cellsOf e = 1)
    (h : DataW.trod enc P W 0 (fun _ => true) true fuel t cs = some x) (hb : Rows.uptoBulk x.1 ≤ 1048576) : ∃ v l, cs = [v] ∧ IntS (rdW W) v l := by
  obtain ⟨a, len, cap, rfl, hl, hl2, hr⟩ := rd_slice ht (by omega) h hb
  rcases hr with ⟨rfl, rfl⟩ | ⟨b, off, rfl, hr⟩
  · exact ⟨_, [], rfl, ⟨a, 0, rfl, row_of (Nat.le_refl _) rfl (.inl ⟨rfl, rfl⟩)⟩, by simp, by simp⟩
  · obtain ⟨l, hll, hp⟩ := exists_list (α := Int) (n := len) (p := fun i z => (rdW W).c b (off + i) = some (.int .i64 z) ∧ R64 z) fun i hi => by
      obtain ⟨us, n, y, h1, h2, h3, h4⟩ := hr i hi
      obtain ⟨z, rfl, _, hw⟩ := DataW.trod_int he h3
      have := h2 0 _ rfl
      rw [hc] at this
      refine ⟨z, by simpa using this, ?_⟩
      simp [Lit.wf, IntKind.min, IntKind.max, IntKind.signed, IntKind.bits] at hw
      unfold R64; omega
    subst hll
    refine ⟨_, l, rfl, ⟨_, _, rfl, row_of hl (by simp [ints]) (.inr ⟨b, off, rfl, fun i u hu => ?_⟩)⟩, by omega, fun z hz => ?_⟩
    · simp only [ints, List.getElem?_map, Option.map_eq_some_iff] at hu
      obtain ⟨z, hz, rfl⟩ := hu
      exact (hp i z hz).1
    · obtain ⟨i, hi, rfl⟩ := List.getElem_of_mem hz
      exact (hp i _ (List.getElem?_eq_getElem hi)).2
theorem rd_lls {t t2 e : TypeId} {fuel : Nat} {cs : List Value} {x : DataW H × List MemPlace} (ht : P.underlying t = some (.slice t2)) (hc2 : P.cellsOf t2 = 1) (ht2 : P.underlying t2 = some (.slice e)) (he : P.underlying e = some (.int .i64)) (hc : P.cellsOf e = 1)
    (h : DataW.trod enc P W 0 (fun _ => true) true fuel t cs = some x) (hb : Rows.uptoBulk x.1 ≤ 1048576) : ∃ v ls, cs = [v] ∧ LLS (rdW W) v ls := by
  obtain ⟨a, len, cap, rfl, hl, hl2, hr⟩ := rd_slice ht (by omega) h hb
  rcases hr with ⟨rfl, rfl⟩ | ⟨b, off, rfl, hr⟩
  · exact ⟨_, [], rfl, ⟨a, 0, [], rfl, row_of (Nat.le_refl _) rfl (.inl ⟨rfl, rfl⟩), by simp⟩, by simp⟩
  · obtain ⟨l, hll, hp⟩ := exists_list (α := Value × List Int) (n := len) (p := fun i z => (rdW W).c b (off + i) = some z.1 ∧ IntS (rdW W) z.1 z.2) fun i hi => by
      obtain ⟨us, n, y, h1, h2, h3, h4⟩ := hr i hi
      obtain ⟨v, l, rfl, hi⟩ := rd_ints ht2 he hc h3 h4
      have := h2 0 _ rfl
      rw [hc2] at this
      exact ⟨(v, l), by simpa using this, hi⟩
    subst hll
    refine ⟨_, l.map (·.2), rfl, ⟨_, cap, l.map (·.1), by simp, row_of (by simpa using hl) (by simp) (.inr ⟨b, off, rfl, fun i u hu => ?_⟩), fun i z hz => ?_⟩, by simp; omega⟩
    · simp only [List.getElem?_map, Option.map_eq_some_iff] at hu
      obtain ⟨z, hz, rfl⟩ := hu
      exact (hp i z hz).1
    · simp only [List.getElem?_map, Option.map_eq_some_iff] at hz
      obtain ⟨y, hy, rfl⟩ := hz
      exact ⟨y.1, by simp [hy], (hp i y hy).2⟩
theorem bulk_agg {d : DataW H} {l : List (DataW H)} (h : d ∈ l) (hb : Rows.uptoBulk (.agg l) ≤ 1048576) : Rows.uptoBulk d ≤ 1048576 := by
  have := bulk_part h
  simp only [Rows.uptoBulk] at hb
  omega
def flP (l : List (Value × Int × List Int)) : List Value := l.flatMap fun z => [.int .i64 z.2.1, z.1]
theorem flP_len : ∀ l : List (Value × Int × List Int), (flP l).length = l.length * 2
  | [] => rfl
  | z :: r => by
    have := flP_len r
    simp only [flP, List.flatMap_cons, List.length_append, List.length_cons, List.length_nil] at this ⊢
    omega
theorem flP_get : ∀ (l : List (Value × Int × List Int)) (i : Nat), (flP l)[i * 2]? = (l[i]?).map (fun z => .int .i64 z.2.1) ∧ (flP l)[i * 2 + 1]? = (l[i]?).map (·.1)
  | [], i => by simp [flP]
  | z :: r, 0 => by simp [flP]
  | z :: r, i + 1 => by
    have := flP_get r i
    rw [show (i + 1) * 2 = i * 2 + 2 by omega]
    simpa [flP] using this
theorem rd_dep {t t2 e e2 : TypeId} {f0 f1 : Field} {fuel : Nat} {cs : List Value} {x : DataW H × List MemPlace} (ht : P.underlying t = some (.slice t2)) (hc2 : P.cellsOf t2 = 2) (ht2 : P.underlying t2 = some (.struct #[f0, f1]))
    (o0 : f0.offset = 0) (o1 : f1.offset = 1) (h0 : f0.type = e) (h1 : f1.type = e2) (he : P.underlying e = some (.int .i64)) (hc : P.cellsOf e = 1) (he2 : P.underlying e2 = some (.slice e)) (hce : P.cellsOf e2 = 1)
    (h : DataW.trod enc P W 0 (fun _ => true) true fuel t cs = some x) (hb : Rows.uptoBulk x.1 ≤ 1048576) : ∃ v ls, cs = [v] ∧ DepS (rdW W) v ls := by
  obtain ⟨a, len, cap, rfl, hl, hl2, hr⟩ := rd_slice ht (by omega) h hb
  rcases hr with ⟨rfl, rfl⟩ | ⟨b, off, rfl, hr⟩
  · exact ⟨_, [], rfl, ⟨a, 0, [], rfl, row_of (Nat.le_refl _) rfl (.inl ⟨rfl, rfl⟩), by simp⟩, by simp, by simp⟩
  · obtain ⟨l, hll, hp⟩ := exists_list (α := Value × Int × List Int) (n := len) (p := fun i z => (rdW W).c b (off + i * 2) = some (.int .i64 z.2.1) ∧ (rdW W).c b (off + i * 2 + 1) = some z.1 ∧ R64 z.2.1 ∧ IntS (rdW W) z.1 z.2.2) fun i hi => by
      obtain ⟨us, n, y, h1', h2, h3, h4⟩ := hr i hi
      obtain ⟨xs, n', _, hy, hul, hxl, hf⟩ := DataW.trod_struct ht2 h3
      have hxl : xs.length = 2 := hxl
      have g0 := hf 0 f0 rfl
      have g1 := hf 1 f1 rfl
      rw [List.getElem?_eq_getElem (by omega)] at g0 g1
      rw [h0, o0, hc] at g0
      rw [h1, o1, hce] at g1
      obtain ⟨z, hz, _, hw⟩ := DataW.trod_int he g0
      obtain ⟨v, l, hv, hi⟩ := rd_ints he2 he hc g1 (by
        subst hy
        exact bulk_agg (List.mem_map_of_mem (List.getElem_mem _)) h4)
      rw [hc2] at hul h1'
      match us, h1' with
      | [u0, u1], _ =>
        simp at hz hv
        subst hz; subst hv
        have c0 := h2 0 _ rfl
        have c1 := h2 1 _ rfl
        rw [hc2] at c0 c1
        refine ⟨(u1, z, l), by simpa using c0, c1, ?_, hi⟩
        simp [Lit.wf, IntKind.min, IntKind.max, IntKind.signed, IntKind.bits] at hw
        show R64 z
        unfold R64; omega
    subst hll
    refine ⟨_, l.map (·.2), rfl, ⟨_, cap, flP l, by simp, row_of (by simpa using hl) (by simp [flP_len]) (.inr ⟨b, off, rfl, fun i u hu => ?_⟩), fun i z hz => ?_⟩, by simp; omega, fun d hd => ?_⟩
    · have hg := flP_get l (i / 2)
      rcases Nat.mod_two_eq_zero_or_one i with e | e
      · rw [show i / 2 * 2 = i by omega, hu] at hg
        obtain ⟨z, hz, hzu⟩ := Option.map_eq_some_iff.1 hg.1.symm
        have := (hp (i / 2) z hz).1
        rw [show i / 2 * 2 = i by omega] at this
        rw [this, hzu]
      · rw [show i / 2 * 2 + 1 = i by omega, hu] at hg
        obtain ⟨z, hz, hzu⟩ := Option.map_eq_some_iff.1 hg.2.symm
        have := (hp (i / 2) z hz).2.1
        rw [show off + i / 2 * 2 + 1 = off + i by omega] at this
        rw [this, hzu]
    · simp only [List.getElem?_map, Option.map_eq_some_iff] at hz
      obtain ⟨y, hy, rfl⟩ := hz
      have hg := flP_get l i
      rw [hy] at hg
      exact ⟨hg.1, y.1, hg.2, (hp i y hy).2.2.2⟩
    · obtain ⟨z, hz, rfl⟩ := List.mem_map.1 hd
      obtain ⟨i, hi, rfl⟩ := List.getElem_of_mem hz
      exact (hp i _ (List.getElem?_eq_getElem hi)).2.2.1
theorem rd_dqbf {t tu te tc ti td : TypeId} {f0 f1 f2 g0 g1 : Field} {v : Value} {d : DataW H} {ps : List MemPlace} (ht : P.underlying t = some (.struct #[f0, f1, f2])) (hct : P.cellsOf t = 3)
    (o0 : f0.offset = 0) (o1 : f1.offset = 1) (o2 : f2.offset = 2) (y0 : f0.type = tu) (y1 : f1.type = te) (y2 : f2.type = tc)
    (cu : P.cellsOf tu = 1) (ce : P.cellsOf te = 1) (cc : P.cellsOf tc = 1) (hu : P.underlying tu = some (.slice ti)) (hi : P.underlying ti = some (.int .i64)) (ci : P.cellsOf ti = 1)
    (he : P.underlying te = some (.slice td)) (hd : P.underlying td = some (.struct #[g0, g1])) (cd : P.cellsOf td = 2) (p0 : g0.offset = 0) (p1 : g1.offset = 1) (q0 : g0.type = ti) (q1 : g1.type = tu) (hc : P.underlying tc = some (.slice tu))
    (hv : ∃ cs, v = .agg cs ∧ cs.size = 3) (h : DataW.Trod enc P W 0 (fun _ => true) true t v d ps) (hb : Rows.uptoBulk d ≤ 1048576) :
    ∃ u x w univ ex cls, v = .agg #[u, x, w] ∧ IntS (rdW W) u univ ∧ DepS (rdW W) x ex ∧ LLS (rdW W) w cls := by
  obtain ⟨cs, rfl, hsz⟩ := hv
  obtain ⟨fuel, h⟩ := h
  obtain ⟨xs, n', _, hy, hul, hxl, hf⟩ := DataW.trod_struct ht h
  have hxl : xs.length = 3 := hxl
  have k0 := hf 0 f0 rfl
  have k1 := hf 1 f1 rfl
  have k2 := hf 2 f2 rfl
  rw [List.getElem?_eq_getElem (by omega)] at k0 k1 k2
  rw [y0, o0, cu] at k0
  rw [y1, o1, ce] at k1
  rw [y2, o2, cc] at k2
  have hbb : ∀ i (hi : i < xs.length), Rows.uptoBulk (xs[i]).1 ≤ 1048576 := fun i hi => by
    have : d = .agg (xs.map (·.1)) := by cases hy; rfl
    subst this
    exact bulk_agg (List.mem_map_of_mem (List.getElem_mem _)) hb
  obtain ⟨v0, l0, e0, r0⟩ := rd_ints hu hi ci k0 (hbb _ _)
  obtain ⟨v1, l1, e1, r1⟩ := rd_dep he cd hd p0 p1 q0 q1 hi ci hu cu k1 (hbb _ _)
  obtain ⟨v2, l2, e2, r2⟩ := rd_lls hc cu hu hi ci k2 (hbb _ _)
  refine ⟨v0, v1, v2, l0, l1, l2, ?_, r0, r1, r2⟩
  obtain ⟨cl⟩ := cs
  match cl, hsz with
  | [a, b, c], _ =>
    simp [Value.cells] at e0 e1 e2
    rw [e0, e1, e2]
end
end Go.Proofs.YtoefoaabnjeofaaGreat
namespace Go.Proofs.YtoefoaabnjeofaaGreat
open Go.SX Go.ChangeShapes Go.WideShapes Go.ChangeAt Go.RowKit
set_option maxRecDepth 100000
set_option linter.all false
theorem tLaid : laidOutB Tryz.prog = true := by kernel_rfl
theorem trodAll_below {H : Type} {enc : TypeId × Value → H} {P : Program} {W W' : World} (hl : laidOutB P = true) (hb : Below W.heap.size W W') : ∀ {ts : List TypeId} {vs : List Value} {ds : List (DataW H)} {ps : List MemPlace},
    (∀ t ∈ ts, P.readableRec t = true ∧ t < P.types.size) → DataW.TrodAll enc P W 0 (fun _ => true) true ts vs ds ps → (∀ x ∈ ps, x.block < W.heap.size) → DataW.TrodAll enc P W' 0 (fun b => decide (b < W.heap.size)) true ts vs ds ps := by
  intro ts
  induction ts with
  | nil =>
    intro vs ds ps _ h _
    obtain ⟨rfl, rfl, rfl⟩ := trodAll_nil h
    exact trodAll_mk0
  | cons t ts ih =>
    intro vs ds ps hr h hlt
    obtain ⟨v, vs', d, ds', p, q, rfl, rfl, rfl, h1, h2⟩ := trodAll_cons h
    exact ⟨p, q, Below.trod hl (hr t (by simp)).1 (hr t (by simp)).2 h1 hb (fun x hx => hlt x (by simp [hx])), ih (fun t ht => hr t (by simp [ht])) h2 (fun x hx => hlt x (by simp [hx])), rfl⟩
/-- Arguments that stay. -/
theorem post_stay {H : Type} {enc : TypeId × Value → H} {P : Program} {f : Func} {s : ChangeSpec} {apart handsOn : Bool} {W W' : World} {args : Array Value} {v : Value} {ds gs : List (DataW H)} {before : List MemPlace}
    (hl : laidOutB P = true) (hr : ∀ t ∈ f.params.toList, P.readableRec t = true ∧ t < P.types.size) (hb : Below W.heap.size W W')
    (hW : DataW.Whole enc P f.params.toList s.vars apart W args.toList ds gs before) (hvs : s.vars = []) (hg : (s.fn H (ds ++ gs)).vars = []) (hsa : (s.fn H (ds ++ gs)).args = ds)
    (hres : DataW.TrodAll enc P W' W.heap.size (fun _ => false) handsOn f.resultTypes.toList (v.resultList f.resultTypes.size) (s.fn H (ds ++ gs)).results []) :
    s.post enc P f apart true handsOn false W args v W' := by
  have hlt := hW.lt
  obtain ⟨p, q, hA, hV, e, _⟩ := id hW
  rw [hvs] at hV
  obtain ⟨rfl, rfl⟩ := trodVars_none hV
  rw [List.append_nil] at e
  subst e
  refine ⟨ds, [], before, [], before, [], hW, hres, ?_, ?_, hb.frame _, fun h => by cases h⟩
  · rw [hsa]; exact trodAll_below hl hb hr hA hlt
  · rw [hvs, hg]; rfl
theorem step_below {W W' : World} {h h' : RO} {m' : Hp} (s : Step W h Hp.none W' h' m') : Below W.heap.size W W' := ⟨s.os, s.tape, s.output, s.size, fun k hk => s.same k hk rfl⟩
/-- A Dqbf among arguments. -/
theorem rdT_dqbf {H : Type} {enc : TypeId × Value → H} {W : World} {base : Nat} {v : Value} {d : DataW H} {ps : List MemPlace} (hval : Value.okWide Tryz.prog W .any base 26 v)
    (h : DataW.Trod enc Tryz.prog W 0 (fun _ => true) true 26 v d ps) (hb : Rows.uptoBulk d ≤ 1048576) : ∃ u x w univ ex cls, v = .agg #[u, x, w] ∧ IntS (rdW W) u univ ∧ DepS (rdW W) x ex ∧ LLS (rdW W) w cls := by
  refine rd_dqbf Tryz.underlying26 (by kernel_rfl) rfl rfl rfl rfl rfl rfl (by kernel_rfl) (by kernel_rfl) (by kernel_rfl) Tryz.underlying22 Tryz.underlying3 (by kernel_rfl) Tryz.underlying23 Tryz.underlying49 (by kernel_rfl) rfl rfl rfl rfl Tryz.underlying24 ?_ h hb
  unfold Value.okWide at hval
  rw [Tryz.underlying26] at hval
  obtain ⟨cs, rfl, hs, _⟩ := hval
  exact ⟨cs, rfl, hs.trans (by kernel_rfl)⟩
theorem rdT_lls {H : Type} {enc : TypeId × Value → H} {W : World} {base : Nat} {v : Value} {d : DataW H} {ps : List MemPlace} (hval : Value.okWide Tryz.prog W .any base 24 v)
    (h : DataW.Trod enc Tryz.prog W 0 (fun _ => true) true 24 v d ps) (hb : Rows.uptoBulk d ≤ 1048576) : ∃ ls, LLS (rdW W) v ls := by
  obtain ⟨fuel, h⟩ := h
  obtain ⟨u, ls, e, r⟩ := rd_lls Tryz.underlying24 (by kernel_rfl) Tryz.underlying22 Tryz.underlying3 (by kernel_rfl) h hb
  have hv1 : v.cells.toList = [v] := by
    cases v <;> simp [Value.okWide, Cell.okWide, Cell.ok, Tryz.underlying24, Value.cells] at hval ⊢
  rw [hv1] at e
  cases e
  exact ⟨ls, r⟩
end Go.Proofs.YtoefoaabnjeofaaGreat
namespace Go.Proofs.YtoefoaabnjeofaaGreat.annotMore
open Go.SX Go.ChangeShapes Go.WideShapes Go.ChangeAt Go.RowKit
set_option linter.unusedVariables false
set_option maxRecDepth 100000
theorem own : ownKnob Tryz.prog.godebug = none := by kernel_rfl
theorem tReads : ∀ t ∈ Tryz.f4.params.toList, Tryz.prog.readableRec t = true ∧ t < Tryz.prog.types.size := by
  rw [Tryz.params4]
  intro t ht
  simp at ht
  rcases ht with rfl | rfl | rfl
  · exact ⟨by kernel_rfl, of_decide_eq_true (by kernel_rfl)⟩
  · exact ⟨by kernel_rfl, of_decide_eq_true (by kernel_rfl)⟩
  · exact ⟨by kernel_rfl, of_decide_eq_true (by kernel_rfl)⟩
theorem contract (H : Type) (enc : TypeId × Value → H) (W : World) (base : Nat) (args : Array Value) (ds gs : List (DataW H)) (before : List MemPlace) (hk : Rows.uptoSmall H (ds ++ gs) = true)
    (hval : ∀ (j : Nat) t v, Tryz.f4.params[j]? = some t → args[j]? = some v → Value.okWide Tryz.prog W .any base t v)
    (hW : DataW.Whole enc Tryz.prog Tryz.f4.params.toList Rows.annotMoreSpec.vars false W args.toList ds gs before) :
    Calls Tryz.prog 4 args W fun e W' => ∃ v, e = .returned v ∧ Rows.annotMoreSpec.post enc Tryz.prog Tryz.f4 false true false false W args v W' := by
  have hW' := hW
  obtain ⟨p, q, hA0, hV, rfl, hfz, hnd⟩ := hW
  obtain ⟨rfl, rfl⟩ := trodVars_none hV
  have hA : DataW.TrodAll enc Tryz.prog W 0 (fun _ => true) true Tryz.f4.params.toList args.toList ds p := hA0
  rw [Tryz.params4] at hA hval
  obtain ⟨v0, vs0, d0, ds0, p0, q0, hargs, rfl, rfl, h0, r0⟩ := trodAll_cons hA
  obtain ⟨v1, vs1, d1, ds1, p1, q1, rfl, rfl, rfl, h1, r1⟩ := trodAll_cons r0
  obtain ⟨v2, vs2, d2, ds2, p2, q2, rfl, rfl, rfl, h2, r2⟩ := trodAll_cons r1
  obtain ⟨rfl, rfl, rfl⟩ := trodAll_nil r2
  obtain rfl : args = #[v0, v1, v2] := by cases args; simp_all
  have hbk : Rows.uptoBulkAll (d0 :: d1 :: [d2] ++ []) ≤ 1048576 := of_decide_eq_true hk
  have hb0 : Rows.uptoBulk d0 ≤ 1048576 := Nat.le_trans (bulk_part (by simp)) hbk
  have hb1 : Rows.uptoBulk d1 ≤ 1048576 := Nat.le_trans (bulk_part (by simp)) hbk
  obtain ⟨u, x, w, univ, ex, cls, rfl, ha, hb, hc⟩ := rdT_dqbf (hval 0 _ _ rfl rfl) h0 hb0
  obtain ⟨pts, hp⟩ := rdT_lls (hval 1 _ _ rfl rfl) h1 hb1
  obtain ⟨n, rfl, rfl, rfl, w2⟩ := open_int Tryz.underlying5 (hval 2 _ _ rfl rfl) h2
  have hn : 0 ≤ n ∧ n ≤ 255 := by simpa [Lit.wf, IntKind.min, IntKind.max, IntKind.signed, IntKind.bits] using w2
  refine ((more_spec (m := Hp.none) ha hb hc hp hn).run W (rdW_on W) (fun _ _ e => by cases e) ⟨fun _ _ _ _ => rfl, fun _ _ _ => rfl⟩).mono ?_
  rintro e W' ⟨h', m', hS, rfl, rfl⟩
  exact ⟨_, rfl, post_stay tLaid tReads (step_below hS) hW' rfl rfl rfl (trodAll_cons_mk (shut_bool Tryz.underlying4 _) trodAll_mk0)⟩
theorem lifted (os : Os) (started : os.Started) (H : Type) (enc : TypeId × Value → H) (F : Stop.Interp) :
    ReturnsInHanded {} Tryz.checked os 4 .any ((Rows.OpenSpec.upto Rows.annotMoreSpec).pre6 enc Tryz.prog Tryz.f4 Rows.annotMoreUptoRow.domain false) (((Rows.OpenSpec.upto Rows.annotMoreSpec).at F).post enc Tryz.prog Tryz.f4 false true false false) := by
  refine returnsInHanded_of_cond (C := Tryz.checked) (s := Rows.OpenSpec.upto Rows.annotMoreSpec) (k := Rows.uptoSmall) rfl own started (by kernel_rfl) Tryz.func4
    (OpenSpec.witness (enc := enc) (C := Tryz.checked) (s := Rows.OpenSpec.upto Rows.annotMoreSpec) (k := Rows.uptoSmall) rfl false ⟨#[], #[.agg #[.slice none 0 0, .slice none 0 0, .slice none 0 0], .slice none 0 0, .int .u8 0], []⟩ 8 (by kernel_rfl) (by kernel_rfl) (by kernel_rfl)
      (x := ([.agg [.nil, .nil, .nil], .nil, .lit (.int .u8 0)], [], [])) (by kernel_rfl) rfl (by kernel_rfl)) ?_
  intro W base args ds gs before hval hW _ hk _
  exact contract H enc W base args ds gs before hk hval hW
theorem k10 : Rows.annotMoreUptoRow.inPlace = Tryz.prog.inPlace 4 := by kernel_rfl
theorem k11 : Rows.annotMoreUptoRow.unfollowed = Tryz.prog.unfollowed 4 := by kernel_rfl
theorem k12 : Rows.annotMoreUptoRow.recurses = Tryz.prog.recurses 4 := by kernel_rfl
theorem k13 : Rows.annotMoreUptoRow.named = Tryz.prog.varsNamed 4 := by kernel_rfl
theorem closed : joinedFacts Tryz.prog 4 Tryz.f4 (Rows.OpenSpec.upto Rows.annotMoreSpec).bare Rows.annotMoreUptoRow = true := by
  unfold joinedFacts
  rw [← k10, ← k11, ← k12, ← k13, tLaid]
  kernel_rfl
theorem over : Rows.annotMoreUptoRow.holds Tryz.pinned (Rows.OpenSpec.upto Rows.annotMoreSpec) :=
  OpenClaim.holds_of_cond 4 Tryz.f4 rfl rfl rfl rfl rfl rfl rfl ⟨rfl, rfl, rfl, rfl, rfl⟩ rfl rfl rfl rfl rfl (by kernel_rfl) Tryz.func4 closed
    (of_decide_eq_true (by kernel_rfl)) (by unfold Func.isWrapper; first | (rw [if_pos (by decide +kernel)]; kernel_rfl) | (rw [if_neg (by decide +kernel)]; exact ⟨rfl, rfl⟩))
    (fun os started H enc _ F => lifted os started H enc F)
theorem proved : Rows.AnnotMoreUptoSaid := over
end Go.Proofs.YtoefoaabnjeofaaGreat.annotMore
