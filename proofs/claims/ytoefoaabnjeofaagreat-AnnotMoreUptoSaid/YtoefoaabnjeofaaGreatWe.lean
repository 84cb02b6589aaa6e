/- Proved here: contracts of annot.Strat and what it calls. Conditions: none beyond the statement's own. -/
import Derived.Test.YtoefoaabnjeofaaGreatWd
import Derived.WalkKit
import Derived.IntWalk
set_option linter.unusedVariables false
set_option linter.unusedSimpArgs false
set_option linter.constructorNameAsVariable false
namespace Go.Proofs.YtoefoaabnjeofaaGreat
open Go.SX Go.Sort
set_option maxHeartbeats 4000000
set_option maxRecDepth 20000
/-- Ints that are small enough for a difference. -/
abbrev SmI := { x : Int // -1000000000000 ≤ x ∧ x ≤ 1000000000000 }
instance : Inhabited SmI := ⟨⟨0, by decide⟩⟩
def encI (x : SmI) : Value := .int .i64 x.1
def arrI (l : List Int) (h : ∀ x ∈ l, -1000000000000 ≤ x ∧ x ≤ 1000000000000) : Array SmI := (l.attach.map fun x => (⟨x.1, h x.1 x.2⟩ : SmI)).toArray
theorem arrI_size (l : List Int) (h) : (arrI l h).size = l.length := by simp [arrI]
theorem arrI_val (l : List Int) (h) : (arrI l h).toList.map (·.1) = l := by simp [arrI]
theorem arrI_enc (l : List Int) (h) : (arrI l h).toList.map encI = ints l := by
  have : (arrI l h).toList.map encI = ((arrI l h).toList.map (·.1)).map (.int .i64) := by rw [List.map_map]; rfl
  rw [this, arrI_val]; rfl
/-- slices.SortFunc over ints that may be changed. -/
theorem sortFunc_spec {g : Nat} {cb : Array Value} {cf : SmI → SmI → Int} (lt : Int → Int → Bool) (hlt : ∀ x y : SmI, ltOf cf x y = lt x.1 y.1) (hO : SWO (ltOf cf)) (eg : ∀ args w, (callFunc g args).run Tryz.prog w = .ok (.enter g args) w)
    (hcmp : ∀ (x y : SmI) (w : World), Calls Tryz.prog g (#[encI x, encI y] ++ cb) w fun e w' => e = .returned (.int .i64 (cf x y)) ∧ ∃ q, w' = w.drewN q)
    {h : RO} {m : Hp} {blk cap : Nat} {raw : List Int} (hr : MRow m 3 1 (.slice (some ⟨blk, 0, none⟩) raw.length cap) raw.length (ints raw)) (hs : ∀ x ∈ raw, -1000000000000 ≤ x ∧ x ≤ 1000000000000) (hlen : raw.length ≤ 17592186044416) :
    Con Tryz.prog 183 [.slice (some ⟨blk, 0, none⟩) raw.length cap, .func (.func g) #[] cb] h m fun e h' m' => e = .returned (.tuple #[]) ∧ h' = h ∧
      ∃ l o, l.Perm raw ∧ (l.Pairwise fun a b => lt b a = false) ∧ m' = m.set blk o ∧ MRow m' 3 1 (.slice (some ⟨blk, 0, none⟩) raw.length cap) raw.length (ints l) := by
  rcases hr.2 with ⟨e, _⟩ | ⟨b, cp, cur, e, hb, h3, h4, h5, h6⟩
  · cases e
  cases e
  have hl : raw.length ≤ cur.size := by omega
  have hd : cur.toList.take (arrI raw hs).size = (arrI raw hs).toList.map encI := by rw [arrI_size, arrI_enc]; rw [Nat.mul_one] at h6; exact h6
  have := sort_con Tryz.sortInt encI (fun _ => rfl) cf hO g cb eg hcmp (h := h) (cap := cap) hb (arrI raw hs) hd (by rw [arrI_size]; omega)
  rw [arrI_size] at this
  refine Con.mono this ?_
  rintro _ h' m' - ⟨rfl, rfl, d', hd1, hd2, hd3, rfl⟩
  refine ⟨rfl, rfl, d'.toList.map (·.1), _, ?_, ?_, rfl, ⟨?_, .inr ⟨blk, cap, _, rfl, Hp.set_eq, h3, h4, ?_, ?_⟩⟩⟩
  · have := hd2.map (·.1)
    rwa [arrI_val] at this
  · rw [List.pairwise_map, List.pairwise_iff_getElem]
    intro i j hi hj hij
    have h7 := hd3 i j hij (by simpa [hd1] using hj)
    rw [hlt] at h7
    have e1 : d'[i]! = d'[i]'(by simpa using hi) := getElem!_pos d' i (by simpa using hi)
    have e2 : d'[j]! = d'[j]'(by simpa using hj) := getElem!_pos d' j (by simpa using hj)
    rw [e1, e2] at h7
    simpa using h7
  · simp [ints, hd1]
  · simp [hd1]; omega
  · have : (d'.toList.map encI).length = raw.length * 1 := by simp [hd1]
    rw [List.toList_toArray, List.take_left' this]
    have : d'.toList.map encI = (d'.toList.map (·.1)).map (.int .i64) := by rw [List.map_map]; rfl
    exact this

/-! ### the comparison by variables -/
def cfA (x y : SmI) : Int := IntKind.i64.wrap (pabs x.1 - pabs y.1)
theorem pabs_sm (x : SmI) : pabs x.1 = abs64 x.1 := by
  have := x.2
  unfold pabs abs64
  rw [w64 (by omega) (by omega)]
  split <;> omega
theorem cfA_lt (x y : SmI) : ltOf cfA x y = decide (abs64 x.1 < abs64 y.1) := by
  have hx := x.2
  have hy := y.2
  have h1 := abs64_nat hx
  have h2 := abs64_nat hy
  unfold ltOf cfA
  rw [pabs_sm, pabs_sm]
  have : IntKind.i64.wrap (abs64 x.1 - abs64 y.1) = abs64 x.1 - abs64 y.1 := by
    rw [w64] <;> (rw [h1, h2]; split <;> split <;> omega)
  rw [this]
  rw [decide_eq_decide]; omega
theorem cfA_swo : SWO (ltOf cfA) where
  irrefl x := by rw [cfA_lt]; simp
  trans x y z := by rw [cfA_lt, cfA_lt, cfA_lt]; simp; omega
  ntrans x y z := by rw [cfA_lt, cfA_lt, cfA_lt]; simp; omega
theorem at1_calls (x y : Int) (w : World) : Calls Tryz.prog 184 #[.int .i64 x, .int .i64 y] w fun e w' => e = .returned (.int .i64 (IntKind.i64.wrap (pabs x - pabs y))) ∧ ∃ q, w' = w.drewN q := by
  go_enter Tryz.func184, Tryz.ntmps184
  go_wp2
  go_ret
  refine ⟨?_, 0, rfl⟩
  have hw : ∀ n, RowKit.wrap64 n = IntKind.i64.wrap n := fun n => (Go.IntWalk.i64_left n).symm
  show Ending.returned (.int .i64 (RowKit.wrap64 (max x (RowKit.wrap64 (-x)) - max y (RowKit.wrap64 (-y))))) = _
  rw [hw, hw, hw, pabs, pabs, Int.zero_sub, Int.zero_sub]
theorem at1_enters : ∀ args w, (callFunc 184 args).run Tryz.prog w = .ok (.enter 184 args) w := enters_of Tryz.func184 (by kernel_rfl) rfl
theorem at1_cmp (x y : SmI) (w : World) : Calls Tryz.prog 184 (#[encI x, encI y] ++ #[]) w fun e w' => e = .returned (.int .i64 (cfA x y)) ∧ ∃ q, w' = w.drewN q := at1_calls x.1 y.1 w
theorem sortA_spec {h : RO} {m : Hp} {blk cap : Nat} {raw : List Int} (hr : MRow m 3 1 (.slice (some ⟨blk, 0, none⟩) raw.length cap) raw.length (ints raw)) (hs : ∀ x ∈ raw, -1000000000000 ≤ x ∧ x ≤ 1000000000000) (hlen : raw.length ≤ 17592186044416) :
    Con Tryz.prog 183 [.slice (some ⟨blk, 0, none⟩) raw.length cap, .func (.func 184) #[] #[]] h m fun e h' m' => e = .returned (.tuple #[]) ∧ h' = h ∧
      ∃ l o, l.Perm raw ∧ (l.Pairwise fun a b => decide (abs64 b < abs64 a) = false) ∧ m' = m.set blk o ∧ MRow m' 3 1 (.slice (some ⟨blk, 0, none⟩) raw.length cap) raw.length (ints l) :=
  sortFunc_spec (fun a b => decide (abs64 a < abs64 b)) cfA_lt cfA_swo at1_enters at1_cmp hr hs hlen
end Go.Proofs.YtoefoaabnjeofaaGreat
namespace Go.Proofs.YtoefoaabnjeofaaGreat
open Go.SX Go.Sort
set_option maxHeartbeats 4000000
set_option maxRecDepth 20000
/-- The dependencies of variables, as a map. -/
structure OnM (h : RO) (F : Value → Option Value) (ex : List Cp) : Prop where
  some : ∀ v y, ex.find? (fun z => z.1 == v) = some y → ∃ u, F (.int .i64 v) = some u ∧ IntS h u y.2
  none : ∀ v, ex.find? (fun z => z.1 == v) = none → F (.int .i64 v) = none
theorem OnM.mono {h h' : RO} {F : Value → Option Value} {ex : List Cp} (r : OnM h F ex) (hl : h.le h') : OnM h' F ex :=
  ⟨fun v y e => let ⟨u, a, b⟩ := r.some v y e; ⟨u, a, b.mono hl⟩, r.none⟩
theorem pabs_lit {x : Int} (h : -65536 ≤ x ∧ x ≤ 65536) : max x (IntKind.i64.wrap (0 - x)) = abs64 x := pabs_eq h.1 h.2
def G98 : Gv := ⟨[16,53], [], []⟩
def G98r : Gv := ⟨[16,53], [], [(8, .one 0 (.one 1 (.one 2 (.one 3 (.one 4 (.one 5 (.one 6 (.fork 7 (.fork 8 (.one 9 (.fork 10 (.one 11 (.nil)) .stop)) .stop) .stop))))))))]⟩
theorem at_spec {u v : Value} {xb bm bon : Nat} {c p : List Int} {l ex : List Cp} {es : Array MapEntry} {ek : Nat} {F : Value → Option Value} {h : RO} {m : Hp} (hx : h.c xb 3 = some (.map (some bm))) (hnum : MapR KA ιA h Hp.none bm (numF l))
    (hc : IntS h u c) (hp : IntS h v p) (hon : m bon = some (.map es ek)) (hr : MRep IK es F) (hF : OnM h F ex)
    (hnc : normal c = true) (hm : ∀ y ∈ ex, cpAt p y ∈ l) (hlit : ∀ x ∈ l, Lit16 x.2) (hlp : Lit16 p) (hl : l.length ≤ 1000000) (hcl : c.length ≤ 1000000) (hpl : p.length ≤ 1000000) (hasc : ∀ y ∈ ex, Asc y.2) :
    Con Tryz.prog 98 [.pointer (some ⟨xb, 0, none⟩), u, v, .map (some bon)] h m fun e h' m' => (∃ s, e = .returned s ∧ IntS h' s (clC l ex p c)) ∧ m' = m := by
  obtain ⟨a, ca, rfl, -⟩ := hc.s
  have hla := hc.len
  have hnc1 := (normal_iff.1 hnc).1
  refine Con.drop ?_
  refine fn_of (nt := 58) T Tryz.func98 rfl (by kernel_rfl) Tryz.ntmps98 (by simp) T_ok T_mixed fun C hC => ?_
  simp only [Tryz.f98, argFr, Nat.zero_add, Nat.reduceAdd] at hC ⊢
  ((try (conv => whnf)); repeat ((first | refine And.intro ?_ True.intro | refine And.intro ⟨by omega, by omega⟩ ?_ | refine ⟨_, (by assumption : RO.c _ _ _ = _), ?_⟩ | refine ⟨_, _, _, (by assumption : (_ : Option Obj) = _), ?_⟩ | refine ⟨_, _, _, (by assumption : RO.c _ _ _ = _), ?_⟩ | refine ⟨_, (by assumption : Row _ _ _ _), ?_⟩ | refine ⟨_, (by assumption : Cell _ _ _ _ _), ?_⟩ | refine ⟨_, _, _, (by assumption : Cell _ _ _ _ _), ?_⟩ | refine ⟨_, Or.inl (by assumption), ?_⟩ | refine ⟨_, _, _, Or.inl (by assumption), ?_⟩ | refine And.intro (ints_one _) ?_ | refine And.intro (by omega) ?_ | refine d1 ?_ | refine d2 ?_ | refine d3 ?_ | refine d4 ?_ | refine go G98 400 hC (by kernel_rfl) ?_); (conv => whnf)))
  intro b0 f1 f2 f3
  ((try (conv => whnf)); repeat ((first | refine And.intro ?_ True.intro | refine And.intro ⟨by omega, by omega⟩ ?_ | refine ⟨_, (by assumption : RO.c _ _ _ = _), ?_⟩ | refine ⟨_, _, _, (by assumption : (_ : Option Obj) = _), ?_⟩ | refine ⟨_, _, _, (by assumption : RO.c _ _ _ = _), ?_⟩ | refine ⟨_, (by assumption : Row _ _ _ _), ?_⟩ | refine ⟨_, (by assumption : Cell _ _ _ _ _), ?_⟩ | refine ⟨_, _, _, (by assumption : Cell _ _ _ _ _), ?_⟩ | refine ⟨_, Or.inl (by assumption), ?_⟩ | refine ⟨_, _, _, Or.inl (by assumption), ?_⟩ | refine And.intro (ints_one _) ?_ | refine And.intro (by omega) ?_ | refine d1 ?_ | refine d2 ?_ | refine d3 ?_ | refine d4 ?_ | refine go G98 400 hC (by kernel_rfl) ?_); (conv => whnf)))
  refine halt (sx_loopK (X := Nat × Value) [0, 2, 3, 17, 18] (fun x => [(9, .v x.2), (19, .v (.int .i64 x.1))]) (fun _ => [])
    (fun x h' m' => x.1 ≤ c.length ∧ h.le h' ∧ m.sub m' ∧ MRow m' 3 1 x.2 ((c.take x.1).filterMap (litC l ex p)).length (ints ((c.take x.1).filterMap (litC l ex p))) ∧ (∃ g, x.2.ownBlock = some g) ∧ ∀ g, x.2.ownBlock = some g → m g = none) (fun x => c.length - x.1) (0, .slice (some ⟨b0, 0, none⟩) 0 0) (by repeat (first | exact Keep.nil | apply Keep.cons rfl | apply Keep.skip rfl)) ⟨[], ⟨by simp [sinj], by repeat (first | exact trivial | refine ⟨rfl, ?_⟩ | refine ⟨⟨rfl, rfl⟩, ?_⟩ | refine ⟨⟨rfl, rfl, rfl⟩, ?_⟩ | refine ⟨stepI (by omega), ?_⟩ | refine ⟨by assumption, ?_⟩), by repeat (first | exact trivial | refine ⟨rfl, ?_⟩ | refine ⟨⟨rfl, rfl, rfl⟩, ?_⟩ | refine ⟨by assumption, ?_⟩)⟩⟩
    ⟨by simp, RO.le.refl _, (Hp.sub.refl _).fresh f1 _, ⟨rfl, .inr ⟨b0, 0, #[], rfl, Hp.set_eq, Nat.le_refl _, by decide, rfl, rfl⟩⟩, ⟨b0, rfl⟩, fun g e => by simp [Value.ownBlock] at e; subst e; exact f1⟩ ?_)
  rintro ⟨i, vo⟩ h2 m2 - ⟨hi, hle2, hs2, hrow, hsome, hown⟩
  dsimp only at hi hrow hsome hown ⊢
  obtain ⟨va, vk, rfl⟩ := hrow.sl
  ((try (conv => whnf)); repeat ((first | refine And.intro ?_ True.intro | refine And.intro ⟨by omega, by omega⟩ ?_ | refine ⟨_, (by assumption : RO.c _ _ _ = _), ?_⟩ | refine ⟨_, _, _, (by assumption : (_ : Option Obj) = _), ?_⟩ | refine ⟨_, _, _, (by assumption : RO.c _ _ _ = _), ?_⟩ | refine ⟨_, (by assumption : Row _ _ _ _), ?_⟩ | refine ⟨_, (by assumption : Cell _ _ _ _ _), ?_⟩ | refine ⟨_, _, _, (by assumption : Cell _ _ _ _ _), ?_⟩ | refine ⟨_, Or.inl (by assumption), ?_⟩ | refine ⟨_, _, _, Or.inl (by assumption), ?_⟩ | refine And.intro (ints_one _) ?_ | refine And.intro (by omega) ?_ | refine d1 ?_ | refine d2 ?_ | refine d3 ?_ | refine d4 ?_ | refine go G98 400 hC (by kernel_rfl) ?_); (conv => whnf)))
  refine ⟨fun hlt => ?_, fun hge => ?_⟩
  · have hlt : i < c.length := by simpa using hlt
    obtain ⟨q, o, rfl, hcc⟩ := hc.get hlt
    have c1 := hle2.c _ _ _ (hcc i hlt)
    have hgl := hnc1 _ (g_mem hlt)
    have hpa := pabs_lit (x := g c i) (by omega)
    have htk : (c.take (i + 1)).filterMap (litC l ex p) = (c.take i).filterMap (litC l ex p) ++ (litC l ex p (g c i)).toList := by
      rw [List.take_add_one, g_get hlt, List.filterMap_append]
      cases h : litC l ex p (g c i) <;> simp [h]
    have hln : ((c.take i).filterMap (litC l ex p)).length ≤ 1000000 := Nat.le_trans (List.length_filterMap_le _ _) (by simp; omega)
    ((try (conv => whnf)); repeat ((first | refine And.intro ?_ True.intro | refine And.intro ⟨by omega, by omega⟩ ?_ | refine ⟨_, (by assumption : RO.c _ _ _ = _), ?_⟩ | refine ⟨_, _, _, (by assumption : (_ : Option Obj) = _), ?_⟩ | refine ⟨_, _, _, (by assumption : RO.c _ _ _ = _), ?_⟩ | refine ⟨_, (by assumption : Row _ _ _ _), ?_⟩ | refine ⟨_, (by assumption : Cell _ _ _ _ _), ?_⟩ | refine ⟨_, _, _, (by assumption : Cell _ _ _ _ _), ?_⟩ | refine ⟨_, Or.inl (by assumption), ?_⟩ | refine ⟨_, _, _, Or.inl (by assumption), ?_⟩ | refine And.intro (ints_one _) ?_ | refine And.intro (by omega) ?_ | refine d1 ?_ | refine d2 ?_ | refine d3 ?_ | refine d4 ?_ | refine go G98 400 hC (by kernel_rfl) ?_); (conv => whnf)))
    refine ⟨es, ek, _, F, ⟨.inl (hs2 _ _ hon), keyInt, hr, isIK _⟩, ?_⟩
    cases hfy : ex.find? (fun z => z.1 == abs64 (g c i)) with
    | none =>
      have e1 : F (.int .i64 (max (g c i) (IntKind.i64.wrap (0 - g c i)))) = none := by rw [hpa]; exact hF.none _ hfy
      have e2 : litC l ex p (g c i) = none := by rw [litC, hfy]
      erw [e1]
      ((try (conv => whnf)); repeat ((first | refine And.intro ?_ True.intro | refine And.intro ⟨by omega, by omega⟩ ?_ | refine ⟨_, (by assumption : RO.c _ _ _ = _), ?_⟩ | refine ⟨_, _, _, (by assumption : (_ : Option Obj) = _), ?_⟩ | refine ⟨_, _, _, (by assumption : RO.c _ _ _ = _), ?_⟩ | refine ⟨_, (by assumption : Row _ _ _ _), ?_⟩ | refine ⟨_, (by assumption : Cell _ _ _ _ _), ?_⟩ | refine ⟨_, _, _, (by assumption : Cell _ _ _ _ _), ?_⟩ | refine ⟨_, Or.inl (by assumption), ?_⟩ | refine ⟨_, _, _, Or.inl (by assumption), ?_⟩ | refine And.intro (ints_one _) ?_ | refine And.intro (by omega) ?_ | refine d1 ?_ | refine d2 ?_ | refine d3 ?_ | refine d4 ?_ | refine go G98 400 hC (by kernel_rfl) ?_); (conv => whnf)))
      refine halt ⟨(i + 1, .slice va ((c.take i).filterMap (litC l ex p)).length vk), [], ⟨by simp [sinj], by repeat (first | exact trivial | refine ⟨rfl, ?_⟩ | refine ⟨⟨rfl, rfl⟩, ?_⟩ | refine ⟨⟨rfl, rfl, rfl⟩, ?_⟩ | refine ⟨stepI (by omega), ?_⟩ | refine ⟨by assumption, ?_⟩), by repeat (first | exact trivial | refine ⟨rfl, ?_⟩ | refine ⟨⟨rfl, rfl, rfl⟩, ?_⟩ | refine ⟨by assumption, ?_⟩)⟩, RO.le.refl _, ⟨hlt, hle2, hs2, ?_, hsome, hown⟩, by dsimp only; omega⟩
      dsimp only
      rw [htk, e2]; simpa using hrow
    | some y =>
      have hy := List.mem_of_find?_eq_some hfy
      have hy1 : y.1 = abs64 (g c i) := by simpa using List.find?_some hfy
      obtain ⟨yu, e0, hyi⟩ := hF.some _ _ hfy
      obtain ⟨ya, yc, rfl, -⟩ := hyi.s
      have e1 : F (.int .i64 (max (g c i) (IntKind.i64.wrap (0 - g c i)))) = some (.slice ya y.2.length yc) := by rw [hpa]; exact e0
      have hnp := numC_pos (hm y hy)
      have e2 : litC l ex p (g c i) = some (if g c i < 0 then -(numC l (cpAt p y) : Int) else numC l (cpAt p y)) := by rw [litC, hfy]
      erw [e1]
      ((try (conv => whnf)); repeat ((first | refine And.intro ?_ True.intro | refine And.intro ⟨by omega, by omega⟩ ?_ | refine ⟨_, (by assumption : RO.c _ _ _ = _), ?_⟩ | refine ⟨_, _, _, (by assumption : (_ : Option Obj) = _), ?_⟩ | refine ⟨_, _, _, (by assumption : RO.c _ _ _ = _), ?_⟩ | refine ⟨_, (by assumption : Row _ _ _ _), ?_⟩ | refine ⟨_, (by assumption : Cell _ _ _ _ _), ?_⟩ | refine ⟨_, _, _, (by assumption : Cell _ _ _ _ _), ?_⟩ | refine ⟨_, Or.inl (by assumption), ?_⟩ | refine ⟨_, _, _, Or.inl (by assumption), ?_⟩ | refine And.intro (ints_one _) ?_ | refine And.intro (by omega) ?_ | refine d1 ?_ | refine d2 ?_ | refine d3 ?_ | refine d4 ?_ | refine go G98 400 hC (by kernel_rfl) ?_); (conv => whnf)))
      refine halt (sx_cutB (X := Unit) [0, 2, 3, 9, 11, 17, 18, 19] [] (fun _ => [(15, .v (.int .i64 (numC l (cpAt p y))))]) (fun _ => []) (fun _ h' m' => m' = m2) (by repeat (first | exact Keep.nil | apply Keep.cons rfl | apply Keep.skip rfl)) (by repeat (first | exact KeepB.nil | apply KeepB.cons rfl)) ?_ ?_)
      · have hx2 := hle2.c _ _ _ hx
        ((try (conv => whnf)); repeat ((first | refine And.intro ?_ True.intro | refine And.intro ⟨by omega, by omega⟩ ?_ | refine ⟨_, (by assumption : RO.c _ _ _ = _), ?_⟩ | refine ⟨_, _, _, (by assumption : (_ : Option Obj) = _), ?_⟩ | refine ⟨_, _, _, (by assumption : RO.c _ _ _ = _), ?_⟩ | refine ⟨_, (by assumption : Row _ _ _ _), ?_⟩ | refine ⟨_, (by assumption : Cell _ _ _ _ _), ?_⟩ | refine ⟨_, _, _, (by assumption : Cell _ _ _ _ _), ?_⟩ | refine ⟨_, Or.inl (by assumption), ?_⟩ | refine ⟨_, _, _, Or.inl (by assumption), ?_⟩ | refine And.intro (ints_one _) ?_ | refine And.intro (by omega) ?_ | refine d1 ?_ | refine d2 ?_ | refine d3 ?_ | refine d4 ?_ | refine go G98r 400 hC (by kernel_rfl) ?_); (conv => whnf)))
        refine Con.mono (within_spec (hp.mono hle2) (hyi.mono hle2) (hasc y hy) (by omega)) ?_
        rintro _ h3 m2 hle3 ⟨⟨s, rfl, hs⟩, rfl⟩
        ((try (conv => whnf)); repeat ((first | refine And.intro ?_ True.intro | refine And.intro ⟨by omega, by omega⟩ ?_ | refine ⟨_, (by assumption : RO.c _ _ _ = _), ?_⟩ | refine ⟨_, _, _, (by assumption : (_ : Option Obj) = _), ?_⟩ | refine ⟨_, _, _, (by assumption : RO.c _ _ _ = _), ?_⟩ | refine ⟨_, (by assumption : Row _ _ _ _), ?_⟩ | refine ⟨_, (by assumption : Cell _ _ _ _ _), ?_⟩ | refine ⟨_, _, _, (by assumption : Cell _ _ _ _ _), ?_⟩ | refine ⟨_, Or.inl (by assumption), ?_⟩ | refine ⟨_, _, _, Or.inl (by assumption), ?_⟩ | refine And.intro (ints_one _) ?_ | refine And.intro (by omega) ?_ | refine d1 ?_ | refine d2 ?_ | refine d3 ?_ | refine d4 ?_ | refine go G98r 400 hC (by kernel_rfl) ?_); (conv => whnf)))
        have hwl := wit_len p y.2
        refine Con.mono (text_spec hs (by omega)) ?_
        rintro _ h4 m2 hle4 ⟨rfl, rfl⟩
        ((try (conv => whnf)); repeat ((first | refine And.intro ?_ True.intro | refine And.intro ⟨by omega, by omega⟩ ?_ | refine ⟨_, (by assumption : RO.c _ _ _ = _), ?_⟩ | refine ⟨_, _, _, (by assumption : (_ : Option Obj) = _), ?_⟩ | refine ⟨_, _, _, (by assumption : RO.c _ _ _ = _), ?_⟩ | refine ⟨_, (by assumption : Row _ _ _ _), ?_⟩ | refine ⟨_, (by assumption : Cell _ _ _ _ _), ?_⟩ | refine ⟨_, _, _, (by assumption : Cell _ _ _ _ _), ?_⟩ | refine ⟨_, Or.inl (by assumption), ?_⟩ | refine ⟨_, _, _, Or.inl (by assumption), ?_⟩ | refine And.intro (ints_one _) ?_ | refine And.intro (by omega) ?_ | refine d1 ?_ | refine d2 ?_ | refine d3 ?_ | refine d4 ?_ | refine go G98r 400 hC (by kernel_rfl) ?_); (conv => whnf)))
        have hR := hnum.mono ((hle2.trans hle3).trans hle4) m2
        obtain ⟨es2, ck2, F2, ho2, hO2⟩ := hR
        have hsz : (txt (wit p y.2)).size ≤ maxLen := by rw [txt_size]; simp only [maxLen]; omega
        have hr64 : R64 y.1 := by rw [hy1, abs64_nat (by omega)]; unfold R64; split <;> omega
        have hka : KA (.agg #[.int .i64 (max (g c i) (IntKind.i64.wrap (0 - g c i))), .string (txt (wit p y.2))]) := isKA (by rw [hpa, ← hy1]; exact hr64) hsz
        refine ⟨es2, ck2, _, F2, ⟨ho2, keyA, hO2.r, hka⟩, ?_⟩
        have e3 : F2 (.agg #[.int .i64 (max (g c i) (IntKind.i64.wrap (0 - g c i))), .string (txt (wit p y.2))]) = some (.int .i64 (numC l (cpAt p y))) := by
          rw [hpa, ← hy1]
          have := hO2.eq (kc (cpAt p y))
          rw [numF_eq hlit (wit_lit hlp), show l.contains (cpAt p y) = true by simpa using hm y hy] at this
          exact this
        erw [e3]
        ((try (conv => whnf)); repeat ((first | refine And.intro ?_ True.intro | refine And.intro ⟨by omega, by omega⟩ ?_ | refine ⟨_, (by assumption : RO.c _ _ _ = _), ?_⟩ | refine ⟨_, _, _, (by assumption : (_ : Option Obj) = _), ?_⟩ | refine ⟨_, _, _, (by assumption : RO.c _ _ _ = _), ?_⟩ | refine ⟨_, (by assumption : Row _ _ _ _), ?_⟩ | refine ⟨_, (by assumption : Cell _ _ _ _ _), ?_⟩ | refine ⟨_, _, _, (by assumption : Cell _ _ _ _ _), ?_⟩ | refine ⟨_, Or.inl (by assumption), ?_⟩ | refine ⟨_, _, _, Or.inl (by assumption), ?_⟩ | refine And.intro (ints_one _) ?_ | refine And.intro (by omega) ?_ | refine d1 ?_ | refine d2 ?_ | refine d3 ?_ | refine d4 ?_ | refine go G98r 400 hC (by kernel_rfl) ?_); (conv => whnf)))
        exact halt ⟨(), [], ⟨by simp [sinj], by repeat (first | exact trivial | refine ⟨rfl, ?_⟩ | refine ⟨⟨rfl, rfl⟩, ?_⟩ | refine ⟨⟨rfl, rfl, rfl⟩, ?_⟩ | refine ⟨stepI (by omega), ?_⟩ | refine ⟨by assumption, ?_⟩), by repeat (first | exact trivial | refine ⟨rfl, ?_⟩ | refine ⟨⟨rfl, rfl, rfl⟩, ?_⟩ | refine ⟨by assumption, ?_⟩)⟩, hle3.trans hle4, rfl⟩
      rintro _ h3 m2 hle3 rfl
      have hfin : ∀ n : Int, litC l ex p (g c i) = some n → -1000000 ≤ n → n ≤ 1000000 → ∀ (v' : Value) (m' : Hp), MRow m' 3 1 v' (((c.take i).filterMap (litC l ex p)).length + 1) (ints ((c.take i).filterMap (litC l ex p)) ++ [.int .i64 n]) → Turned m2 m' h3 (.slice va ((c.take i).filterMap (litC l ex p)).length vk) v' →
          ∃ va' vk', v' = .slice va' ((c.take (i + 1)).filterMap (litC l ex p)).length vk' ∧ MRow m' 3 1 v' ((c.take (i + 1)).filterMap (litC l ex p)).length (ints ((c.take (i + 1)).filterMap (litC l ex p))) ∧ (∃ g, v'.ownBlock = some g) ∧ m.sub m' ∧ ∀ g, v'.ownBlock = some g → m g = none := by
        intro n hn _ _ v' m' hr' ht'
        rw [htk, hn]
        have hh := ht'.sub hs2 hown
        obtain ⟨va', vk', rfl⟩ := MRow.sl hr'
        refine ⟨va', vk', by simp, by simpa [ints] using hr', ?_, hh.1, hh.2⟩
        rcases hr'.2 with ⟨_, h0⟩ | ⟨g, cap, cur, e, _⟩
        · omega
        · rw [e]; exact ⟨g, rfl⟩
      ((try (conv => whnf)); repeat ((first | refine And.intro ?_ True.intro | refine And.intro ⟨by omega, by omega⟩ ?_ | refine ⟨_, (by assumption : RO.c _ _ _ = _), ?_⟩ | refine ⟨_, _, _, (by assumption : (_ : Option Obj) = _), ?_⟩ | refine ⟨_, _, _, (by assumption : RO.c _ _ _ = _), ?_⟩ | refine ⟨_, (by assumption : Row _ _ _ _), ?_⟩ | refine ⟨_, (by assumption : Cell _ _ _ _ _), ?_⟩ | refine ⟨_, _, _, (by assumption : Cell _ _ _ _ _), ?_⟩ | refine ⟨_, Or.inl (by assumption), ?_⟩ | refine ⟨_, _, _, Or.inl (by assumption), ?_⟩ | refine And.intro (ints_one _) ?_ | refine And.intro (by omega) ?_ | refine d1 ?_ | refine d2 ?_ | refine d3 ?_ | refine d4 ?_ | refine go G98 400 hC (by kernel_rfl) ?_); (conv => whnf)))
      refine ⟨fun hq => ?_, fun hq => ?_⟩ <;> ((try (conv => whnf)); repeat ((first | refine And.intro ?_ True.intro | refine And.intro ⟨by omega, by omega⟩ ?_ | refine ⟨_, (by assumption : RO.c _ _ _ = _), ?_⟩ | refine ⟨_, _, _, (by assumption : (_ : Option Obj) = _), ?_⟩ | refine ⟨_, _, _, (by assumption : RO.c _ _ _ = _), ?_⟩ | refine ⟨_, (by assumption : Row _ _ _ _), ?_⟩ | refine ⟨_, (by assumption : Cell _ _ _ _ _), ?_⟩ | refine ⟨_, _, _, (by assumption : Cell _ _ _ _ _), ?_⟩ | refine ⟨_, Or.inl (by assumption), ?_⟩ | refine ⟨_, _, _, Or.inl (by assumption), ?_⟩ | refine And.intro (ints_one _) ?_ | refine And.intro (by omega) ?_ | refine d1 ?_ | refine d2 ?_ | refine d3 ?_ | refine d4 ?_ | refine go G98 400 hC (by kernel_rfl) ?_); (conv => whnf)))
      · have hq : g c i < 0 := by simpa using hq
        rw [if_pos hq] at e2
        have hw : IntKind.i64.wrap (0 - (numC l (cpAt p y) : Int)) = -(numC l (cpAt p y) : Int) := by rw [w64 (by omega) (by omega)]; omega
        refine ⟨((c.take i).filterMap (litC l ex p)).length, ints ((c.take i).filterMap (litC l ex p)), And.intro hrow (by show (((c.take i).filterMap (litC l ex p)).length + 1) * 8 ≤ 140737488355328; omega), fun v' m' hr' ht' => ?_⟩
        obtain ⟨va', vk', rfl, g1, g2, g3, g4⟩ := hfin _ e2 (by omega) (by omega) v' m' (by rw [← hw]; exact hr') ht'
        ((try (conv => whnf)); repeat ((first | refine And.intro ?_ True.intro | refine And.intro ⟨by omega, by omega⟩ ?_ | refine ⟨_, (by assumption : RO.c _ _ _ = _), ?_⟩ | refine ⟨_, _, _, (by assumption : (_ : Option Obj) = _), ?_⟩ | refine ⟨_, _, _, (by assumption : RO.c _ _ _ = _), ?_⟩ | refine ⟨_, (by assumption : Row _ _ _ _), ?_⟩ | refine ⟨_, (by assumption : Cell _ _ _ _ _), ?_⟩ | refine ⟨_, _, _, (by assumption : Cell _ _ _ _ _), ?_⟩ | refine ⟨_, Or.inl (by assumption), ?_⟩ | refine ⟨_, _, _, Or.inl (by assumption), ?_⟩ | refine And.intro (ints_one _) ?_ | refine And.intro (by omega) ?_ | refine d1 ?_ | refine d2 ?_ | refine d3 ?_ | refine d4 ?_ | refine go G98 400 hC (by kernel_rfl) ?_); (conv => whnf)))
        exact halt ⟨(i + 1, _), [], ⟨by simp [sinj], by repeat (first | exact trivial | refine ⟨rfl, ?_⟩ | refine ⟨⟨rfl, rfl⟩, ?_⟩ | refine ⟨⟨rfl, rfl, rfl⟩, ?_⟩ | refine ⟨stepI (by omega), ?_⟩ | refine ⟨by assumption, ?_⟩), by repeat (first | exact trivial | refine ⟨rfl, ?_⟩ | refine ⟨⟨rfl, rfl, rfl⟩, ?_⟩ | refine ⟨by assumption, ?_⟩)⟩, hle3, ⟨hlt, hle2.trans hle3, g3, g1, g2, g4⟩, by dsimp only; omega⟩
      · have hq : ¬ g c i < 0 := by simpa using hq
        rw [if_neg hq] at e2
        refine ⟨((c.take i).filterMap (litC l ex p)).length, ints ((c.take i).filterMap (litC l ex p)), And.intro hrow (by show (((c.take i).filterMap (litC l ex p)).length + 1) * 8 ≤ 140737488355328; omega), fun v' m' hr' ht' => ?_⟩
        obtain ⟨va', vk', rfl, g1, g2, g3, g4⟩ := hfin _ e2 (by omega) (by omega) v' m' hr' ht'
        ((try (conv => whnf)); repeat ((first | refine And.intro ?_ True.intro | refine And.intro ⟨by omega, by omega⟩ ?_ | refine ⟨_, (by assumption : RO.c _ _ _ = _), ?_⟩ | refine ⟨_, _, _, (by assumption : (_ : Option Obj) = _), ?_⟩ | refine ⟨_, _, _, (by assumption : RO.c _ _ _ = _), ?_⟩ | refine ⟨_, (by assumption : Row _ _ _ _), ?_⟩ | refine ⟨_, (by assumption : Cell _ _ _ _ _), ?_⟩ | refine ⟨_, _, _, (by assumption : Cell _ _ _ _ _), ?_⟩ | refine ⟨_, Or.inl (by assumption), ?_⟩ | refine ⟨_, _, _, Or.inl (by assumption), ?_⟩ | refine And.intro (ints_one _) ?_ | refine And.intro (by omega) ?_ | refine d1 ?_ | refine d2 ?_ | refine d3 ?_ | refine d4 ?_ | refine go G98 400 hC (by kernel_rfl) ?_); (conv => whnf)))
        exact halt ⟨(i + 1, _), [], ⟨by simp [sinj], by repeat (first | exact trivial | refine ⟨rfl, ?_⟩ | refine ⟨⟨rfl, rfl⟩, ?_⟩ | refine ⟨⟨rfl, rfl, rfl⟩, ?_⟩ | refine ⟨stepI (by omega), ?_⟩ | refine ⟨by assumption, ?_⟩), by repeat (first | exact trivial | refine ⟨rfl, ?_⟩ | refine ⟨⟨rfl, rfl, rfl⟩, ?_⟩ | refine ⟨by assumption, ?_⟩)⟩, hle3, ⟨hlt, hle2.trans hle3, g3, g1, g2, g4⟩, by dsimp only; omega⟩
  · have hge : i = c.length := by simp at hge; omega
    subst hge
    rw [List.take_length] at hrow hown hsome ⊢
    obtain ⟨gb, hgb⟩ := hsome
    obtain rfl : va = some ⟨gb, 0, none⟩ := by
      rcases hrow.2 with ⟨e, _⟩ | ⟨g, cap, cur, e, _⟩
      · rw [e] at hgb; cases hgb
      · cases e; simp [Value.ownBlock] at hgb; subst hgb; rfl
    have hg0 := hown gb rfl
    have hrawlen : (c.filterMap (litC l ex p)).length ≤ 1000000 := Nat.le_trans (List.length_filterMap_le _ _) hcl
    have hrng : ∀ x ∈ c.filterMap (litC l ex p), -1000000000000 ≤ x ∧ x ≤ 1000000000000 := fun x hx => by
      obtain ⟨z, _, hz⟩ := List.mem_filterMap.1 hx
      obtain ⟨y, hy, _, h2, _⟩ := litC_some hz
      have := numC_pos (hm y hy)
      omega
    ((try (conv => whnf)); repeat ((first | refine And.intro ?_ True.intro | refine And.intro ⟨by omega, by omega⟩ ?_ | refine ⟨_, (by assumption : RO.c _ _ _ = _), ?_⟩ | refine ⟨_, _, _, (by assumption : (_ : Option Obj) = _), ?_⟩ | refine ⟨_, _, _, (by assumption : RO.c _ _ _ = _), ?_⟩ | refine ⟨_, (by assumption : Row _ _ _ _), ?_⟩ | refine ⟨_, (by assumption : Cell _ _ _ _ _), ?_⟩ | refine ⟨_, _, _, (by assumption : Cell _ _ _ _ _), ?_⟩ | refine ⟨_, Or.inl (by assumption), ?_⟩ | refine ⟨_, _, _, Or.inl (by assumption), ?_⟩ | refine And.intro (ints_one _) ?_ | refine And.intro (by omega) ?_ | refine d1 ?_ | refine d2 ?_ | refine d3 ?_ | refine d4 ?_ | refine go G98 400 hC (by kernel_rfl) ?_); (conv => whnf)))
    refine Con.mono (sortA_spec hrow hrng (by omega)) ?_
    rintro _ h5 _ - ⟨rfl, rfl, l', o, hperm, hpw, rfl, hrow5⟩
    refine sx_pubRow hrow5 (hs2.fresh hg0 o) (fun g e => by simp [Value.ownBlock] at e; subst e; exact hg0) fun h6 m6 hle6 hs6 _ hr6 => ?_
    have hl' := sortA_unique hperm (hpw.imp fun h => by simpa using h) (raw_distinct (by omega) hm hnc)
    ((try (conv => whnf)); repeat ((first | refine And.intro ?_ True.intro | refine And.intro ⟨by omega, by omega⟩ ?_ | refine ⟨_, (by assumption : RO.c _ _ _ = _), ?_⟩ | refine ⟨_, _, _, (by assumption : (_ : Option Obj) = _), ?_⟩ | refine ⟨_, _, _, (by assumption : RO.c _ _ _ = _), ?_⟩ | refine ⟨_, (by assumption : Row _ _ _ _), ?_⟩ | refine ⟨_, (by assumption : Cell _ _ _ _ _), ?_⟩ | refine ⟨_, _, _, (by assumption : Cell _ _ _ _ _), ?_⟩ | refine ⟨_, Or.inl (by assumption), ?_⟩ | refine ⟨_, _, _, Or.inl (by assumption), ?_⟩ | refine And.intro (ints_one _) ?_ | refine And.intro (by omega) ?_ | refine d1 ?_ | refine d2 ?_ | refine d3 ?_ | refine d4 ?_ | refine go G98 400 hC (by kernel_rfl) ?_); (conv => whnf)))
    refine ⟨m, hs6, ⟨_, rfl, ?_⟩, rfl⟩
    have hcl2 : clC l ex p c = l' := hl'.symm
    have hlen := hperm.length_eq
    rw [hcl2]
    refine ⟨⟨some ⟨gb, 0, none⟩, vk, by rw [hlen]; rfl, by rw [hlen]; exact hr6⟩, by omega, fun x hx => ?_⟩
    have := hrng x (hperm.mem_iff.1 hx)
    unfold R64; omega
end Go.Proofs.YtoefoaabnjeofaaGreat
namespace Go.Proofs.YtoefoaabnjeofaaGreat
open Go.SX
set_option maxHeartbeats 1000000
theorem rowE_snoc (l ex : List Cp) (cls : List (List Int)) (p : List Int) (c : List Int) : rowE l ex (cls ++ [c]) p = rowE l ex cls p ++ (match skipC p c with | true => [] | false => [clC l ex p c]) := by
  simp only [rowE, List.filter_append, List.map_append]
  congr 1
  cases h : skipC p c <;> simp [List.filter, h]
theorem expd_snoc (l ex : List Cp) (cls pts : List (List Int)) (p : List Int) : expd l ex cls (pts ++ [p]) = expd l ex cls pts ++ rowE l ex cls p := by simp [expd]
theorem clC_len (l ex : List Cp) (p c : List Int) : (clC l ex p c).length ≤ c.length := by
  rw [clC, sortA, List.length_mergeSort]; exact List.length_filterMap_le _ _
theorem tot_append (a b : List (List Int)) : tot (a ++ b) = tot a + tot b := by simp [tot]
theorem tot_one (a : List Int) : tot [a] = a.length := by simp [tot]
theorem rowE_len (l ex : List Cp) (cls : List (List Int)) (p : List Int) : (rowE l ex cls p).length ≤ cls.length ∧ tot (rowE l ex cls p) ≤ tot cls := by
  induction cls using snocInd with
  | h0 => simp [rowE, tot]
  | h1 cls c ih =>
    rw [rowE_snoc, tot_append, tot_append, tot_one]
    have := clC_len l ex p c
    cases skipC p c <;> simp [tot] at * <;> omega
theorem expd_len (l ex : List Cp) (cls pts : List (List Int)) : (expd l ex cls pts).length ≤ pts.length * cls.length ∧ tot (expd l ex cls pts) ≤ pts.length * tot cls := by
  induction pts using snocInd with
  | h0 => simp [expd, tot]
  | h1 pts p ih =>
    rw [expd_snoc, tot_append]
    have := rowE_len l ex cls p
    simp only [List.length_append, List.length_singleton, Nat.add_mul, Nat.one_mul]
    omega
/-- The dependencies of variables, as a map's function. -/
structure OnF (h : RO) (f : Int → Option Value) (ex : List Cp) : Prop where
  some : ∀ v y, ex.find? (fun z => z.1 == v) = some y → ∃ u, f v = some u ∧ IntS h u y.2
  none : ∀ v, ex.find? (fun z => z.1 == v) = none → f v = none
theorem OnF.nil (h : RO) : OnF h (fun _ => Option.none) [] := ⟨fun _ _ e => by simp at e, fun _ _ => rfl⟩
theorem OnF.mono {h h' : RO} {f : Int → Option Value} {ex : List Cp} (r : OnF h f ex) (hl : h.le h') : OnF h' f ex := ⟨fun v y e => let ⟨u, a, b⟩ := r.some v y e; ⟨u, a, b.mono hl⟩, r.none⟩
theorem OnF.snoc {h : RO} {f : Int → Option Value} {ex : List Cp} (r : OnF h f ex) {y : Cp} {u : Value} (hu : IntS h u y.2) (hn : ∀ z ∈ ex, z.1 ≠ y.1) : OnF h (updA f y.1 (Option.some u)) (ex ++ [y]) := by
  have hf : ex.find? (fun z => z.1 == y.1) = Option.none := by
    rw [List.find?_eq_none]; intro z hz; simpa using hn z hz
  refine ⟨fun v z e => ?_, fun v e => ?_⟩
  · rw [List.find?_append] at e
    by_cases hv : v = y.1
    · subst hv
      rw [hf] at e
      simp at e
      subst e
      exact ⟨u, updA_self _ _ _, hu⟩
    · rw [updA_ne _ _ hv]
      cases h1 : ex.find? (fun z => z.1 == v) with
      | some w => rw [h1] at e; simp at e; subst e; exact r.some v w h1
      | none => rw [h1] at e; simp [Ne.symm hv] at e
  · rw [List.find?_append] at e
    by_cases hv : v = y.1
    · subst hv; rw [hf] at e; simp at e
    · rw [updA_ne _ _ hv]
      refine r.none v ?_
      cases h1 : ex.find? (fun z => z.1 == v) with
      | some w => rw [h1] at e; simp at e
      | none => rfl
theorem rising_ne {ex : List Cp} (h : Rising (ex.map (·.1))) {i : Nat} (hi : i < ex.length) : ∀ z ∈ ex.take i, z.1 ≠ (gd ex i).1 := by
  intro z hz e
  obtain ⟨j, hj, rfl⟩ := List.getElem_of_mem hz
  have hj' : j < i := by simp at hj; omega
  have := h.asc j i hj' (by simpa using hi)
  have e1 : g (ex.map (·.1)) j = (ex[j]'(by omega)).1 := by simp [g, show j < ex.length by omega]
  have e2 : g (ex.map (·.1)) i = (gd ex i).1 := by simp [g, gd, hi]
  rw [e1, e2] at this
  simp at e
  omega
/-- A list of lists as cells. -/
def LLR (h : RO) (es : List Value) (ls : List (List Int)) : Prop := es.length = ls.length ∧ ∀ (i : Nat) (l : List Int), ls[i]? = some l → ∃ u, es[i]? = some u ∧ IntS h u l
theorem LLR.nil (h : RO) : LLR h [] [] := ⟨rfl, fun i l e => by simp at e⟩
theorem LLR.mono {h h' : RO} {es : List Value} {ls : List (List Int)} (r : LLR h es ls) (hl : h.le h') : LLR h' es ls := ⟨r.1, fun i l e => let ⟨u, a, b⟩ := r.2 i l e; ⟨u, a, b.mono hl⟩⟩
theorem LLR.snoc {h : RO} {es : List Value} {ls : List (List Int)} (r : LLR h es ls) {u : Value} {l : List Int} (hu : IntS h u l) : LLR h (es ++ [u]) (ls ++ [l]) := by
  refine ⟨by simp [r.1], fun i x e => ?_⟩
  by_cases hi : i < ls.length
  · rw [List.getElem?_append_left hi] at e
    obtain ⟨v, a, b⟩ := r.2 i x e
    exact ⟨v, by rw [List.getElem?_append_left (by rw [r.1]; exact hi)]; exact a, b⟩
  · have : i = ls.length := by
      have := (List.getElem?_eq_some_iff.1 e).1; simp at this; omega
    subst this
    simp at e
    subst e
    exact ⟨u, by rw [← r.1]; simp, hu⟩
theorem LLR.lls {h : RO} {es : List Value} {ls : List (List Int)} {a : Option Addr} {c : Nat} (r : LLR h es ls) (hr : Row h 1 (.slice a ls.length c) es) (hl : ls.length ≤ 17592186044416) : LLS h (.slice a ls.length c) ls := ⟨⟨a, c, es, rfl, hr, r.2⟩, hl⟩
end Go.Proofs.YtoefoaabnjeofaaGreat
namespace Go.Proofs.YtoefoaabnjeofaaGreat
open Go.SX Go.Sort
set_option maxHeartbeats 4000000
set_option maxRecDepth 20000
def G96 : Gv := ⟨[], [], []⟩
theorem expand1_spec {x : Int} {c : Nat} {u : Value} {p : List Int} {h : RO} {m : Hp} (hc : h.c c 0 = some u) (hp : IntS h u p) :
    Con Tryz.prog 96 [.int .i64 x, .pointer (some ⟨c, 0, none⟩)] h m fun e h' m' => e = .returned (.bool (p.contains x)) ∧ h' = h ∧ m' = m := by
  obtain ⟨a, ca, rfl, -⟩ := hp.s
  refine fn_of (nt := 7) T Tryz.func96 rfl (by kernel_rfl) Tryz.ntmps96 (by simp) T_ok T_mixed fun C hC => ?_
  simp only [Tryz.f96, argFr, Nat.zero_add, Nat.reduceAdd] at hC ⊢
  ((try (conv => whnf)); repeat ((first | refine And.intro ?_ True.intro | refine And.intro ⟨by omega, by omega⟩ ?_ | refine ⟨_, (by assumption : RO.c _ _ _ = _), ?_⟩ | refine ⟨_, _, _, (by assumption : (_ : Option Obj) = _), ?_⟩ | refine ⟨_, _, _, (by assumption : RO.c _ _ _ = _), ?_⟩ | refine ⟨_, (by assumption : Row _ _ _ _), ?_⟩ | refine ⟨_, (by assumption : Cell _ _ _ _ _), ?_⟩ | refine ⟨_, _, _, (by assumption : Cell _ _ _ _ _), ?_⟩ | refine ⟨_, Or.inl (by assumption), ?_⟩ | refine ⟨_, _, _, Or.inl (by assumption), ?_⟩ | refine And.intro (ints_one _) ?_ | refine And.intro (by omega) ?_ | refine d1 ?_ | refine d2 ?_ | refine d3 ?_ | refine d4 ?_ | refine go G96 400 hC (by kernel_rfl) ?_); (conv => whnf)))
  (refine Con.mono (contains_spec hp) ?_; rintro _ _ _ - ⟨rfl, rfl, rfl⟩; ((try (conv => whnf)); repeat ((first | refine And.intro ?_ True.intro | refine And.intro ⟨by omega, by omega⟩ ?_ | refine ⟨_, (by assumption : RO.c _ _ _ = _), ?_⟩ | refine ⟨_, _, _, (by assumption : (_ : Option Obj) = _), ?_⟩ | refine ⟨_, _, _, (by assumption : RO.c _ _ _ = _), ?_⟩ | refine ⟨_, (by assumption : Row _ _ _ _), ?_⟩ | refine ⟨_, (by assumption : Cell _ _ _ _ _), ?_⟩ | refine ⟨_, _, _, (by assumption : Cell _ _ _ _ _), ?_⟩ | refine ⟨_, Or.inl (by assumption), ?_⟩ | refine ⟨_, _, _, Or.inl (by assumption), ?_⟩ | refine And.intro (ints_one _) ?_ | refine And.intro (by omega) ?_ | refine d1 ?_ | refine d2 ?_ | refine d3 ?_ | refine d4 ?_ | refine go G96 400 hC (by kernel_rfl) ?_); (conv => whnf))))
  exact ⟨rfl, rfl, rfl⟩
def G29 : Gv := ⟨[], [14], []⟩
theorem expand_spec {u v w r : Value} {univ : List Int} {ex : List (Int × List Int)} {cls pts : List (List Int)} {h : RO} {m : Hp} (ha : IntS h u univ) (hb : DepS h v ex) (hc : LLS h w cls) (hp : LLS h r pts)
    (hl : univ.length + ex.length ≤ 1000000000) (ht : tot cls ≤ 1000000000000) (hpt : ∀ p ∈ pts, p.length ≤ 1000000) (hct : ∀ c ∈ cls, c.length ≤ 1000000) (hsm : pts.length * ex.length ≤ 65536) (hn1 : pts.length * cls.length ≤ 20000) (hn2 : pts.length * tot cls ≤ 200000) :
    Con Tryz.prog 29 [.agg #[u, v, w], r] h m fun e h' m' => (match mayA univ ex cls pts with
      | true => ∃ s, e = .returned (.tuple #[s, .int .i64 0]) ∧ LLS h' s (expd (cops ex pts) ex cls pts)
      | false => e = .returned (.tuple #[.slice none 0 0, .int .i64 2])) ∧ m' = m := by
  obtain ⟨z, f, rfl⟩ := hp.sl
  obtain ⟨y, d, rfl⟩ := hb.sl
  obtain ⟨wa, wc, rfl⟩ := hc.sl
  have hlp := hp.len
  have hlb := hb.len
  have hlc := hc.len
  refine Con.drop ?_
  refine fn_of (nt := 83) T Tryz.func29 rfl (by kernel_rfl) Tryz.ntmps29 (by simp) T_ok T_mixed fun C hC => ?_
  simp only [Tryz.f29, argFr, Nat.zero_add, Nat.reduceAdd] at hC ⊢
  ((try (conv => whnf)); repeat ((first | refine And.intro ?_ True.intro | refine And.intro ⟨by omega, by omega⟩ ?_ | refine ⟨_, (by assumption : RO.c _ _ _ = _), ?_⟩ | refine ⟨_, _, _, (by assumption : (_ : Option Obj) = _), ?_⟩ | refine ⟨_, _, _, (by assumption : RO.c _ _ _ = _), ?_⟩ | refine ⟨_, (by assumption : Row _ _ _ _), ?_⟩ | refine ⟨_, (by assumption : Cell _ _ _ _ _), ?_⟩ | refine ⟨_, _, _, (by assumption : Cell _ _ _ _ _), ?_⟩ | refine ⟨_, Or.inl (by assumption), ?_⟩ | refine ⟨_, _, _, Or.inl (by assumption), ?_⟩ | refine And.intro (ints_one _) ?_ | refine And.intro (by omega) ?_ | refine d1 ?_ | refine d2 ?_ | refine d3 ?_ | refine d4 ?_ | refine go G29 400 hC (by kernel_rfl) ?_); (conv => whnf)))
  refine Con.mono (number_spec ha hb hc hp hl ht (fun p hp => by have := hpt p hp; omega) hsm) ?_
  rintro _ h2 m2 hle2 ⟨hR, rfl⟩
  cases hq : mayA univ ex cls pts with
  | false =>
    rw [hq] at hR
    subst hR
    ((try (conv => whnf)); repeat ((first | refine And.intro ?_ True.intro | refine And.intro ⟨by omega, by omega⟩ ?_ | refine ⟨_, (by assumption : RO.c _ _ _ = _), ?_⟩ | refine ⟨_, _, _, (by assumption : (_ : Option Obj) = _), ?_⟩ | refine ⟨_, _, _, (by assumption : RO.c _ _ _ = _), ?_⟩ | refine ⟨_, (by assumption : Row _ _ _ _), ?_⟩ | refine ⟨_, (by assumption : Cell _ _ _ _ _), ?_⟩ | refine ⟨_, _, _, (by assumption : Cell _ _ _ _ _), ?_⟩ | refine ⟨_, Or.inl (by assumption), ?_⟩ | refine ⟨_, _, _, Or.inl (by assumption), ?_⟩ | refine And.intro (ints_one _) ?_ | refine And.intro (by omega) ?_ | refine d1 ?_ | refine d2 ?_ | refine d3 ?_ | refine d4 ?_ | refine go G29 400 hC (by kernel_rfl) ?_); (conv => whnf)))
    exact ⟨_, Hp.sub.refl _, by rw [hq]; rfl, rfl⟩
  | true =>
    rw [hq] at hR
    obtain ⟨xb, rfl, ⟨bm, vc, e3, e4, hd, hm⟩⟩ := hR
    obtain ⟨hv, hvp⟩ := mayA_iff.1 hq
    replace hb := hb.mono hle2
    replace hc := hc.mono hle2
    replace hp := hp.mono hle2
    ((try (conv => whnf)); repeat ((first | refine And.intro ?_ True.intro | refine And.intro ⟨by omega, by omega⟩ ?_ | refine ⟨_, (by assumption : RO.c _ _ _ = _), ?_⟩ | refine ⟨_, _, _, (by assumption : (_ : Option Obj) = _), ?_⟩ | refine ⟨_, _, _, (by assumption : RO.c _ _ _ = _), ?_⟩ | refine ⟨_, (by assumption : Row _ _ _ _), ?_⟩ | refine ⟨_, (by assumption : Cell _ _ _ _ _), ?_⟩ | refine ⟨_, _, _, (by assumption : Cell _ _ _ _ _), ?_⟩ | refine ⟨_, Or.inl (by assumption), ?_⟩ | refine ⟨_, _, _, Or.inl (by assumption), ?_⟩ | refine And.intro (ints_one _) ?_ | refine And.intro (by omega) ?_ | refine d1 ?_ | refine d2 ?_ | refine d3 ?_ | refine d4 ?_ | refine go G29 400 hC (by kernel_rfl) ?_); (conv => whnf)))
    intro bon f1 f2 f3
    ((try (conv => whnf)); repeat ((first | refine And.intro ?_ True.intro | refine And.intro ⟨by omega, by omega⟩ ?_ | refine ⟨_, (by assumption : RO.c _ _ _ = _), ?_⟩ | refine ⟨_, _, _, (by assumption : (_ : Option Obj) = _), ?_⟩ | refine ⟨_, _, _, (by assumption : RO.c _ _ _ = _), ?_⟩ | refine ⟨_, (by assumption : Row _ _ _ _), ?_⟩ | refine ⟨_, (by assumption : Cell _ _ _ _ _), ?_⟩ | refine ⟨_, _, _, (by assumption : Cell _ _ _ _ _), ?_⟩ | refine ⟨_, Or.inl (by assumption), ?_⟩ | refine ⟨_, _, _, Or.inl (by assumption), ?_⟩ | refine And.intro (ints_one _) ?_ | refine And.intro (by omega) ?_ | refine d1 ?_ | refine d2 ?_ | refine d3 ?_ | refine d4 ?_ | refine go G29 400 hC (by kernel_rfl) ?_); (conv => whnf)))
    refine halt (sx_loopB (X := Nat) [1, 2, 6, 8, 28, 29] [2] (fun i => [(30, .v (.int .i64 i))]) (fun _ => [])
      (fun i h' m' => i ≤ ex.length ∧ h2.le h' ∧ m2.sub m' ∧ ∃ fn, MapX IK ιI m' bon fn ∧ OnF h' fn (ex.take i)) (fun i => ex.length - i) 0 (by repeat (first | exact Keep.nil | apply Keep.cons rfl | apply Keep.skip rfl)) (by repeat (first | exact KeepB.nil | apply KeepB.cons rfl)) ⟨[(2, 2)], ⟨by simp [sinj], by repeat (first | exact trivial | refine ⟨rfl, ?_⟩ | refine ⟨⟨rfl, rfl⟩, ?_⟩ | refine ⟨⟨rfl, rfl, rfl⟩, ?_⟩ | refine ⟨stepI (by omega), ?_⟩ | refine ⟨by assumption, ?_⟩), by repeat (first | exact trivial | refine ⟨rfl, ?_⟩ | refine ⟨⟨rfl, rfl, rfl⟩, ?_⟩ | refine ⟨by assumption, ?_⟩)⟩⟩
      ⟨by omega, RO.le.refl _, (Hp.sub.refl _).fresh f1 _, _, MapX.new IK ιI m2 bon, OnF.nil _⟩ ?_)
    rintro i h3 m3 - ⟨hi, hle3, hs3, fn, hmx, hof⟩
    ((try (conv => whnf)); repeat ((first | refine And.intro ?_ True.intro | refine And.intro ⟨by omega, by omega⟩ ?_ | refine ⟨_, (by assumption : RO.c _ _ _ = _), ?_⟩ | refine ⟨_, _, _, (by assumption : (_ : Option Obj) = _), ?_⟩ | refine ⟨_, _, _, (by assumption : RO.c _ _ _ = _), ?_⟩ | refine ⟨_, (by assumption : Row _ _ _ _), ?_⟩ | refine ⟨_, (by assumption : Cell _ _ _ _ _), ?_⟩ | refine ⟨_, _, _, (by assumption : Cell _ _ _ _ _), ?_⟩ | refine ⟨_, Or.inl (by assumption), ?_⟩ | refine ⟨_, _, _, Or.inl (by assumption), ?_⟩ | refine And.intro (ints_one _) ?_ | refine And.intro (by omega) ?_ | refine d1 ?_ | refine d2 ?_ | refine d3 ?_ | refine d4 ?_ | refine go G29 400 hC (by kernel_rfl) ?_); (conv => whnf)))
    refine ⟨fun hlt => ?_, fun hge => ?_⟩
    · have hlt : i < ex.length := by simpa using hlt
      obtain ⟨q, o, rfl, hcc⟩ := (hb.mono hle3).get hlt
      obtain ⟨c1, a', c', c2, hi1⟩ := hcc i hlt
      ((try (conv => whnf)); repeat ((first | refine And.intro ?_ True.intro | refine And.intro ⟨by omega, by omega⟩ ?_ | refine ⟨_, (by assumption : RO.c _ _ _ = _), ?_⟩ | refine ⟨_, _, _, (by assumption : (_ : Option Obj) = _), ?_⟩ | refine ⟨_, _, _, (by assumption : RO.c _ _ _ = _), ?_⟩ | refine ⟨_, (by assumption : Row _ _ _ _), ?_⟩ | refine ⟨_, (by assumption : Cell _ _ _ _ _), ?_⟩ | refine ⟨_, _, _, (by assumption : Cell _ _ _ _ _), ?_⟩ | refine ⟨_, Or.inl (by assumption), ?_⟩ | refine ⟨_, _, _, Or.inl (by assumption), ?_⟩ | refine And.intro (ints_one _) ?_ | refine And.intro (by omega) ?_ | refine d1 ?_ | refine d2 ?_ | refine d3 ?_ | refine d4 ?_ | refine go G29 400 hC (by kernel_rfl) ?_); (conv => whnf)))
      obtain ⟨es, ek, F, e1, hO⟩ := hmx
      refine ⟨es, ek, _, F, ⟨e1, keyInt, hO.r, isIK _⟩, fun es' ck' hr' => ?_⟩
      have hm1 := (hO.upd ιI_inj (x := (gd ex i).1) hr').x (clock := ck') m3 bon
      ((try (conv => whnf)); repeat ((first | refine And.intro ?_ True.intro | refine And.intro ⟨by omega, by omega⟩ ?_ | refine ⟨_, (by assumption : RO.c _ _ _ = _), ?_⟩ | refine ⟨_, _, _, (by assumption : (_ : Option Obj) = _), ?_⟩ | refine ⟨_, _, _, (by assumption : RO.c _ _ _ = _), ?_⟩ | refine ⟨_, (by assumption : Row _ _ _ _), ?_⟩ | refine ⟨_, (by assumption : Cell _ _ _ _ _), ?_⟩ | refine ⟨_, _, _, (by assumption : Cell _ _ _ _ _), ?_⟩ | refine ⟨_, Or.inl (by assumption), ?_⟩ | refine ⟨_, _, _, Or.inl (by assumption), ?_⟩ | refine And.intro (ints_one _) ?_ | refine And.intro (by omega) ?_ | refine d1 ?_ | refine d2 ?_ | refine d3 ?_ | refine d4 ?_ | refine go G29 400 hC (by kernel_rfl) ?_); (conv => whnf)))
      refine halt ⟨i + 1, [(2, 2)], ⟨by simp [sinj], by repeat (first | exact trivial | refine ⟨rfl, ?_⟩ | refine ⟨⟨rfl, rfl⟩, ?_⟩ | refine ⟨⟨rfl, rfl, rfl⟩, ?_⟩ | refine ⟨stepI (by omega), ?_⟩ | refine ⟨by assumption, ?_⟩), by repeat (first | exact trivial | refine ⟨rfl, ?_⟩ | refine ⟨⟨rfl, rfl, rfl⟩, ?_⟩ | refine ⟨by assumption, ?_⟩)⟩, RO.le.refl _, ⟨hlt, hle3, hs3.fresh f1 _, _, hm1, ?_⟩, by omega⟩
      have := hof.snoc hi1 (rising_ne hv.re hlt)
      rw [List.take_add_one, gd_get hlt]
      exact this
    have hge : i = ex.length := by simp at hge; omega
    subst hge
    rw [List.take_length] at hof
    ((try (conv => whnf)); repeat ((first | refine And.intro ?_ True.intro | refine And.intro ⟨by omega, by omega⟩ ?_ | refine ⟨_, (by assumption : RO.c _ _ _ = _), ?_⟩ | refine ⟨_, _, _, (by assumption : (_ : Option Obj) = _), ?_⟩ | refine ⟨_, _, _, (by assumption : RO.c _ _ _ = _), ?_⟩ | refine ⟨_, (by assumption : Row _ _ _ _), ?_⟩ | refine ⟨_, (by assumption : Cell _ _ _ _ _), ?_⟩ | refine ⟨_, _, _, (by assumption : Cell _ _ _ _ _), ?_⟩ | refine ⟨_, Or.inl (by assumption), ?_⟩ | refine ⟨_, _, _, Or.inl (by assumption), ?_⟩ | refine And.intro (ints_one _) ?_ | refine And.intro (by omega) ?_ | refine d1 ?_ | refine d2 ?_ | refine d3 ?_ | refine d4 ?_ | refine go G29 400 hC (by kernel_rfl) ?_); (conv => whnf)))
    obtain ⟨es, ek, F, e1, hO⟩ := hmx
    have hlit : ∀ x ∈ cops ex pts, Lit16 x.2 := fun x hx => by
      obtain ⟨p, hp, y, _, rfl⟩ := cops_sub hx
      exact wit_lit ((hvp.pt _ hp).lit hv.ru)
    have hcl := cops_len ex pts
    have hexl := expd_len (cops ex pts) ex cls pts
    refine halt (sx_loopB (X := Nat × Value × List Value) [2, 6, 8, 40, 41] [2] (fun x => [(11, .own 11 x.2.1), (12, .v (.int .i64 (tot (expd (cops ex pts) ex cls (pts.take x.1)) : Nat))), (42, .v (.int .i64 x.1))])
      (fun x => [(11, .row x.2.1 22 1 (expd (cops ex pts) ex cls (pts.take x.1)).length x.2.2)])
      (fun x h' m' => x.1 ≤ pts.length ∧ h3.le h' ∧ m' = m3 ∧ (∃ a c, x.2.1 = .slice a (expd (cops ex pts) ex cls (pts.take x.1)).length c ∧ Row h' 1 x.2.1 x.2.2) ∧ LLR h' x.2.2 (expd (cops ex pts) ex cls (pts.take x.1))) (fun x => pts.length - x.1) (0, .slice none 0 0, []) (by repeat (first | exact Keep.nil | apply Keep.cons rfl | apply Keep.skip rfl)) (by repeat (first | exact KeepB.nil | apply KeepB.cons rfl)) ⟨[(2, 2)], ⟨by simp [sinj], by repeat (first | exact trivial | refine ⟨rfl, ?_⟩ | refine ⟨⟨rfl, rfl⟩, ?_⟩ | refine ⟨⟨rfl, rfl, rfl⟩, ?_⟩ | refine ⟨stepI (by omega), ?_⟩ | refine ⟨by assumption, ?_⟩), by repeat (first | exact trivial | refine ⟨rfl, ?_⟩ | refine ⟨⟨rfl, rfl, rfl⟩, ?_⟩ | refine ⟨by assumption, ?_⟩)⟩⟩
      ⟨by simp, RO.le.refl _, rfl, ⟨none, 0, rfl, ⟨none, 0, 0, rfl, rfl, Nat.le_refl _, .inl ⟨rfl, rfl⟩⟩⟩, LLR.nil _⟩ ?_)
    rintro ⟨i, vo, ves⟩ h4 m3 - ⟨hi, hle4, rfl, ⟨oa, ok, ev, hrow⟩, hllr⟩
    dsimp only at hi ev hrow hllr ⊢
    subst ev
    ((try (conv => whnf)); repeat ((first | refine And.intro ?_ True.intro | refine And.intro ⟨by omega, by omega⟩ ?_ | refine ⟨_, (by assumption : RO.c _ _ _ = _), ?_⟩ | refine ⟨_, _, _, (by assumption : (_ : Option Obj) = _), ?_⟩ | refine ⟨_, _, _, (by assumption : RO.c _ _ _ = _), ?_⟩ | refine ⟨_, (by assumption : Row _ _ _ _), ?_⟩ | refine ⟨_, (by assumption : Cell _ _ _ _ _), ?_⟩ | refine ⟨_, _, _, (by assumption : Cell _ _ _ _ _), ?_⟩ | refine ⟨_, Or.inl (by assumption), ?_⟩ | refine ⟨_, _, _, Or.inl (by assumption), ?_⟩ | refine And.intro (ints_one _) ?_ | refine And.intro (by omega) ?_ | refine d1 ?_ | refine d2 ?_ | refine d3 ?_ | refine d4 ?_ | refine go G29 400 hC (by kernel_rfl) ?_); (conv => whnf)))
    refine ⟨fun hlt => ?_, fun hge => ?_⟩
    rotate_left
    · have hge : i = pts.length := by simp at hge; omega
      subst hge
      rw [List.take_length] at hrow hllr ⊢
      ((try (conv => whnf)); repeat ((first | refine And.intro ?_ True.intro | refine And.intro ⟨by omega, by omega⟩ ?_ | refine ⟨_, (by assumption : RO.c _ _ _ = _), ?_⟩ | refine ⟨_, _, _, (by assumption : (_ : Option Obj) = _), ?_⟩ | refine ⟨_, _, _, (by assumption : RO.c _ _ _ = _), ?_⟩ | refine ⟨_, (by assumption : Row _ _ _ _), ?_⟩ | refine ⟨_, (by assumption : Cell _ _ _ _ _), ?_⟩ | refine ⟨_, _, _, (by assumption : Cell _ _ _ _ _), ?_⟩ | refine ⟨_, Or.inl (by assumption), ?_⟩ | refine ⟨_, _, _, Or.inl (by assumption), ?_⟩ | refine And.intro (ints_one _) ?_ | refine And.intro (by omega) ?_ | refine d1 ?_ | refine d2 ?_ | refine d3 ?_ | refine d4 ?_ | refine go G29 400 hC (by kernel_rfl) ?_); (conv => whnf)))
      exact ⟨_, hs3, by rw [hq]; exact ⟨_, rfl, hllr.lls hrow (by omega)⟩, rfl⟩
    have hlt : i < pts.length := by simpa using hlt
    obtain ⟨q, o, rfl, hcc⟩ := ((hp.mono hle3).mono hle4).get hlt
    obtain ⟨a', c', c1, hi1⟩ := hcc i hlt
    have hpi : gl pts i ∈ pts := gl_mem hlt
    ((try (conv => whnf)); repeat ((first | refine And.intro ?_ True.intro | refine And.intro ⟨by omega, by omega⟩ ?_ | refine ⟨_, (by assumption : RO.c _ _ _ = _), ?_⟩ | refine ⟨_, _, _, (by assumption : (_ : Option Obj) = _), ?_⟩ | refine ⟨_, _, _, (by assumption : RO.c _ _ _ = _), ?_⟩ | refine ⟨_, (by assumption : Row _ _ _ _), ?_⟩ | refine ⟨_, (by assumption : Cell _ _ _ _ _), ?_⟩ | refine ⟨_, _, _, (by assumption : Cell _ _ _ _ _), ?_⟩ | refine ⟨_, Or.inl (by assumption), ?_⟩ | refine ⟨_, _, _, Or.inl (by assumption), ?_⟩ | refine And.intro (ints_one _) ?_ | refine And.intro (by omega) ?_ | refine d1 ?_ | refine d2 ?_ | refine d3 ?_ | refine d4 ?_ | refine go G29 400 hC (by kernel_rfl) ?_); (conv => whnf)))
    intro b5 h5 hle5 hp5
    have hp50 := hp5 0 _ rfl
    ((try (conv => whnf)); repeat ((first | refine And.intro ?_ True.intro | refine And.intro ⟨by omega, by omega⟩ ?_ | refine ⟨_, (by assumption : RO.c _ _ _ = _), ?_⟩ | refine ⟨_, _, _, (by assumption : (_ : Option Obj) = _), ?_⟩ | refine ⟨_, _, _, (by assumption : RO.c _ _ _ = _), ?_⟩ | refine ⟨_, (by assumption : Row _ _ _ _), ?_⟩ | refine ⟨_, (by assumption : Cell _ _ _ _ _), ?_⟩ | refine ⟨_, _, _, (by assumption : Cell _ _ _ _ _), ?_⟩ | refine ⟨_, Or.inl (by assumption), ?_⟩ | refine ⟨_, _, _, Or.inl (by assumption), ?_⟩ | refine And.intro (ints_one _) ?_ | refine And.intro (by omega) ?_ | refine d1 ?_ | refine d2 ?_ | refine d3 ?_ | refine d4 ?_ | refine go G29 400 hC (by kernel_rfl) ?_); (conv => whnf)))
    refine halt (sx_loopB (X := Nat × Value × List Value) [2, 6, 8, 14, 40, 41, 42, 47, 48] [2, 14] (fun x => [(11, .own 11 x.2.1), (12, .v (.int .i64 (tot (expd (cops ex pts) ex cls (pts.take i) ++ rowE (cops ex pts) ex (cls.take x.1) (gl pts i)) : Nat))), (49, .v (.int .i64 x.1))])
      (fun x => [(11, .row x.2.1 22 1 (expd (cops ex pts) ex cls (pts.take i) ++ rowE (cops ex pts) ex (cls.take x.1) (gl pts i)).length x.2.2)])
      (fun x h' m' => x.1 ≤ cls.length ∧ h5.le h' ∧ m' = m3 ∧ (∃ a c, x.2.1 = .slice a (expd (cops ex pts) ex cls (pts.take i) ++ rowE (cops ex pts) ex (cls.take x.1) (gl pts i)).length c ∧ Row h' 1 x.2.1 x.2.2) ∧ LLR h' x.2.2 (expd (cops ex pts) ex cls (pts.take i) ++ rowE (cops ex pts) ex (cls.take x.1) (gl pts i))) (fun x => cls.length - x.1)
      (0, .slice oa (expd (cops ex pts) ex cls (pts.take i)).length ok, ves) (by repeat (first | exact Keep.nil | apply Keep.cons rfl | apply Keep.skip rfl)) (by repeat (first | exact KeepB.nil | apply KeepB.cons rfl)) ⟨[(2, 2), (14, 14), (11, 11)], ?_⟩
      ⟨by simp, RO.le.refl _, rfl, ⟨oa, ok, by simp [rowE], hrow.mono' hle5⟩, by simpa [rowE] using hllr.mono hle5⟩ ?_)
    · have h0 : expd (cops ex pts) ex cls (pts.take i) ++ rowE (cops ex pts) ex (cls.take 0) (gl pts i) = expd (cops ex pts) ex cls (pts.take i) := by simp [rowE]
      dsimp only
      rw [h0]
      exact ⟨by simp [sinj], by repeat (first | exact trivial | refine ⟨rfl, ?_⟩ | refine ⟨⟨rfl, rfl⟩, ?_⟩ | refine ⟨⟨rfl, rfl, rfl⟩, ?_⟩ | refine ⟨stepI (by omega), ?_⟩ | refine ⟨by assumption, ?_⟩), by repeat (first | exact trivial | refine ⟨rfl, ?_⟩ | refine ⟨⟨rfl, rfl, rfl⟩, ?_⟩ | refine ⟨by assumption, ?_⟩)⟩
    rintro ⟨k, vp, vfs⟩ h6 m3 - ⟨hk, hle6, rfl, ⟨pa, pk, ev, hrow2⟩, hllr2⟩
    dsimp only at hk ev hrow2 hllr2 ⊢
    subst ev
    ((try (conv => whnf)); repeat ((first | refine And.intro ?_ True.intro | refine And.intro ⟨by omega, by omega⟩ ?_ | refine ⟨_, (by assumption : RO.c _ _ _ = _), ?_⟩ | refine ⟨_, _, _, (by assumption : (_ : Option Obj) = _), ?_⟩ | refine ⟨_, _, _, (by assumption : RO.c _ _ _ = _), ?_⟩ | refine ⟨_, (by assumption : Row _ _ _ _), ?_⟩ | refine ⟨_, (by assumption : Cell _ _ _ _ _), ?_⟩ | refine ⟨_, _, _, (by assumption : Cell _ _ _ _ _), ?_⟩ | refine ⟨_, Or.inl (by assumption), ?_⟩ | refine ⟨_, _, _, Or.inl (by assumption), ?_⟩ | refine And.intro (ints_one _) ?_ | refine And.intro (by omega) ?_ | refine d1 ?_ | refine d2 ?_ | refine d3 ?_ | refine d4 ?_ | refine go G29 400 hC (by kernel_rfl) ?_); (conv => whnf)))
    refine ⟨fun hlt2 => ?_, fun hge2 => ?_⟩
    rotate_left
    · have hge2 : k = cls.length := by simp at hge2; omega
      subst hge2
      rw [List.take_length] at hrow2 hllr2 ⊢
      ((try (conv => whnf)); repeat ((first | refine And.intro ?_ True.intro | refine And.intro ⟨by omega, by omega⟩ ?_ | refine ⟨_, (by assumption : RO.c _ _ _ = _), ?_⟩ | refine ⟨_, _, _, (by assumption : (_ : Option Obj) = _), ?_⟩ | refine ⟨_, _, _, (by assumption : RO.c _ _ _ = _), ?_⟩ | refine ⟨_, (by assumption : Row _ _ _ _), ?_⟩ | refine ⟨_, (by assumption : Cell _ _ _ _ _), ?_⟩ | refine ⟨_, _, _, (by assumption : Cell _ _ _ _ _), ?_⟩ | refine ⟨_, Or.inl (by assumption), ?_⟩ | refine ⟨_, _, _, Or.inl (by assumption), ?_⟩ | refine And.intro (ints_one _) ?_ | refine And.intro (by omega) ?_ | refine d1 ?_ | refine d2 ?_ | refine d3 ?_ | refine d4 ?_ | refine go G29 400 hC (by kernel_rfl) ?_); (conv => whnf)))
      have hsn : expd (cops ex pts) ex cls (pts.take i) ++ rowE (cops ex pts) ex cls (gl pts i) = expd (cops ex pts) ex cls (pts.take (i + 1)) := by
        rw [List.take_add_one, gl_get hlt]; exact (expd_snoc _ _ _ _ _).symm
      rw [hsn] at hrow2 hllr2 ⊢
      exact halt ⟨(i + 1, _, vfs), [(2, 2), (11, 11)], ⟨by simp [sinj], by repeat (first | exact trivial | refine ⟨rfl, ?_⟩ | refine ⟨⟨rfl, rfl⟩, ?_⟩ | refine ⟨⟨rfl, rfl, rfl⟩, ?_⟩ | refine ⟨stepI (by omega), ?_⟩ | refine ⟨by assumption, ?_⟩), by repeat (first | exact trivial | refine ⟨rfl, ?_⟩ | refine ⟨⟨rfl, rfl, rfl⟩, ?_⟩ | refine ⟨by assumption, ?_⟩)⟩, hle5.trans hle6, ⟨hlt, (hle4.trans hle5).trans hle6, rfl, ⟨_, _, rfl, hrow2⟩, hllr2⟩, by dsimp only; omega⟩
    have hlt2 : k < cls.length := by simpa using hlt2
    have hle36 : h3.le h6 := (hle4.trans hle5).trans hle6
    obtain ⟨q2, o2, rfl, hcc2⟩ := ((hc.mono hle3).mono hle36).get hlt2
    obtain ⟨a2, c2', c2, hi2⟩ := hcc2 k hlt2
    have hp6 : h6.c b5 0 = some (.slice a' (gl pts i).length c') := hle6.c _ _ _ hp50
    have hcm : gl cls k ∈ cls := gl_mem hlt2
    ((try (conv => whnf)); repeat ((first | refine And.intro ?_ True.intro | refine And.intro ⟨by omega, by omega⟩ ?_ | refine ⟨_, (by assumption : RO.c _ _ _ = _), ?_⟩ | refine ⟨_, _, _, (by assumption : (_ : Option Obj) = _), ?_⟩ | refine ⟨_, _, _, (by assumption : RO.c _ _ _ = _), ?_⟩ | refine ⟨_, (by assumption : Row _ _ _ _), ?_⟩ | refine ⟨_, (by assumption : Cell _ _ _ _ _), ?_⟩ | refine ⟨_, _, _, (by assumption : Cell _ _ _ _ _), ?_⟩ | refine ⟨_, Or.inl (by assumption), ?_⟩ | refine ⟨_, _, _, Or.inl (by assumption), ?_⟩ | refine And.intro (ints_one _) ?_ | refine And.intro (by omega) ?_ | refine d1 ?_ | refine d2 ?_ | refine d3 ?_ | refine d4 ?_ | refine go G29 400 hC (by kernel_rfl) ?_); (conv => whnf)))
    refine Con.mono (containsFunc hi2 (fun x => expand1_spec (x := x) hp6 (hi1.mono (hle5.trans hle6)))) ?_
    rintro _ h6 m3 - ⟨rfl, rfl, rfl⟩
    have hsn2 : rowE (cops ex pts) ex (cls.take (k + 1)) (gl pts i) = rowE (cops ex pts) ex (cls.take k) (gl pts i) ++ (match skipC (gl pts i) (gl cls k) with | true => [] | false => [clC (cops ex pts) ex (gl pts i) (gl cls k)]) := by
      rw [List.take_add_one, gl_get hlt2]; exact rowE_snoc _ _ _ _ _
    ((try (conv => whnf)); repeat ((first | refine And.intro ?_ True.intro | refine And.intro ⟨by omega, by omega⟩ ?_ | refine ⟨_, (by assumption : RO.c _ _ _ = _), ?_⟩ | refine ⟨_, _, _, (by assumption : (_ : Option Obj) = _), ?_⟩ | refine ⟨_, _, _, (by assumption : RO.c _ _ _ = _), ?_⟩ | refine ⟨_, (by assumption : Row _ _ _ _), ?_⟩ | refine ⟨_, (by assumption : Cell _ _ _ _ _), ?_⟩ | refine ⟨_, _, _, (by assumption : Cell _ _ _ _ _), ?_⟩ | refine ⟨_, Or.inl (by assumption), ?_⟩ | refine ⟨_, _, _, Or.inl (by assumption), ?_⟩ | refine And.intro (ints_one _) ?_ | refine And.intro (by omega) ?_ | refine d1 ?_ | refine d2 ?_ | refine d3 ?_ | refine d4 ?_ | refine go G29 400 hC (by kernel_rfl) ?_); (conv => whnf)))
    refine ⟨fun hsk => ?_, fun hsk => ?_⟩ <;> ((try (conv => whnf)); repeat ((first | refine And.intro ?_ True.intro | refine And.intro ⟨by omega, by omega⟩ ?_ | refine ⟨_, (by assumption : RO.c _ _ _ = _), ?_⟩ | refine ⟨_, _, _, (by assumption : (_ : Option Obj) = _), ?_⟩ | refine ⟨_, _, _, (by assumption : RO.c _ _ _ = _), ?_⟩ | refine ⟨_, (by assumption : Row _ _ _ _), ?_⟩ | refine ⟨_, (by assumption : Cell _ _ _ _ _), ?_⟩ | refine ⟨_, _, _, (by assumption : Cell _ _ _ _ _), ?_⟩ | refine ⟨_, Or.inl (by assumption), ?_⟩ | refine ⟨_, _, _, Or.inl (by assumption), ?_⟩ | refine And.intro (ints_one _) ?_ | refine And.intro (by omega) ?_ | refine d1 ?_ | refine d2 ?_ | refine d3 ?_ | refine d4 ?_ | refine go G29 400 hC (by kernel_rfl) ?_); (conv => whnf)))
    · have hsk : skipC (gl pts i) (gl cls k) = true := hsk
      rw [hsk] at hsn2
      simp only [List.append_nil] at hsn2
      rw [← hsn2] at hrow2 hllr2 ⊢
      exact halt ⟨(k + 1, _, vfs), [(2, 2), (14, 14), (11, 11)], ⟨by simp [sinj], by repeat (first | exact trivial | refine ⟨rfl, ?_⟩ | refine ⟨⟨rfl, rfl⟩, ?_⟩ | refine ⟨⟨rfl, rfl, rfl⟩, ?_⟩ | refine ⟨stepI (by omega), ?_⟩ | refine ⟨by assumption, ?_⟩), by repeat (first | exact trivial | refine ⟨rfl, ?_⟩ | refine ⟨⟨rfl, rfl, rfl⟩, ?_⟩ | refine ⟨by assumption, ?_⟩)⟩, RO.le.refl _, ⟨hlt2, hle6, rfl, ⟨_, _, rfl, hrow2⟩, hllr2⟩, by dsimp only; omega⟩
    have hsk : skipC (gl pts i) (gl cls k) = false := hsk
    rw [hsk] at hsn2
    have hne := expd_len (cops ex pts) ex cls (pts.take i)
    have hnr := rowE_len (cops ex pts) ex (cls.take (k + 1)) (gl pts i)
    have hti := tot_le cls (k + 1)
    have hli : (pts.take i).length = i := by simp; omega
    have hlk : (cls.take (k + 1)).length = k + 1 := by simp; omega
    rw [hli] at hne
    rw [hlk] at hnr
    have hb1 := Nat.mul_le_mul_right cls.length (show i + 1 ≤ pts.length by omega)
    have hb2 := Nat.mul_le_mul_right (tot cls) (show i + 1 ≤ pts.length by omega)
    rw [Nat.add_mul, Nat.one_mul] at hb1 hb2
    have hlen : (expd (cops ex pts) ex cls (pts.take i) ++ rowE (cops ex pts) ex (cls.take (k + 1)) (gl pts i)).length ≤ 20000 := by rw [List.length_append]; omega
    have htot : tot (expd (cops ex pts) ex cls (pts.take i) ++ rowE (cops ex pts) ex (cls.take (k + 1)) (gl pts i)) ≤ 200000 := by rw [tot_append]; omega
    have happ : expd (cops ex pts) ex cls (pts.take i) ++ rowE (cops ex pts) ex (cls.take (k + 1)) (gl pts i) = (expd (cops ex pts) ex cls (pts.take i) ++ rowE (cops ex pts) ex (cls.take k) (gl pts i)) ++ [clC (cops ex pts) ex (gl pts i) (gl cls k)] := by rw [hsn2, List.append_assoc]
    generalize hcur : expd (cops ex pts) ex cls (pts.take i) ++ rowE (cops ex pts) ex (cls.take k) (gl pts i) = cur at *
    have hlc1 : (expd (cops ex pts) ex cls (pts.take i) ++ rowE (cops ex pts) ex (cls.take (k + 1)) (gl pts i)).length = cur.length + 1 := by rw [happ]; simp
    have htc1 : tot (expd (cops ex pts) ex cls (pts.take i) ++ rowE (cops ex pts) ex (cls.take (k + 1)) (gl pts i)) = tot cur + (clC (cops ex pts) ex (gl pts i) (gl cls k)).length := by rw [happ, tot_append, tot_one]
    have hOn : OnM h6 F ex := ⟨fun v y e => by obtain ⟨u, e2, hu⟩ := hof.some v y e; exact ⟨u, (hO.eq v).trans e2, hu.mono hle36⟩, fun v e => (hO.eq v).trans (hof.none v e)⟩
    have hx6 : h6.c xb 3 = some (.map (some bm)) := hle36.c _ _ _ (hle3.c _ _ _ e3)
    refine Con.mono (at_spec hx6 (hm.mono (hle3.trans hle36) _) hi2 (hi1.mono (hle5.trans hle6)) e1 hO.r hOn (hv.norm _ hcm) (fun y hy => cops_mem hpi hy) hlit ((hvp.pt _ hpi).lit hv.ru) (by omega) (hct _ hcm) (hpt _ hpi) (fun y hy => (hv.deps y hy).1.asc)) ?_
    rintro _ h7 m3 hle7 ⟨⟨s7, rfl, hs7⟩, rfl⟩
    obtain ⟨s7a, s7c, rfl, -⟩ := hs7.s
    ((try (conv => whnf)); repeat ((first | refine And.intro ?_ True.intro | refine And.intro ⟨by omega, by omega⟩ ?_ | refine ⟨_, (by assumption : RO.c _ _ _ = _), ?_⟩ | refine ⟨_, _, _, (by assumption : (_ : Option Obj) = _), ?_⟩ | refine ⟨_, _, _, (by assumption : RO.c _ _ _ = _), ?_⟩ | refine ⟨_, (by assumption : Row _ _ _ _), ?_⟩ | refine ⟨_, (by assumption : Cell _ _ _ _ _), ?_⟩ | refine ⟨_, _, _, (by assumption : Cell _ _ _ _ _), ?_⟩ | refine ⟨_, Or.inl (by assumption), ?_⟩ | refine ⟨_, _, _, Or.inl (by assumption), ?_⟩ | refine And.intro (ints_one _) ?_ | refine And.intro (by omega) ?_ | refine d1 ?_ | refine d2 ?_ | refine d3 ?_ | refine d4 ?_ | refine go G29 400 hC (by kernel_rfl) ?_); (conv => whnf)))
    refine ⟨rfl, by show (cur.length + 1) * 24 ≤ 140737488355328; omega, fun a8 c8 h8 hle8 hrow8 => ?_⟩
    change Row h8 1 (.slice a8 (cur.length + 1) c8) (vfs ++ [.slice s7a (clC (cops ex pts) ex (gl pts i) (gl cls k)).length s7c]) at hrow8
    have hllr8 : LLR h8 (vfs ++ [.slice s7a (clC (cops ex pts) ex (gl pts i) (gl cls k)).length s7c]) (cur ++ [clC (cops ex pts) ex (gl pts i) (gl cls k)]) := LLR.snoc (hllr2.mono (hle7.trans hle8)) (hs7.mono hle8)
    obtain ⟨b8, o8, rfl, hc8⟩ := hrow8.cells (by omega)
    have hcl8 : h8.c b8 (o8 + cur.length) = some (.slice s7a (clC (cops ex pts) ex (gl pts i) (gl cls k)).length s7c) := hc8 _ _ (by rw [← hllr2.1]; simp)
    have hw1 : IntKind.i64.wrap (((cur.length + 1 : Nat) : Int) - 1) = (cur.length : Int) := by rw [w64 (by omega) (by omega)]; omega
    have hcl8' : h8.c b8 (o8 + (IntKind.i64.wrap (((cur.length + 1 : Nat) : Int) - 1)).toNat) = some (.slice s7a (clC (cops ex pts) ex (gl pts i) (gl cls k)).length s7c) := by rw [hw1]; exact hcl8
    ((try (conv => whnf)); repeat ((first | refine And.intro ?_ True.intro | refine And.intro ⟨by omega, by omega⟩ ?_ | refine ⟨_, (by assumption : RO.c _ _ _ = _), ?_⟩ | refine ⟨_, _, _, (by assumption : (_ : Option Obj) = _), ?_⟩ | refine ⟨_, _, _, (by assumption : RO.c _ _ _ = _), ?_⟩ | refine ⟨_, (by assumption : Row _ _ _ _), ?_⟩ | refine ⟨_, (by assumption : Cell _ _ _ _ _), ?_⟩ | refine ⟨_, _, _, (by assumption : Cell _ _ _ _ _), ?_⟩ | refine ⟨_, Or.inl (by assumption), ?_⟩ | refine ⟨_, _, _, Or.inl (by assumption), ?_⟩ | refine And.intro (ints_one _) ?_ | refine And.intro (by omega) ?_ | refine d1 ?_ | refine d2 ?_ | refine d3 ?_ | refine d4 ?_ | refine go G29 400 hC (by kernel_rfl) ?_); (conv => whnf)))
    refine ⟨fun _ => ?_, fun h => absurd h (by simp; omega)⟩
    have hw2 : IntKind.i64.wrap (((tot cur : Nat) : Int) + ((clC (cops ex pts) ex (gl pts i) (gl cls k)).length : Int)) = ((tot cur + (clC (cops ex pts) ex (gl pts i) (gl cls k)).length : Nat) : Int) := by rw [w64 (by omega) (by omega)]; omega
    ((try (conv => whnf)); repeat ((first | refine And.intro ?_ True.intro | refine And.intro ⟨by omega, by omega⟩ ?_ | refine ⟨_, (by assumption : RO.c _ _ _ = _), ?_⟩ | refine ⟨_, _, _, (by assumption : (_ : Option Obj) = _), ?_⟩ | refine ⟨_, _, _, (by assumption : RO.c _ _ _ = _), ?_⟩ | refine ⟨_, (by assumption : Row _ _ _ _), ?_⟩ | refine ⟨_, (by assumption : Cell _ _ _ _ _), ?_⟩ | refine ⟨_, _, _, (by assumption : Cell _ _ _ _ _), ?_⟩ | refine ⟨_, Or.inl (by assumption), ?_⟩ | refine ⟨_, _, _, Or.inl (by assumption), ?_⟩ | refine And.intro (ints_one _) ?_ | refine And.intro (by omega) ?_ | refine d1 ?_ | refine d2 ?_ | refine d3 ?_ | refine d4 ?_ | refine go G29 400 hC (by kernel_rfl) ?_); (conv => whnf)))
    refine ⟨fun h => absurd h (by rw [hw2]; simp; omega), fun _ => ?_⟩
    ((try (conv => whnf)); repeat ((first | refine And.intro ?_ True.intro | refine And.intro ⟨by omega, by omega⟩ ?_ | refine ⟨_, (by assumption : RO.c _ _ _ = _), ?_⟩ | refine ⟨_, _, _, (by assumption : (_ : Option Obj) = _), ?_⟩ | refine ⟨_, _, _, (by assumption : RO.c _ _ _ = _), ?_⟩ | refine ⟨_, (by assumption : Row _ _ _ _), ?_⟩ | refine ⟨_, (by assumption : Cell _ _ _ _ _), ?_⟩ | refine ⟨_, _, _, (by assumption : Cell _ _ _ _ _), ?_⟩ | refine ⟨_, Or.inl (by assumption), ?_⟩ | refine ⟨_, _, _, Or.inl (by assumption), ?_⟩ | refine And.intro (ints_one _) ?_ | refine And.intro (by omega) ?_ | refine d1 ?_ | refine d2 ?_ | refine d3 ?_ | refine d4 ?_ | refine go G29 400 hC (by kernel_rfl) ?_); (conv => whnf)))
    refine halt ⟨(k + 1, .slice (some ⟨b8, o8, none⟩) (cur.length + 1) c8, vfs ++ [.slice s7a (clC (cops ex pts) ex (gl pts i) (gl cls k)).length s7c]), [(2, 2), (14, 14), (11, 63)], ⟨by simp [sinj], ⟨⟨rfl, rfl⟩, ?_, stepI (by omega), ?_⟩, ?_, ?_⟩, hle7.trans hle8, ⟨hlt2, (hle6.trans hle7).trans hle8, rfl, ⟨some ⟨b8, o8, none⟩, c8, ?_, hrow8⟩, ?_⟩, by dsimp only; omega⟩
    · show Value.int .i64 _ = .int .i64 (IntKind.i64.wrap (((tot cur : Nat) : Int) + ((clC (cops ex pts) ex (gl pts i) (gl cls k)).length : Int)))
      rw [hw2, htc1]
    · repeat (first | exact trivial | refine ⟨rfl, ?_⟩ | refine ⟨⟨rfl, rfl⟩, ?_⟩)
    · show some _ = some (BS.row _ _ _ _ _)
      rw [hlc1]; rfl
    · repeat (first | exact trivial | refine ⟨rfl, ?_⟩)
    · rw [hlc1]
    · rw [happ]; exact hllr8
end Go.Proofs.YtoefoaabnjeofaaGreat
namespace Go.Proofs.YtoefoaabnjeofaaGreat
open Go.SX Go.Sort
set_option maxHeartbeats 4000000
set_option maxRecDepth 20000
def okFm (ls : List (List Int)) (i : Nat) : Bool := !decide (((tot (ls.take (i + 1)) : Nat) : Int) > 200000) && pnormal (gl ls i)
def pform (ls : List (List Int)) : Bool := !decide ((ls.length : Int) > 20000) && allN ls.length (okFm ls)
def G168 : Gv := ⟨[], [], []⟩
theorem sform_spec {u : Value} {ls : List (List Int)} {h : RO} {m : Hp} (ha : LLS h u ls) (ht : tot ls ≤ 1000000000000) :
    Con Tryz.prog 168 [u] h m fun e h' m' => e = .returned (.bool (pform ls)) ∧ h' = h ∧ m' = m := by
  obtain ⟨x, c, rfl⟩ := ha.sl
  have hla := ha.len
  refine fn_of (nt := 27) T Tryz.func168 rfl (by kernel_rfl) Tryz.ntmps168 (by simp) T_ok T_mixed fun C hC => ?_
  simp only [Tryz.f168, argFr, Nat.zero_add, Nat.reduceAdd] at hC ⊢
  ((try (conv => whnf)); repeat ((first | refine And.intro ?_ True.intro | refine And.intro ⟨by omega, by omega⟩ ?_ | refine ⟨_, (by assumption : RO.c _ _ _ = _), ?_⟩ | refine ⟨_, _, _, (by assumption : (_ : Option Obj) = _), ?_⟩ | refine ⟨_, _, _, (by assumption : RO.c _ _ _ = _), ?_⟩ | refine ⟨_, (by assumption : Row _ _ _ _), ?_⟩ | refine ⟨_, (by assumption : Cell _ _ _ _ _), ?_⟩ | refine ⟨_, _, _, (by assumption : Cell _ _ _ _ _), ?_⟩ | refine ⟨_, Or.inl (by assumption), ?_⟩ | refine ⟨_, _, _, Or.inl (by assumption), ?_⟩ | refine And.intro (ints_one _) ?_ | refine And.intro (by omega) ?_ | refine d1 ?_ | refine d2 ?_ | refine d3 ?_ | refine d4 ?_ | refine go G168 400 hC (by kernel_rfl) ?_); (conv => whnf)))
  refine ⟨fun hq => ?_, fun hq => ?_⟩ <;> ((try (conv => whnf)); repeat ((first | refine And.intro ?_ True.intro | refine And.intro ⟨by omega, by omega⟩ ?_ | refine ⟨_, (by assumption : RO.c _ _ _ = _), ?_⟩ | refine ⟨_, _, _, (by assumption : (_ : Option Obj) = _), ?_⟩ | refine ⟨_, _, _, (by assumption : RO.c _ _ _ = _), ?_⟩ | refine ⟨_, (by assumption : Row _ _ _ _), ?_⟩ | refine ⟨_, (by assumption : Cell _ _ _ _ _), ?_⟩ | refine ⟨_, _, _, (by assumption : Cell _ _ _ _ _), ?_⟩ | refine ⟨_, Or.inl (by assumption), ?_⟩ | refine ⟨_, _, _, Or.inl (by assumption), ?_⟩ | refine And.intro (ints_one _) ?_ | refine And.intro (by omega) ?_ | refine d1 ?_ | refine d2 ?_ | refine d3 ?_ | refine d4 ?_ | refine go G168 400 hC (by kernel_rfl) ?_); (conv => whnf)))
  · exact ⟨by rw [pform, hq]; rfl, rfl, rfl⟩
  refine halt (sx_loopK (X := Nat) [9, 10] (fun i => [(3, .v (.int .i64 (tot (ls.take i) : Nat))), (11, .v (.int .i64 i))]) (fun _ => [])
    (fun i h' m' => i ≤ ls.length ∧ (∀ j, j < i → okFm ls j = true) ∧ h' = h ∧ m' = m) (fun i => ls.length - i) 0 (by repeat (first | exact Keep.nil | apply Keep.cons rfl | apply Keep.skip rfl)) ⟨[], ⟨by simp [sinj], by repeat (first | exact trivial | refine ⟨rfl, ?_⟩ | refine ⟨⟨rfl, rfl⟩, ?_⟩ | refine ⟨⟨rfl, rfl, rfl⟩, ?_⟩ | refine ⟨stepI (by omega), ?_⟩ | refine ⟨by assumption, ?_⟩), by repeat (first | exact trivial | refine ⟨rfl, ?_⟩ | refine ⟨⟨rfl, rfl, rfl⟩, ?_⟩ | refine ⟨by assumption, ?_⟩)⟩⟩ ⟨by omega, by simp, rfl, rfl⟩ ?_)
  rintro i h' m' - ⟨hi, hn, rfl, rfl⟩
  ((try (conv => whnf)); repeat ((first | refine And.intro ?_ True.intro | refine And.intro ⟨by omega, by omega⟩ ?_ | refine ⟨_, (by assumption : RO.c _ _ _ = _), ?_⟩ | refine ⟨_, _, _, (by assumption : (_ : Option Obj) = _), ?_⟩ | refine ⟨_, _, _, (by assumption : RO.c _ _ _ = _), ?_⟩ | refine ⟨_, (by assumption : Row _ _ _ _), ?_⟩ | refine ⟨_, (by assumption : Cell _ _ _ _ _), ?_⟩ | refine ⟨_, _, _, (by assumption : Cell _ _ _ _ _), ?_⟩ | refine ⟨_, Or.inl (by assumption), ?_⟩ | refine ⟨_, _, _, Or.inl (by assumption), ?_⟩ | refine And.intro (ints_one _) ?_ | refine And.intro (by omega) ?_ | refine d1 ?_ | refine d2 ?_ | refine d3 ?_ | refine d4 ?_ | refine go G168 400 hC (by kernel_rfl) ?_); (conv => whnf)))
  refine ⟨fun hlt => ?_, fun hge => ?_⟩
  · have hlt : i < ls.length := by simpa using hlt
    obtain ⟨p, q, rfl, hc⟩ := ha.get hlt
    obtain ⟨a', c', c1, hi1⟩ := hc i hlt
    have h1 := tot_take hlt
    have h2 := tot_le ls (i + 1)
    have hw : IntKind.i64.wrap (((tot (ls.take i) : Nat) : Int) + ((gl ls i).length : Int)) = ((tot (ls.take (i + 1)) : Nat) : Int) := by rw [w64 (by omega) (by omega), h1]; omega
    have bad : okFm ls i = false → Ending.returned (.bool false) = Ending.returned (.bool (pform ls)) := fun hb => by rw [pform, allN_false hlt hb, Bool.and_false]
    ((try (conv => whnf)); repeat ((first | refine And.intro ?_ True.intro | refine And.intro ⟨by omega, by omega⟩ ?_ | refine ⟨_, (by assumption : RO.c _ _ _ = _), ?_⟩ | refine ⟨_, _, _, (by assumption : (_ : Option Obj) = _), ?_⟩ | refine ⟨_, _, _, (by assumption : RO.c _ _ _ = _), ?_⟩ | refine ⟨_, (by assumption : Row _ _ _ _), ?_⟩ | refine ⟨_, (by assumption : Cell _ _ _ _ _), ?_⟩ | refine ⟨_, _, _, (by assumption : Cell _ _ _ _ _), ?_⟩ | refine ⟨_, Or.inl (by assumption), ?_⟩ | refine ⟨_, _, _, Or.inl (by assumption), ?_⟩ | refine And.intro (ints_one _) ?_ | refine And.intro (by omega) ?_ | refine d1 ?_ | refine d2 ?_ | refine d3 ?_ | refine d4 ?_ | refine go G168 400 hC (by kernel_rfl) ?_); (conv => whnf)))
    refine ⟨fun hq2 => ?_, fun hq2 => ?_⟩ <;> rw [hw] at hq2 <;> ((try (conv => whnf)); repeat ((first | refine And.intro ?_ True.intro | refine And.intro ⟨by omega, by omega⟩ ?_ | refine ⟨_, (by assumption : RO.c _ _ _ = _), ?_⟩ | refine ⟨_, _, _, (by assumption : (_ : Option Obj) = _), ?_⟩ | refine ⟨_, _, _, (by assumption : RO.c _ _ _ = _), ?_⟩ | refine ⟨_, (by assumption : Row _ _ _ _), ?_⟩ | refine ⟨_, (by assumption : Cell _ _ _ _ _), ?_⟩ | refine ⟨_, _, _, (by assumption : Cell _ _ _ _ _), ?_⟩ | refine ⟨_, Or.inl (by assumption), ?_⟩ | refine ⟨_, _, _, Or.inl (by assumption), ?_⟩ | refine And.intro (ints_one _) ?_ | refine And.intro (by omega) ?_ | refine d1 ?_ | refine d2 ?_ | refine d3 ?_ | refine d4 ?_ | refine go G168 400 hC (by kernel_rfl) ?_); (conv => whnf)))
    · (refine Con.mono (snormal_spec hi1) ?_; rintro _ _ _ - ⟨rfl, rfl, rfl⟩; ((try (conv => whnf)); repeat ((first | refine And.intro ?_ True.intro | refine And.intro ⟨by omega, by omega⟩ ?_ | refine ⟨_, (by assumption : RO.c _ _ _ = _), ?_⟩ | refine ⟨_, _, _, (by assumption : (_ : Option Obj) = _), ?_⟩ | refine ⟨_, _, _, (by assumption : RO.c _ _ _ = _), ?_⟩ | refine ⟨_, (by assumption : Row _ _ _ _), ?_⟩ | refine ⟨_, (by assumption : Cell _ _ _ _ _), ?_⟩ | refine ⟨_, _, _, (by assumption : Cell _ _ _ _ _), ?_⟩ | refine ⟨_, Or.inl (by assumption), ?_⟩ | refine ⟨_, _, _, Or.inl (by assumption), ?_⟩ | refine And.intro (ints_one _) ?_ | refine And.intro (by omega) ?_ | refine d1 ?_ | refine d2 ?_ | refine d3 ?_ | refine d4 ?_ | refine go G168 400 hC (by kernel_rfl) ?_); (conv => whnf))))
      refine ⟨fun hq3 => ?_, fun hq3 => ?_⟩ <;> ((try (conv => whnf)); repeat ((first | refine And.intro ?_ True.intro | refine And.intro ⟨by omega, by omega⟩ ?_ | refine ⟨_, (by assumption : RO.c _ _ _ = _), ?_⟩ | refine ⟨_, _, _, (by assumption : (_ : Option Obj) = _), ?_⟩ | refine ⟨_, _, _, (by assumption : RO.c _ _ _ = _), ?_⟩ | refine ⟨_, (by assumption : Row _ _ _ _), ?_⟩ | refine ⟨_, (by assumption : Cell _ _ _ _ _), ?_⟩ | refine ⟨_, _, _, (by assumption : Cell _ _ _ _ _), ?_⟩ | refine ⟨_, Or.inl (by assumption), ?_⟩ | refine ⟨_, _, _, Or.inl (by assumption), ?_⟩ | refine And.intro (ints_one _) ?_ | refine And.intro (by omega) ?_ | refine d1 ?_ | refine d2 ?_ | refine d3 ?_ | refine d4 ?_ | refine go G168 400 hC (by kernel_rfl) ?_); (conv => whnf)))
      · exact ⟨bad (by rw [okFm]; simp at hq3; rw [hq3, Bool.and_false]), rfl, rfl⟩
      · refine halt ⟨i + 1, [], ⟨by simp [sinj], ⟨by rw [← hw]; rfl, stepI (by omega), ?_⟩, trivial⟩, RO.le.refl _, ⟨hlt, allS hn (by rw [okFm, hq2]; simpa using hq3), rfl, rfl⟩, by omega⟩
        repeat (first | exact trivial | refine ⟨rfl, ?_⟩)
    · exact ⟨bad (by rw [okFm, hq2]; rfl), rfl, rfl⟩
  · have hge : i = ls.length := by simp at hge; omega
    ((try (conv => whnf)); repeat ((first | refine And.intro ?_ True.intro | refine And.intro ⟨by omega, by omega⟩ ?_ | refine ⟨_, (by assumption : RO.c _ _ _ = _), ?_⟩ | refine ⟨_, _, _, (by assumption : (_ : Option Obj) = _), ?_⟩ | refine ⟨_, _, _, (by assumption : RO.c _ _ _ = _), ?_⟩ | refine ⟨_, (by assumption : Row _ _ _ _), ?_⟩ | refine ⟨_, (by assumption : Cell _ _ _ _ _), ?_⟩ | refine ⟨_, _, _, (by assumption : Cell _ _ _ _ _), ?_⟩ | refine ⟨_, Or.inl (by assumption), ?_⟩ | refine ⟨_, _, _, Or.inl (by assumption), ?_⟩ | refine And.intro (ints_one _) ?_ | refine And.intro (by omega) ?_ | refine d1 ?_ | refine d2 ?_ | refine d3 ?_ | refine d4 ?_ | refine go G168 400 hC (by kernel_rfl) ?_); (conv => whnf)))
    exact ⟨by rw [pform, hq, allN_true (hge ▸ hn)]; rfl, rfl, rfl⟩
def G80 : Gv := ⟨[], [], []⟩
theorem smay_spec {u v : Value} {ls : List (List Int)} {l : List Int} {h : RO} {m : Hp} (ha : LLS h u ls) (ht : tot ls ≤ 1000000000000) (hb : IntS h v l) :
    Con Tryz.prog 80 [u, v] h m fun e h' m' => e = .returned (.bool (pform ls && pnormal l)) ∧ h' = h ∧ m' = m := by
  refine fn_of (nt := 11) T Tryz.func80 rfl (by kernel_rfl) Tryz.ntmps80 (by simp) T_ok T_mixed fun C hC => ?_
  simp only [Tryz.f80, argFr, Nat.zero_add, Nat.reduceAdd] at hC ⊢
  ((try (conv => whnf)); repeat ((first | refine And.intro ?_ True.intro | refine And.intro ⟨by omega, by omega⟩ ?_ | refine ⟨_, (by assumption : RO.c _ _ _ = _), ?_⟩ | refine ⟨_, _, _, (by assumption : (_ : Option Obj) = _), ?_⟩ | refine ⟨_, _, _, (by assumption : RO.c _ _ _ = _), ?_⟩ | refine ⟨_, (by assumption : Row _ _ _ _), ?_⟩ | refine ⟨_, (by assumption : Cell _ _ _ _ _), ?_⟩ | refine ⟨_, _, _, (by assumption : Cell _ _ _ _ _), ?_⟩ | refine ⟨_, Or.inl (by assumption), ?_⟩ | refine ⟨_, _, _, Or.inl (by assumption), ?_⟩ | refine And.intro (ints_one _) ?_ | refine And.intro (by omega) ?_ | refine d1 ?_ | refine d2 ?_ | refine d3 ?_ | refine d4 ?_ | refine go G80 400 hC (by kernel_rfl) ?_); (conv => whnf)))
  (refine Con.mono (sform_spec ha ht) ?_; rintro _ _ _ - ⟨rfl, rfl, rfl⟩; ((try (conv => whnf)); repeat ((first | refine And.intro ?_ True.intro | refine And.intro ⟨by omega, by omega⟩ ?_ | refine ⟨_, (by assumption : RO.c _ _ _ = _), ?_⟩ | refine ⟨_, _, _, (by assumption : (_ : Option Obj) = _), ?_⟩ | refine ⟨_, _, _, (by assumption : RO.c _ _ _ = _), ?_⟩ | refine ⟨_, (by assumption : Row _ _ _ _), ?_⟩ | refine ⟨_, (by assumption : Cell _ _ _ _ _), ?_⟩ | refine ⟨_, _, _, (by assumption : Cell _ _ _ _ _), ?_⟩ | refine ⟨_, Or.inl (by assumption), ?_⟩ | refine ⟨_, _, _, Or.inl (by assumption), ?_⟩ | refine And.intro (ints_one _) ?_ | refine And.intro (by omega) ?_ | refine d1 ?_ | refine d2 ?_ | refine d3 ?_ | refine d4 ?_ | refine go G80 400 hC (by kernel_rfl) ?_); (conv => whnf))))
  refine ⟨fun hq => ?_, fun hq => ?_⟩ <;> ((try (conv => whnf)); repeat ((first | refine And.intro ?_ True.intro | refine And.intro ⟨by omega, by omega⟩ ?_ | refine ⟨_, (by assumption : RO.c _ _ _ = _), ?_⟩ | refine ⟨_, _, _, (by assumption : (_ : Option Obj) = _), ?_⟩ | refine ⟨_, _, _, (by assumption : RO.c _ _ _ = _), ?_⟩ | refine ⟨_, (by assumption : Row _ _ _ _), ?_⟩ | refine ⟨_, (by assumption : Cell _ _ _ _ _), ?_⟩ | refine ⟨_, _, _, (by assumption : Cell _ _ _ _ _), ?_⟩ | refine ⟨_, Or.inl (by assumption), ?_⟩ | refine ⟨_, _, _, Or.inl (by assumption), ?_⟩ | refine And.intro (ints_one _) ?_ | refine And.intro (by omega) ?_ | refine d1 ?_ | refine d2 ?_ | refine d3 ?_ | refine d4 ?_ | refine go G80 400 hC (by kernel_rfl) ?_); (conv => whnf)))
  · (refine Con.mono (snormal_spec hb) ?_; rintro _ _ _ - ⟨rfl, rfl, rfl⟩; ((try (conv => whnf)); repeat ((first | refine And.intro ?_ True.intro | refine And.intro ⟨by omega, by omega⟩ ?_ | refine ⟨_, (by assumption : RO.c _ _ _ = _), ?_⟩ | refine ⟨_, _, _, (by assumption : (_ : Option Obj) = _), ?_⟩ | refine ⟨_, _, _, (by assumption : RO.c _ _ _ = _), ?_⟩ | refine ⟨_, (by assumption : Row _ _ _ _), ?_⟩ | refine ⟨_, (by assumption : Cell _ _ _ _ _), ?_⟩ | refine ⟨_, _, _, (by assumption : Cell _ _ _ _ _), ?_⟩ | refine ⟨_, Or.inl (by assumption), ?_⟩ | refine ⟨_, _, _, Or.inl (by assumption), ?_⟩ | refine And.intro (ints_one _) ?_ | refine And.intro (by omega) ?_ | refine d1 ?_ | refine d2 ?_ | refine d3 ?_ | refine d4 ?_ | refine go G80 400 hC (by kernel_rfl) ?_); (conv => whnf))))
    exact ⟨by rw [hq]; rfl, rfl, rfl⟩
  · exact ⟨by rw [hq]; rfl, rfl, rfl⟩
theorem LLS.nil (h : RO) : LLS h (.slice none 0 0) [] := ⟨⟨none, 0, [], rfl, ⟨none, 0, 0, rfl, rfl, Nat.le_refl _, .inl ⟨rfl, rfl⟩⟩, fun i l e => by simp at e⟩, by simp⟩
/-- sat.Check of no lines. -/
def G131 : Gv := ⟨[], [3, 8], [(7, .one 0 (.one 1 (.one 2 (.one 3 (.one 4 (.one 5 (.fork 6 (.one 7 (.nil)) .stop)))))))]⟩
theorem scheck0_spec {u : Value} {b : Bool} {h : RO} {m : Hp} :
    Con Tryz.prog 131 [u, .agg #[.bool b, .slice none 0 0]] h m fun e h' m' => e = .returned (.tuple #[.slice none 0 0, .bool false]) ∧ m' = m := by
  refine fn_of (nt := 54) T Tryz.func131 rfl (by kernel_rfl) Tryz.ntmps131 (by simp) T_ok T_mixed fun C hC => ?_
  simp only [Tryz.f131, argFr, Nat.zero_add, Nat.reduceAdd] at hC ⊢
  ((try (conv => whnf)); repeat ((first | refine And.intro ?_ True.intro | refine And.intro ⟨by omega, by omega⟩ ?_ | refine ⟨_, (by assumption : RO.c _ _ _ = _), ?_⟩ | refine ⟨_, _, _, (by assumption : (_ : Option Obj) = _), ?_⟩ | refine ⟨_, _, _, (by assumption : RO.c _ _ _ = _), ?_⟩ | refine ⟨_, (by assumption : Row _ _ _ _), ?_⟩ | refine ⟨_, (by assumption : Cell _ _ _ _ _), ?_⟩ | refine ⟨_, _, _, (by assumption : Cell _ _ _ _ _), ?_⟩ | refine ⟨_, Or.inl (by assumption), ?_⟩ | refine ⟨_, _, _, Or.inl (by assumption), ?_⟩ | refine And.intro (ints_one _) ?_ | refine And.intro (by omega) ?_ | refine d1 ?_ | refine d2 ?_ | refine d3 ?_ | refine d4 ?_ | refine go G131 400 hC (by kernel_rfl) ?_); (conv => whnf)))
  intro b1 h1 hle1 hp1
  ((try (conv => whnf)); repeat ((first | refine And.intro ?_ True.intro | refine And.intro ⟨by omega, by omega⟩ ?_ | refine ⟨_, (by assumption : RO.c _ _ _ = _), ?_⟩ | refine ⟨_, _, _, (by assumption : (_ : Option Obj) = _), ?_⟩ | refine ⟨_, _, _, (by assumption : RO.c _ _ _ = _), ?_⟩ | refine ⟨_, (by assumption : Row _ _ _ _), ?_⟩ | refine ⟨_, (by assumption : Cell _ _ _ _ _), ?_⟩ | refine ⟨_, _, _, (by assumption : Cell _ _ _ _ _), ?_⟩ | refine ⟨_, Or.inl (by assumption), ?_⟩ | refine ⟨_, _, _, Or.inl (by assumption), ?_⟩ | refine And.intro (ints_one _) ?_ | refine And.intro (by omega) ?_ | refine d1 ?_ | refine d2 ?_ | refine d3 ?_ | refine d4 ?_ | refine go G131 400 hC (by kernel_rfl) ?_); (conv => whnf)))
  exact ⟨rfl, rfl⟩
def G58 : Gv := ⟨[], [], []⟩
theorem acheck0_spec {u v w r : Value} {b : Bool} {univ : List Int} {ex : List (Int × List Int)} {cls pts : List (List Int)} {h : RO} {m : Hp} (ha : IntS h u univ) (hb : DepS h v ex) (hc : LLS h w cls) (hp : LLS h r pts)
    (hl : univ.length + ex.length ≤ 1000000000) (ht : tot cls ≤ 1000000000000) (hpt : ∀ p ∈ pts, p.length ≤ 1000000) (hct : ∀ c ∈ cls, c.length ≤ 1000000) (hsm : pts.length * ex.length ≤ 65536) (hn1 : pts.length * cls.length ≤ 20000) (hn2 : pts.length * tot cls ≤ 200000) :
    Con Tryz.prog 58 [.agg #[u, v, w], r, .agg #[.bool b, .slice none 0 0]] h m fun e h' m' => e = .returned (.bool false) ∧ m' = m := by
  refine fn_of (nt := 31) T Tryz.func58 rfl (by kernel_rfl) Tryz.ntmps58 (by simp) T_ok T_mixed fun C hC => ?_
  simp only [Tryz.f58, argFr, Nat.zero_add, Nat.reduceAdd] at hC ⊢
  ((try (conv => whnf)); repeat ((first | refine And.intro ?_ True.intro | refine And.intro ⟨by omega, by omega⟩ ?_ | refine ⟨_, (by assumption : RO.c _ _ _ = _), ?_⟩ | refine ⟨_, _, _, (by assumption : (_ : Option Obj) = _), ?_⟩ | refine ⟨_, _, _, (by assumption : RO.c _ _ _ = _), ?_⟩ | refine ⟨_, (by assumption : Row _ _ _ _), ?_⟩ | refine ⟨_, (by assumption : Cell _ _ _ _ _), ?_⟩ | refine ⟨_, _, _, (by assumption : Cell _ _ _ _ _), ?_⟩ | refine ⟨_, Or.inl (by assumption), ?_⟩ | refine ⟨_, _, _, Or.inl (by assumption), ?_⟩ | refine And.intro (ints_one _) ?_ | refine And.intro (by omega) ?_ | refine d1 ?_ | refine d2 ?_ | refine d3 ?_ | refine d4 ?_ | refine go G58 400 hC (by kernel_rfl) ?_); (conv => whnf)))
  refine Con.mono (expand_spec ha hb hc hp hl ht hpt hct hsm hn1 hn2) ?_
  rintro _ h2 m2 hle2 ⟨hR, rfl⟩
  cases hq : mayA univ ex cls pts with
  | false =>
    rw [hq] at hR
    subst hR
    ((try (conv => whnf)); repeat ((first | refine And.intro ?_ True.intro | refine And.intro ⟨by omega, by omega⟩ ?_ | refine ⟨_, (by assumption : RO.c _ _ _ = _), ?_⟩ | refine ⟨_, _, _, (by assumption : (_ : Option Obj) = _), ?_⟩ | refine ⟨_, _, _, (by assumption : RO.c _ _ _ = _), ?_⟩ | refine ⟨_, (by assumption : Row _ _ _ _), ?_⟩ | refine ⟨_, (by assumption : Cell _ _ _ _ _), ?_⟩ | refine ⟨_, _, _, (by assumption : Cell _ _ _ _ _), ?_⟩ | refine ⟨_, Or.inl (by assumption), ?_⟩ | refine ⟨_, _, _, Or.inl (by assumption), ?_⟩ | refine And.intro (ints_one _) ?_ | refine And.intro (by omega) ?_ | refine d1 ?_ | refine d2 ?_ | refine d3 ?_ | refine d4 ?_ | refine go G58 400 hC (by kernel_rfl) ?_); (conv => whnf)))
    exact ⟨rfl, rfl⟩
  | true =>
    rw [hq] at hR
    obtain ⟨s, rfl, hs⟩ := hR
    ((try (conv => whnf)); repeat ((first | refine And.intro ?_ True.intro | refine And.intro ⟨by omega, by omega⟩ ?_ | refine ⟨_, (by assumption : RO.c _ _ _ = _), ?_⟩ | refine ⟨_, _, _, (by assumption : (_ : Option Obj) = _), ?_⟩ | refine ⟨_, _, _, (by assumption : RO.c _ _ _ = _), ?_⟩ | refine ⟨_, (by assumption : Row _ _ _ _), ?_⟩ | refine ⟨_, (by assumption : Cell _ _ _ _ _), ?_⟩ | refine ⟨_, _, _, (by assumption : Cell _ _ _ _ _), ?_⟩ | refine ⟨_, Or.inl (by assumption), ?_⟩ | refine ⟨_, _, _, Or.inl (by assumption), ?_⟩ | refine And.intro (ints_one _) ?_ | refine And.intro (by omega) ?_ | refine d1 ?_ | refine d2 ?_ | refine d3 ?_ | refine d4 ?_ | refine go G58 400 hC (by kernel_rfl) ?_); (conv => whnf)))
    refine Con.mono scheck0_spec ?_
    rintro _ h3 m3 hle3 ⟨rfl, rfl⟩
    ((try (conv => whnf)); repeat ((first | refine And.intro ?_ True.intro | refine And.intro ⟨by omega, by omega⟩ ?_ | refine ⟨_, (by assumption : RO.c _ _ _ = _), ?_⟩ | refine ⟨_, _, _, (by assumption : (_ : Option Obj) = _), ?_⟩ | refine ⟨_, _, _, (by assumption : RO.c _ _ _ = _), ?_⟩ | refine ⟨_, (by assumption : Row _ _ _ _), ?_⟩ | refine ⟨_, (by assumption : Cell _ _ _ _ _), ?_⟩ | refine ⟨_, _, _, (by assumption : Cell _ _ _ _ _), ?_⟩ | refine ⟨_, Or.inl (by assumption), ?_⟩ | refine ⟨_, _, _, Or.inl (by assumption), ?_⟩ | refine And.intro (ints_one _) ?_ | refine And.intro (by omega) ?_ | refine d1 ?_ | refine d2 ?_ | refine d3 ?_ | refine d4 ?_ | refine go G58 400 hC (by kernel_rfl) ?_); (conv => whnf)))
    exact ⟨rfl, rfl⟩
end Go.Proofs.YtoefoaabnjeofaaGreat
namespace Go.Proofs.YtoefoaabnjeofaaGreat
open Go.SX Go.Sort
set_option maxHeartbeats 4000000
set_option maxRecDepth 20000
/-- A slice of lists whose own cells may be changed. -/
def LLM (h : RO) (m : Hp) (v : Value) (ls : List (List Int)) : Prop := ∃ es, MRow m 22 1 v ls.length es ∧ LLR h es ls
theorem LLM.get {h : RO} {m : Hp} {v : Value} {ls : List (List Int)} (r : LLM h m v ls) {i : Nat} (hi : i < ls.length) :
    ∃ g c, v = .slice (some ⟨g, 0, none⟩) ls.length c ∧ ∀ j, j < ls.length → ∃ u, Cell h m g (0 + j) u ∧ IntS h u (gl ls j) := by
  obtain ⟨es, hr, hl⟩ := r
  rcases hr.2 with ⟨_, h0⟩ | ⟨g, cap, cur, e, h2, h3, h4, h5, h6⟩
  · omega
  refine ⟨g, cap, e, fun j hj => ?_⟩
  obtain ⟨u, hu, hi⟩ := hl.2 j _ (gl_get hj)
  refine ⟨u, Cell.of h2 ?_, hi⟩
  rw [← h6] at hu
  rw [Nat.zero_add]
  rw [List.getElem?_take] at hu
  split at hu
  · simpa using hu
  · cases hu
theorem LLM.sl {h : RO} {m : Hp} {v : Value} {ls : List (List Int)} (r : LLM h m v ls) : ∃ a c, v = .slice a ls.length c := by
  obtain ⟨es, hr, _⟩ := r; exact hr.sl
theorem LLM.mono {h h' : RO} {m : Hp} {v : Value} {ls : List (List Int)} (r : LLM h m v ls) (hl : h.le h') : LLM h' m v ls := by
  obtain ⟨es, hr, h1⟩ := r; exact ⟨es, hr, h1.mono hl⟩
theorem LLM.keep {h : RO} {m m' : Hp} {v : Value} {ls : List (List Int)} (r : LLM h m v ls) (hk : ∀ g o, v.ownBlock = some g → m g = some o → m' g = some o) : LLM h m' v ls := by
  obtain ⟨es, ⟨h0, hr⟩, h1⟩ := r
  refine ⟨es, ⟨h0, hr.imp id ?_⟩, h1⟩
  rintro ⟨g, cap, cur, rfl, h2, h3⟩
  exact ⟨g, cap, cur, rfl, hk g _ rfl h2, h3⟩
def G82 : Gv := ⟨[], [], []⟩
theorem function_spec {u : Value} {cubes : List (List Int)} {K : Mk} {ins : List Int} {ands : List Pr} {h : RO} {m : Hp} (hM : MkI h m K ins ands false) (hc : LLM h m u cubes) (hown : ∀ g, u.ownBlock = some g → ¬ K.fp g)
    (hv : ∀ c ∈ cubes, ∀ x ∈ c, -65536 ≤ x ∧ x ≤ 65536 ∧ abs64 x ∈ ins) (hsz : 1 + ins.length + ands.length + tot cubes + cubes.length < 200000) :
    Con Tryz.prog 82 [.pointer (some ⟨K.b, 0, none⟩), u] h m fun e h' m' => e = .returned (.tuple #[.int .i64 (fnS ins ands cubes).1, .int .i64 0]) ∧
      ∃ K', MkI h' m' K' ins (fnS ins ands cubes).2 false ∧ MkS K K' m m' := by
  obtain ⟨ua, uc, rfl⟩ := hc.sl
  refine fn_of (nt := 68) T Tryz.func82 rfl (by kernel_rfl) Tryz.ntmps82 (by simp) T_ok T_mixed fun C hC => ?_
  simp only [Tryz.f82, argFr, Nat.zero_add, Nat.reduceAdd] at hC ⊢
  ((try (conv => whnf)); repeat ((first | refine And.intro ?_ True.intro | refine And.intro ⟨by omega, by omega⟩ ?_ | refine ⟨_, (by assumption : RO.c _ _ _ = _), ?_⟩ | refine ⟨_, _, _, (by assumption : (_ : Option Obj) = _), ?_⟩ | refine ⟨_, _, _, (by assumption : RO.c _ _ _ = _), ?_⟩ | refine ⟨_, (by assumption : Row _ _ _ _), ?_⟩ | refine ⟨_, (by assumption : Cell _ _ _ _ _), ?_⟩ | refine ⟨_, _, _, (by assumption : Cell _ _ _ _ _), ?_⟩ | refine ⟨_, Or.inl (by assumption), ?_⟩ | refine ⟨_, _, _, Or.inl (by assumption), ?_⟩ | refine And.intro (ints_one _) ?_ | refine And.intro (by omega) ?_ | refine d1 ?_ | refine d2 ?_ | refine d3 ?_ | refine d4 ?_ | refine go G82 400 hC (by kernel_rfl) ?_); (conv => whnf)))
  refine halt (sx_loopB (X := Nat × Value) [0, 16, 17] [] (fun x => [(6, .own 6 x.2), (18, .v (.int .i64 x.1))]) (fun x => [(6, .row x.2 3 1 x.1 (ints (fnL ins ands (cubes.take x.1)).1))])
    (fun x h' m' => x.1 ≤ cubes.length ∧ h.le h' ∧ (∃ a c, x.2 = .slice a x.1 c ∧ Row h' 1 x.2 (ints (fnL ins ands (cubes.take x.1)).1)) ∧ ∃ K', MkI h' m' K' ins (fnL ins ands (cubes.take x.1)).2 false ∧ MkS K K' m m') (fun x => cubes.length - x.1) (0, .slice none 0 0) (by repeat (first | exact Keep.nil | apply Keep.cons rfl | apply Keep.skip rfl)) (by repeat (first | exact KeepB.nil | apply KeepB.cons rfl)) ⟨[], ⟨by simp [sinj], by repeat (first | exact trivial | refine ⟨rfl, ?_⟩ | refine ⟨⟨rfl, rfl⟩, ?_⟩ | refine ⟨⟨rfl, rfl, rfl⟩, ?_⟩ | refine ⟨stepI (by omega), ?_⟩ | refine ⟨by assumption, ?_⟩), by repeat (first | exact trivial | refine ⟨rfl, ?_⟩ | refine ⟨⟨rfl, rfl, rfl⟩, ?_⟩ | refine ⟨by assumption, ?_⟩)⟩⟩
    ⟨by simp, RO.le.refl _, ⟨none, 0, rfl, ⟨none, 0, 0, rfl, rfl, Nat.le_refl _, .inl ⟨rfl, rfl⟩⟩⟩, K, hM, MkS.refl _ _⟩ ?_)
  rintro ⟨i, vo⟩ h2 m2 - ⟨hi, hle2, ⟨oa, ok, ev, hrow⟩, K', hK', hS⟩
  dsimp only at hi ev hrow hK' ⊢
  subst ev
  ((try (conv => whnf)); repeat ((first | refine And.intro ?_ True.intro | refine And.intro ⟨by omega, by omega⟩ ?_ | refine ⟨_, (by assumption : RO.c _ _ _ = _), ?_⟩ | refine ⟨_, _, _, (by assumption : (_ : Option Obj) = _), ?_⟩ | refine ⟨_, _, _, (by assumption : RO.c _ _ _ = _), ?_⟩ | refine ⟨_, (by assumption : Row _ _ _ _), ?_⟩ | refine ⟨_, (by assumption : Cell _ _ _ _ _), ?_⟩ | refine ⟨_, _, _, (by assumption : Cell _ _ _ _ _), ?_⟩ | refine ⟨_, Or.inl (by assumption), ?_⟩ | refine ⟨_, _, _, Or.inl (by assumption), ?_⟩ | refine And.intro (ints_one _) ?_ | refine And.intro (by omega) ?_ | refine d1 ?_ | refine d2 ?_ | refine d3 ?_ | refine d4 ?_ | refine go G82 400 hC (by kernel_rfl) ?_); (conv => whnf)))
  refine ⟨fun hlt => ?_, fun hge => ?_⟩
  · have hlt : i < cubes.length := by simpa using hlt
    have hc2 : LLM h2 m2 _ cubes := (hc.mono hle2).keep fun g o e eo => hS.keep g o eo (hown g e)
    obtain ⟨gb, uc', eu, hcc⟩ := hc2.get hlt
    obtain ⟨rfl, rfl⟩ : ua = some ⟨gb, 0, none⟩ ∧ uc = uc' := by cases eu; exact ⟨rfl, rfl⟩
    obtain ⟨cu, c1, hi1⟩ := hcc i hlt
    obtain ⟨ca, ck, rfl, -⟩ := hi1.s
    have hcl := hi1.len
    have hci := hv _ (gl_mem hlt)
    have htk := tot_take hlt
    have htl := tot_le cubes (i + 1)
    have hlk : (cubes.take i).length = i := by simp; omega
    obtain ⟨q1, q2, q3, q4⟩ := fnL_ok (ins := ins) (st := ands) (cubes.take i) (by omega) (fun c hc => fun x hx => (hv c (List.mem_of_mem_take hc) x hx).2.2)
    rw [hlk] at q1
    ((try (conv => whnf)); repeat ((first | refine And.intro ?_ True.intro | refine And.intro ⟨by omega, by omega⟩ ?_ | refine ⟨_, (by assumption : RO.c _ _ _ = _), ?_⟩ | refine ⟨_, _, _, (by assumption : (_ : Option Obj) = _), ?_⟩ | refine ⟨_, _, _, (by assumption : RO.c _ _ _ = _), ?_⟩ | refine ⟨_, (by assumption : Row _ _ _ _), ?_⟩ | refine ⟨_, (by assumption : Cell _ _ _ _ _), ?_⟩ | refine ⟨_, _, _, (by assumption : Cell _ _ _ _ _), ?_⟩ | refine ⟨_, Or.inl (by assumption), ?_⟩ | refine ⟨_, _, _, Or.inl (by assumption), ?_⟩ | refine And.intro (ints_one _) ?_ | refine And.intro (by omega) ?_ | refine d1 ?_ | refine d2 ?_ | refine d3 ?_ | refine d4 ?_ | refine go G82 400 hC (by kernel_rfl) ?_); (conv => whnf)))
    refine halt (sx_loopB (X := Nat × Value) [0, 6, 16, 17, 18, 22, 23] [6] (fun x => [(9, .own 9 x.2), (24, .v (.int .i64 x.1))]) (fun x => [(9, .row x.2 3 1 x.1 (ints (((gl cubes i).take x.1).map (litE ins))))])
      (fun x h' m' => x.1 ≤ (gl cubes i).length ∧ h2.le h' ∧ m' = m2 ∧ (∃ a c, x.2 = .slice a x.1 c ∧ Row h' 1 x.2 (ints (((gl cubes i).take x.1).map (litE ins))))) (fun x => (gl cubes i).length - x.1) (0, .slice none 0 0) (by repeat (first | exact Keep.nil | apply Keep.cons rfl | apply Keep.skip rfl)) (by repeat (first | exact KeepB.nil | apply KeepB.cons rfl)) ⟨[(6, 6)], ⟨by simp [sinj], by repeat (first | exact trivial | refine ⟨rfl, ?_⟩ | refine ⟨⟨rfl, rfl⟩, ?_⟩ | refine ⟨⟨rfl, rfl, rfl⟩, ?_⟩ | refine ⟨stepI (by omega), ?_⟩ | refine ⟨by assumption, ?_⟩), by repeat (first | exact trivial | refine ⟨rfl, ?_⟩ | refine ⟨⟨rfl, rfl, rfl⟩, ?_⟩ | refine ⟨by assumption, ?_⟩)⟩⟩
      ⟨by simp, RO.le.refl _, rfl, none, 0, rfl, ⟨none, 0, 0, rfl, rfl, Nat.le_refl _, .inl ⟨rfl, rfl⟩⟩⟩ ?_)
    rintro ⟨k, vp⟩ h3 m2 - ⟨hk, hle3, rfl, ⟨pa, pk, ev, hrow2⟩⟩
    dsimp only at hk ev hrow2 ⊢
    subst ev
    ((try (conv => whnf)); repeat ((first | refine And.intro ?_ True.intro | refine And.intro ⟨by omega, by omega⟩ ?_ | refine ⟨_, (by assumption : RO.c _ _ _ = _), ?_⟩ | refine ⟨_, _, _, (by assumption : (_ : Option Obj) = _), ?_⟩ | refine ⟨_, _, _, (by assumption : RO.c _ _ _ = _), ?_⟩ | refine ⟨_, (by assumption : Row _ _ _ _), ?_⟩ | refine ⟨_, (by assumption : Cell _ _ _ _ _), ?_⟩ | refine ⟨_, _, _, (by assumption : Cell _ _ _ _ _), ?_⟩ | refine ⟨_, Or.inl (by assumption), ?_⟩ | refine ⟨_, _, _, Or.inl (by assumption), ?_⟩ | refine And.intro (ints_one _) ?_ | refine And.intro (by omega) ?_ | refine d1 ?_ | refine d2 ?_ | refine d3 ?_ | refine d4 ?_ | refine go G82 400 hC (by kernel_rfl) ?_); (conv => whnf)))
    refine ⟨fun hlt2 => ?_, fun hge2 => ?_⟩
    · have hlt2 : k < (gl cubes i).length := by simpa using hlt2
      obtain ⟨p2, o2, rfl, hc3⟩ := (hi1.mono hle3).get hlt2
      have c3 := hc3 k hlt2
      have hx := hci _ (g_mem hlt2)
      have hpa := pabs_lit (x := g (gl cubes i) k) (by omega)
      have hin : ins.contains (max (g (gl cubes i) k) (IntKind.i64.wrap (0 - g (gl cubes i) k))) = true := by rw [hpa]; simpa using hx.2.2
      have hI := in_spec (x := max (g (gl cubes i) k) (IntKind.i64.wrap (0 - g (gl cubes i) k))) (hK'.mono hle3)
      rw [hS.b, hin] at hI
      have hio : ins.idxOf (abs64 (g (gl cubes i) k)) < ins.length := List.idxOf_lt_length_of_mem hx.2.2
      have hsmall := hK'.small
      ((try (conv => whnf)); repeat ((first | refine And.intro ?_ True.intro | refine And.intro ⟨by omega, by omega⟩ ?_ | refine ⟨_, (by assumption : RO.c _ _ _ = _), ?_⟩ | refine ⟨_, _, _, (by assumption : (_ : Option Obj) = _), ?_⟩ | refine ⟨_, _, _, (by assumption : RO.c _ _ _ = _), ?_⟩ | refine ⟨_, (by assumption : Row _ _ _ _), ?_⟩ | refine ⟨_, (by assumption : Cell _ _ _ _ _), ?_⟩ | refine ⟨_, _, _, (by assumption : Cell _ _ _ _ _), ?_⟩ | refine ⟨_, Or.inl (by assumption), ?_⟩ | refine ⟨_, _, _, Or.inl (by assumption), ?_⟩ | refine And.intro (ints_one _) ?_ | refine And.intro (by omega) ?_ | refine d1 ?_ | refine d2 ?_ | refine d3 ?_ | refine d4 ?_ | refine go G82 400 hC (by kernel_rfl) ?_); (conv => whnf)))
      refine Con.mono hI ?_
      rintro _ _ _ - ⟨rfl, rfl, rfl⟩
      have hap : ((gl cubes i).take k).map (litE ins) ++ [litE ins (g (gl cubes i) k)] = ((gl cubes i).take (k + 1)).map (litE ins) := by rw [List.take_add_one, g_get hlt2]; simp
      have hap2 : ints (((gl cubes i).take k).map (litE ins)) ++ [.int .i64 (litE ins (g (gl cubes i) k))] = ints (((gl cubes i).take (k + 1)).map (litE ins)) := by rw [← hap]; simp [ints]
      ((try (conv => whnf)); repeat ((first | refine And.intro ?_ True.intro | refine And.intro ⟨by omega, by omega⟩ ?_ | refine ⟨_, (by assumption : RO.c _ _ _ = _), ?_⟩ | refine ⟨_, _, _, (by assumption : (_ : Option Obj) = _), ?_⟩ | refine ⟨_, _, _, (by assumption : RO.c _ _ _ = _), ?_⟩ | refine ⟨_, (by assumption : Row _ _ _ _), ?_⟩ | refine ⟨_, (by assumption : Cell _ _ _ _ _), ?_⟩ | refine ⟨_, _, _, (by assumption : Cell _ _ _ _ _), ?_⟩ | refine ⟨_, Or.inl (by assumption), ?_⟩ | refine ⟨_, _, _, Or.inl (by assumption), ?_⟩ | refine And.intro (ints_one _) ?_ | refine And.intro (by omega) ?_ | refine d1 ?_ | refine d2 ?_ | refine d3 ?_ | refine d4 ?_ | refine go G82 400 hC (by kernel_rfl) ?_); (conv => whnf)))
      refine ⟨fun hq => ?_, fun hq => ?_⟩ <;> ((try (conv => whnf)); repeat ((first | refine And.intro ?_ True.intro | refine And.intro ⟨by omega, by omega⟩ ?_ | refine ⟨_, (by assumption : RO.c _ _ _ = _), ?_⟩ | refine ⟨_, _, _, (by assumption : (_ : Option Obj) = _), ?_⟩ | refine ⟨_, _, _, (by assumption : RO.c _ _ _ = _), ?_⟩ | refine ⟨_, (by assumption : Row _ _ _ _), ?_⟩ | refine ⟨_, (by assumption : Cell _ _ _ _ _), ?_⟩ | refine ⟨_, _, _, (by assumption : Cell _ _ _ _ _), ?_⟩ | refine ⟨_, Or.inl (by assumption), ?_⟩ | refine ⟨_, _, _, Or.inl (by assumption), ?_⟩ | refine And.intro (ints_one _) ?_ | refine And.intro (by omega) ?_ | refine d1 ?_ | refine d2 ?_ | refine d3 ?_ | refine d4 ?_ | refine go G82 400 hC (by kernel_rfl) ?_); (conv => whnf)))
      · have hX : IntKind.i64.wrap (BitVec.ofInt IntKind.i64.bits ((2 * (ins.idxOf (max (g (gl cubes i) k) (IntKind.i64.wrap (0 - g (gl cubes i) k))) + 1) : Nat) : Int) ^^^ BitVec.ofInt IntKind.i64.bits 1).toNat = litE ins (g (gl cubes i) k) := by
          rw [hpa, xor1 (by omega) (by omega), litE, if_pos (by simpa using hq)]
        refine ⟨rfl, by show (k + 1) * 8 ≤ 140737488355328; omega, fun a3 c3 h5 hle5 hrow5 => ?_⟩
        have hr5 : Row h5 1 (.slice a3 (k + 1) c3) (ints (((gl cubes i).take (k + 1)).map (litE ins))) := by rw [← hap2, ← hX]; exact hrow5
        ((try (conv => whnf)); repeat ((first | refine And.intro ?_ True.intro | refine And.intro ⟨by omega, by omega⟩ ?_ | refine ⟨_, (by assumption : RO.c _ _ _ = _), ?_⟩ | refine ⟨_, _, _, (by assumption : (_ : Option Obj) = _), ?_⟩ | refine ⟨_, _, _, (by assumption : RO.c _ _ _ = _), ?_⟩ | refine ⟨_, (by assumption : Row _ _ _ _), ?_⟩ | refine ⟨_, (by assumption : Cell _ _ _ _ _), ?_⟩ | refine ⟨_, _, _, (by assumption : Cell _ _ _ _ _), ?_⟩ | refine ⟨_, Or.inl (by assumption), ?_⟩ | refine ⟨_, _, _, Or.inl (by assumption), ?_⟩ | refine And.intro (ints_one _) ?_ | refine And.intro (by omega) ?_ | refine d1 ?_ | refine d2 ?_ | refine d3 ?_ | refine d4 ?_ | refine go G82 400 hC (by kernel_rfl) ?_); (conv => whnf)))
        refine halt ⟨(k + 1, .slice a3 (k + 1) c3), [(6, 6), (9, 47)], ⟨by simp [sinj], ⟨⟨rfl, rfl⟩, stepI (by omega), ?_⟩, ?_, ?_⟩, hle5, ⟨hlt2, hle3.trans hle5, rfl, a3, c3, rfl, hr5⟩, by dsimp only; omega⟩
        · repeat (first | exact trivial | refine ⟨rfl, ?_⟩ | refine ⟨⟨rfl, rfl⟩, ?_⟩)
        · show some _ = some (BS.row _ _ _ _ _)
          rw [← hap2, ← hX]; rfl
        · repeat (first | exact trivial | refine ⟨rfl, ?_⟩)
      · have hX : ((2 * (ins.idxOf (max (g (gl cubes i) k) (IntKind.i64.wrap (0 - g (gl cubes i) k))) + 1) : Nat) : Int) = litE ins (g (gl cubes i) k) := by
          rw [hpa, litE, if_neg (by simpa using hq)]
        refine ⟨rfl, by show (k + 1) * 8 ≤ 140737488355328; omega, fun a3 c3 h5 hle5 hrow5 => ?_⟩
        have hr5 : Row h5 1 (.slice a3 (k + 1) c3) (ints (((gl cubes i).take (k + 1)).map (litE ins))) := by rw [← hap2, ← hX]; exact hrow5
        ((try (conv => whnf)); repeat ((first | refine And.intro ?_ True.intro | refine And.intro ⟨by omega, by omega⟩ ?_ | refine ⟨_, (by assumption : RO.c _ _ _ = _), ?_⟩ | refine ⟨_, _, _, (by assumption : (_ : Option Obj) = _), ?_⟩ | refine ⟨_, _, _, (by assumption : RO.c _ _ _ = _), ?_⟩ | refine ⟨_, (by assumption : Row _ _ _ _), ?_⟩ | refine ⟨_, (by assumption : Cell _ _ _ _ _), ?_⟩ | refine ⟨_, _, _, (by assumption : Cell _ _ _ _ _), ?_⟩ | refine ⟨_, Or.inl (by assumption), ?_⟩ | refine ⟨_, _, _, Or.inl (by assumption), ?_⟩ | refine And.intro (ints_one _) ?_ | refine And.intro (by omega) ?_ | refine d1 ?_ | refine d2 ?_ | refine d3 ?_ | refine d4 ?_ | refine go G82 400 hC (by kernel_rfl) ?_); (conv => whnf)))
        refine halt ⟨(k + 1, .slice a3 (k + 1) c3), [(6, 6), (9, 47)], ⟨by simp [sinj], ⟨⟨rfl, rfl⟩, stepI (by omega), ?_⟩, ?_, ?_⟩, hle5, ⟨hlt2, hle3.trans hle5, rfl, a3, c3, rfl, hr5⟩, by dsimp only; omega⟩
        · repeat (first | exact trivial | refine ⟨rfl, ?_⟩ | refine ⟨⟨rfl, rfl⟩, ?_⟩)
        · show some _ = some (BS.row _ _ _ _ _)
          rw [← hap2, ← hX]; rfl
        · repeat (first | exact trivial | refine ⟨rfl, ?_⟩)
    · have hge2 : k = (gl cubes i).length := by simp at hge2; omega
      subst hge2
      rw [List.take_length] at hrow2 ⊢
      have hL : IntS h3 (.slice pa (gl cubes i).length pk) ((gl cubes i).map (litE ins)) := ⟨⟨pa, pk, by simp, by simpa using hrow2⟩, by simpa using hcl, fun z hz => by
        obtain ⟨x, hx, rfl⟩ := List.mem_map.1 hz
        have := litE_ok (hci x hx).2.2 0
        have hsmall := hK'.small
        unfold EdK at this; unfold R64; omega⟩
      have hed : ∀ x ∈ (gl cubes i).map (litE ins), EdK ins.length (fnL ins ands (cubes.take i)).2.length (id x) := fun x hx => by
        obtain ⟨z, hz, rfl⟩ := List.mem_map.1 hx
        exact litE_ok (hci z hz).2.2 _
      obtain ⟨k1, k2, k3, k4⟩ := foldA_ok (n := ins.length) (f := id) (st := (fnL ins ands (cubes.take i)).2) ((gl cubes i).map (litE ins)) (by simp; omega) hed
      have hA := all_spec (hK'.mono hle3) hL (fun _ => k1) (fun _ x hx => ⟨(hed x hx).ed (hK'.small), (hed x hx).ed (hK'.small)⟩)
      rw [hS.b, badE_false hed] at hA
      ((try (conv => whnf)); repeat ((first | refine And.intro ?_ True.intro | refine And.intro ⟨by omega, by omega⟩ ?_ | refine ⟨_, (by assumption : RO.c _ _ _ = _), ?_⟩ | refine ⟨_, _, _, (by assumption : (_ : Option Obj) = _), ?_⟩ | refine ⟨_, _, _, (by assumption : RO.c _ _ _ = _), ?_⟩ | refine ⟨_, (by assumption : Row _ _ _ _), ?_⟩ | refine ⟨_, (by assumption : Cell _ _ _ _ _), ?_⟩ | refine ⟨_, _, _, (by assumption : Cell _ _ _ _ _), ?_⟩ | refine ⟨_, Or.inl (by assumption), ?_⟩ | refine ⟨_, _, _, Or.inl (by assumption), ?_⟩ | refine And.intro (ints_one _) ?_ | refine And.intro (by omega) ?_ | refine d1 ?_ | refine d2 ?_ | refine d3 ?_ | refine d4 ?_ | refine go G82 400 hC (by kernel_rfl) ?_); (conv => whnf)))
      refine Con.mono hA ?_
      rintro _ h4 m4 hle4 ⟨rfl, K'', hK'', hS'⟩
      ((try (conv => whnf)); repeat ((first | refine And.intro ?_ True.intro | refine And.intro ⟨by omega, by omega⟩ ?_ | refine ⟨_, (by assumption : RO.c _ _ _ = _), ?_⟩ | refine ⟨_, _, _, (by assumption : (_ : Option Obj) = _), ?_⟩ | refine ⟨_, _, _, (by assumption : RO.c _ _ _ = _), ?_⟩ | refine ⟨_, (by assumption : Row _ _ _ _), ?_⟩ | refine ⟨_, (by assumption : Cell _ _ _ _ _), ?_⟩ | refine ⟨_, _, _, (by assumption : Cell _ _ _ _ _), ?_⟩ | refine ⟨_, Or.inl (by assumption), ?_⟩ | refine ⟨_, _, _, Or.inl (by assumption), ?_⟩ | refine And.intro (ints_one _) ?_ | refine And.intro (by omega) ?_ | refine d1 ?_ | refine d2 ?_ | refine d3 ?_ | refine d4 ?_ | refine go G82 400 hC (by kernel_rfl) ?_); (conv => whnf)))
      have hsn : fnL ins ands (cubes.take (i + 1)) = ((fnL ins ands (cubes.take i)).1 ++ [(foldA ins.length id ((fnL ins ands (cubes.take i)).2, false) ((gl cubes i).map (litE ins))).1], (foldA ins.length id ((fnL ins ands (cubes.take i)).2, false) ((gl cubes i).map (litE ins))).2.1) := by
        rw [List.take_add_one, gl_get hlt]; exact fnL_snoc _ _ _ _
      have hap3 : ints (fnL ins ands (cubes.take i)).1 ++ [.int .i64 (foldA ins.length id ((fnL ins ands (cubes.take i)).2, false) ((gl cubes i).map (litE ins))).1] = ints (fnL ins ands (cubes.take (i + 1))).1 := by rw [hsn]; simp [ints]
      refine ⟨rfl, by show (i + 1) * 8 ≤ 140737488355328; omega, fun a3 c3 h5 hle5 hrow5 => ?_⟩
      have hr5 : Row h5 1 (.slice a3 (i + 1) c3) (ints (fnL ins ands (cubes.take (i + 1))).1) := by rw [← hap3]; exact hrow5
      ((try (conv => whnf)); repeat ((first | refine And.intro ?_ True.intro | refine And.intro ⟨by omega, by omega⟩ ?_ | refine ⟨_, (by assumption : RO.c _ _ _ = _), ?_⟩ | refine ⟨_, _, _, (by assumption : (_ : Option Obj) = _), ?_⟩ | refine ⟨_, _, _, (by assumption : RO.c _ _ _ = _), ?_⟩ | refine ⟨_, (by assumption : Row _ _ _ _), ?_⟩ | refine ⟨_, (by assumption : Cell _ _ _ _ _), ?_⟩ | refine ⟨_, _, _, (by assumption : Cell _ _ _ _ _), ?_⟩ | refine ⟨_, Or.inl (by assumption), ?_⟩ | refine ⟨_, _, _, Or.inl (by assumption), ?_⟩ | refine And.intro (ints_one _) ?_ | refine And.intro (by omega) ?_ | refine d1 ?_ | refine d2 ?_ | refine d3 ?_ | refine d4 ?_ | refine go G82 400 hC (by kernel_rfl) ?_); (conv => whnf)))
      refine halt ⟨(i + 1, .slice a3 (i + 1) c3), [(6, 61)], ⟨by simp [sinj], ⟨⟨rfl, rfl⟩, stepI (by omega), ?_⟩, ?_, ?_⟩, (hle3.trans hle4).trans hle5, ⟨hlt, ((hle2.trans hle3).trans hle4).trans hle5, ⟨a3, c3, rfl, hr5⟩, K'', by rw [hsn]; exact hK''.mono hle5, hS.trans hS'⟩, by dsimp only; omega⟩
      · repeat (first | exact trivial | refine ⟨rfl, ?_⟩ | refine ⟨⟨rfl, rfl⟩, ?_⟩)
      · show some _ = some (BS.row _ _ _ _ _)
        rw [← hap3]; rfl
      · repeat (first | exact trivial | refine ⟨rfl, ?_⟩)
  · have hge : i = cubes.length := by simp at hge; omega
    subst hge
    rw [List.take_length] at hrow hK' ⊢
    obtain ⟨q1, q2, q3, q4⟩ := fnL_ok (ins := ins) (st := ands) cubes (by omega) (fun c hc => fun x hx => (hv c hc x hx).2.2)
    have hL : IntS h2 (.slice oa cubes.length ok) (fnL ins ands cubes).1 := ⟨⟨oa, ok, by rw [q1], by rw [q1]; exact hrow⟩, by omega, fun z hz => by
      have := q4 z hz
      have hsmall := hK'.small
      unfold EdK at this; unfold R64; omega⟩
    obtain ⟨k1, k2, k3, k4⟩ := foldA_ok (n := ins.length) (f := x1) (st := (fnL ins ands cubes).2) (fnL ins ands cubes).1 (by omega) (fun x hx => (q4 x hx).x1)
    have hA := any_spec hK' hL (fun _ => k1) (fun _ x hx => ⟨(q4 x hx).ed (hK'.small), (q4 x hx).x1.ed (hK'.small)⟩)
    rw [hS.b, badE_false q4] at hA
    ((try (conv => whnf)); repeat ((first | refine And.intro ?_ True.intro | refine And.intro ⟨by omega, by omega⟩ ?_ | refine ⟨_, (by assumption : RO.c _ _ _ = _), ?_⟩ | refine ⟨_, _, _, (by assumption : (_ : Option Obj) = _), ?_⟩ | refine ⟨_, _, _, (by assumption : RO.c _ _ _ = _), ?_⟩ | refine ⟨_, (by assumption : Row _ _ _ _), ?_⟩ | refine ⟨_, (by assumption : Cell _ _ _ _ _), ?_⟩ | refine ⟨_, _, _, (by assumption : Cell _ _ _ _ _), ?_⟩ | refine ⟨_, Or.inl (by assumption), ?_⟩ | refine ⟨_, _, _, Or.inl (by assumption), ?_⟩ | refine And.intro (ints_one _) ?_ | refine And.intro (by omega) ?_ | refine d1 ?_ | refine d2 ?_ | refine d3 ?_ | refine d4 ?_ | refine go G82 400 hC (by kernel_rfl) ?_); (conv => whnf)))
    refine Con.mono hA ?_
    rintro _ h4 m4 hle4 ⟨rfl, K'', hK'', hS'⟩
    ((try (conv => whnf)); repeat ((first | refine And.intro ?_ True.intro | refine And.intro ⟨by omega, by omega⟩ ?_ | refine ⟨_, (by assumption : RO.c _ _ _ = _), ?_⟩ | refine ⟨_, _, _, (by assumption : (_ : Option Obj) = _), ?_⟩ | refine ⟨_, _, _, (by assumption : RO.c _ _ _ = _), ?_⟩ | refine ⟨_, (by assumption : Row _ _ _ _), ?_⟩ | refine ⟨_, (by assumption : Cell _ _ _ _ _), ?_⟩ | refine ⟨_, _, _, (by assumption : Cell _ _ _ _ _), ?_⟩ | refine ⟨_, Or.inl (by assumption), ?_⟩ | refine ⟨_, _, _, Or.inl (by assumption), ?_⟩ | refine And.intro (ints_one _) ?_ | refine And.intro (by omega) ?_ | refine d1 ?_ | refine d2 ?_ | refine d3 ?_ | refine d4 ?_ | refine go G82 400 hC (by kernel_rfl) ?_); (conv => whnf)))
    exact ⟨rfl, K'', hK'', hS.trans hS'⟩
end Go.Proofs.YtoefoaabnjeofaaGreat
namespace Go.Proofs.YtoefoaabnjeofaaGreat
open Go.SX
set_option maxHeartbeats 1000000
theorem okV_iff {l : List Int} {k : Nat} : okV l k = true ↔ lastA l k < pabs (g l k) ∧ pabs (g l k) ≤ 65536 := by
  simp only [okV, Bool.not_eq_true', Bool.or_eq_false_iff, decide_eq_false_iff_not]; omega
theorem lastA_zero (l : List Int) : lastA l 0 = 0 := rfl
theorem lastA_succ (l : List Int) (k : Nat) : lastA l (k + 1) = pabs (g l k) := rfl
/-- The program's test of a normal list is the reference's. -/
theorem pnormal_eq {l : List Int} (hr : ∀ x ∈ l, R64 x) : pnormal l = normal l := by
  have hp : ∀ x, R64 x → pabs x = if x = -9223372036854775808 then -9223372036854775808 else if x < 0 then -x else x := fun x h => by
    unfold pabs R64 at *
    by_cases e : x = -9223372036854775808
    · subst e; decide
    · rw [if_neg e, w64 (by omega) (by omega)]; split <;> omega
  rw [Bool.eq_iff_iff, normal_iff, pnormal, allN_iff]
  constructor
  · intro h
    have hall : ∀ k, k < l.length → 0 < pabs (g l k) ∧ pabs (g l k) ≤ 65536 := by
      intro k
      induction k with
      | zero =>
        intro hk
        have := okV_iff.1 (h 0 hk)
        rw [lastA_zero] at this
        exact this
      | succ k ih =>
        intro hk
        have h1 := ih (by omega)
        have h2 := okV_iff.1 (h (k + 1) hk)
        rw [lastA_succ] at h2
        omega
    have hsm : ∀ k, k < l.length → -65536 ≤ g l k ∧ g l k ≤ 65536 ∧ g l k ≠ 0 := fun k hk => by
      have h1 := hp _ (hr _ (g_mem hk))
      have := hall k hk
      rw [h1] at this
      split at this
      · omega
      · split at this <;> omega
    refine ⟨fun x hx => ?_, fun k hk => ?_⟩
    · obtain ⟨k, hk, rfl⟩ := mem_g hx
      exact hsm k hk
    · have a := hsm k (by omega)
      have b := hsm (k + 1) hk
      have h2 := okV_iff.1 (h (k + 1) hk)
      rw [lastA_succ, pabs_eq a.1 a.2.1, pabs_eq b.1 b.2.1] at h2
      exact h2.1
  · rintro ⟨h1, h2⟩ k hk
    have b := h1 _ (g_mem hk)
    rw [okV_iff, pabs_eq b.1 b.2.1, abs64_small b.1 b.2.1]
    cases k with
    | zero => rw [lastA_zero]; split <;> omega
    | succ k =>
      have a := h1 _ (g_mem (l := l) (i := k) (by omega))
      have := h2 k hk
      rw [lastA_succ, pabs_eq a.1 a.2.1]
      rw [abs64_small b.1 b.2.1] at this
      exact ⟨this, by split <;> omega⟩
/-- The variables of a normal list rise. -/
theorem normal_le {l : List Int} (h : normal l = true) {i j : Nat} (hij : i ≤ j) (hj : j < l.length) : abs64 (g l i) ≤ abs64 (g l j) := by
  have hn := (normal_iff.1 h).2
  induction j with
  | zero => have : i = 0 := by omega
            subst this; exact Int.le_refl _
  | succ j ih =>
    by_cases e : i = j + 1
    · subst e; exact Int.le_refl _
    · have := ih (by omega) (by omega); have := hn j hj; omega
/-- A model of some copies. -/
def mayM (n : Nat) (model : List Int) : Bool := normal model && !(decide ((model.length : Int) > 0) && decide (abs64 (g model (model.length - 1)) > (n : Int)))
theorem mayM_lit {n : Nat} {model : List Int} (h : mayM n model = true) {x : Int} (hx : x ∈ model) : abs64 x ≤ n ∧ x ≠ 0 ∧ -65536 ≤ x ∧ x ≤ 65536 := by
  simp only [mayM, Bool.and_eq_true, Bool.not_eq_true', Bool.and_eq_false_iff, decide_eq_false_iff_not] at h
  obtain ⟨i, hi, rfl⟩ := mem_g hx
  have h1 := normal_le h.1 (i := i) (j := model.length - 1) (by omega) (by omega)
  have h2 := (normal_iff.1 h.1).1 _ (g_mem hi)
  have h3 := h.2
  exact ⟨by omega, h2.2.2, h2.1, h2.2.1⟩
/-- The cubes of a variable: the literals of its copies that are true. -/
def cubeL (cs : List Cp) (v n : Int) : Option (List Int) := if n > 0 ∧ (gd cs (n - 1).toNat).1 = v then some (gd cs (n - 1).toNat).2 else none
def cubesOf (cs : List Cp) (model : List Int) (v : Int) : List (List Int) := model.filterMap (cubeL cs v)
theorem cubesOf_snoc (cs : List Cp) (model : List Int) (n v : Int) : cubesOf cs (model ++ [n]) v = cubesOf cs model v ++ (cubeL cs v n).toList := by
  simp only [cubesOf, List.filterMap_append]
  cases h : cubeL cs v n <;> simp [h]
theorem cubesOf_len (cs : List Cp) (model : List Int) (v : Int) : (cubesOf cs model v).length ≤ model.length := List.length_filterMap_le _ _
theorem cubesOf_mem {cs : List Cp} {model : List Int} {v : Int} {c : List Int} (h : c ∈ cubesOf cs model v) (hm : ∀ n ∈ model, abs64 n ≤ cs.length ∧ n ≠ 0 ∧ -65536 ≤ n ∧ n ≤ 65536) : ∃ x ∈ cs, x.1 = v ∧ x.2 = c := by
  obtain ⟨n, hn, e⟩ := List.mem_filterMap.1 h
  unfold cubeL at e
  split at e
  · rename_i hc
    have := hm n hn
    have e2 : abs64 n = n := by rw [abs64_small (by omega) (by omega), if_neg (by omega)]
    refine ⟨_, gd_mem (i := (n - 1).toNat) (by omega), hc.2, by simpa using e⟩
  · cases e
theorem cubesOf_tot {cs : List Cp} {model : List Int} {v : Int} {L : Nat} (hL : ∀ c ∈ cubesOf cs model v, c.length ≤ L) : tot (cubesOf cs model v) ≤ model.length * L := by
  have : ∀ ls : List (List Int), (∀ c ∈ ls, c.length ≤ L) → tot ls ≤ ls.length * L := by
    intro ls
    induction ls with
    | nil => intro _; simp [tot]
    | cons a ls ih =>
      intro h
      have h1 := h a (by simp)
      have h2 := ih fun c hc => h c (by simp [hc])
      have e : tot (a :: ls) = a.length + tot ls := by simp [tot]
      rw [e, List.length_cons, Nat.add_mul, Nat.one_mul]; omega
  exact Nat.le_trans (this _ hL) (Nat.mul_le_mul_right _ (cubesOf_len _ _ _))
/-- What Strat makes: the outs, the Ands. -/
def strS (univ : List Int) (cs : List Cp) (model : List Int) (ex : List Cp) : List Pr × List Pr :=
  ex.foldl (fun s y => (s.1 ++ [(y.1, (fnS univ s.2 (cubesOf cs model y.1)).1)], (fnS univ s.2 (cubesOf cs model y.1)).2)) ([], [])
theorem strS_snoc (univ : List Int) (cs : List Cp) (model : List Int) (ex : List Cp) (y : Cp) : strS univ cs model (ex ++ [y]) =
    ((strS univ cs model ex).1 ++ [(y.1, (fnS univ (strS univ cs model ex).2 (cubesOf cs model y.1)).1)], (fnS univ (strS univ cs model ex).2 (cubesOf cs model y.1)).2) := by simp [strS]
theorem strS_ok {univ : List Int} {cs : List Cp} {model : List Int} (ex : List Cp) (hm : ∀ n ∈ model, abs64 n ≤ cs.length ∧ n ≠ 0 ∧ -65536 ≤ n ∧ n ≤ 65536) (hc : ∀ x ∈ cs, x.2.length ≤ univ.length ∧ ∀ z ∈ x.2, abs64 z ∈ univ)
    (hsz : 1 + univ.length + ex.length * (model.length * (univ.length + 1)) < 200000) :
    (strS univ cs model ex).1.length = ex.length ∧ (strS univ cs model ex).2.length ≤ ex.length * (model.length * (univ.length + 1)) ∧ ∀ p ∈ (strS univ cs model ex).1, EdK univ.length (strS univ cs model ex).2.length p.2 ∧ ∃ y ∈ ex, p.1 = y.1 := by
  induction ex using snocInd with
  | h0 => simp [strS]
  | h1 ex y ih =>
    rw [List.length_append, List.length_singleton, Nat.add_mul, Nat.one_mul] at hsz
    obtain ⟨h1, h2, h3⟩ := ih (by omega)
    rw [strS_snoc]
    have hcu : ∀ c ∈ cubesOf cs model y.1, c.length ≤ univ.length ∧ ∀ z ∈ c, abs64 z ∈ univ := fun c hcc => by
      obtain ⟨x, hx, _, rfl⟩ := cubesOf_mem hcc hm
      exact hc x hx
    have ht := cubesOf_tot (L := univ.length) fun c hcc => (hcu c hcc).1
    have hl := cubesOf_len cs model y.1
    have e : model.length * (univ.length + 1) = model.length * univ.length + model.length := by rw [Nat.mul_add, Nat.mul_one]
    obtain ⟨k1, k2, k3⟩ := fnS_ok (ins := univ) (st := (strS univ cs model ex).2) (cubesOf cs model y.1) (by omega) (fun c hcc => (hcu c hcc).2)
    refine ⟨by simp [h1], ?_, fun p hp => ?_⟩
    · rw [List.length_append, List.length_singleton, Nat.add_mul, Nat.one_mul]; dsimp only; omega
    · rcases List.mem_append.1 hp with hp | hp
      · obtain ⟨q1, z, hz, q2⟩ := h3 p hp
        exact ⟨q1.mono k1.length_le, z, by simp [hz], q2⟩
      · simp at hp; subst hp; exact ⟨k3, y, by simp, rfl⟩
end Go.Proofs.YtoefoaabnjeofaaGreat
namespace Go.Proofs.YtoefoaabnjeofaaGreat
open Go.SX Go.Sort
set_option maxHeartbeats 4000000
set_option maxRecDepth 20000
theorem ainputs_iff {l : List Int} : ainputs l = true ↔ Rising l := by
  rw [ainputs, allN_iff]
  constructor
  · intro h
    refine ⟨fun x hx => ?_, asc_of_step fun i hi => ?_⟩
    · obtain ⟨i, hi, rfl⟩ := mem_g hx
      have := h i hi
      simp [okIn, isVar] at this
      omega
    · have := h (i + 1) hi
      simp [okIn, isVar, prevI] at this
      omega
  · intro h i hi
    have h1 := h.lo _ (g_mem hi)
    simp only [okIn, isVar, Bool.and_eq_true, decide_eq_true_eq, Bool.not_eq_true', decide_eq_false_iff_not]
    refine ⟨⟨by omega, by omega⟩, ?_⟩
    have e0 : prevI l i = if i = 0 then 0 else g l (i - 1) := rfl
    by_cases e : i = 0
    · rw [if_pos e] at e0; omega
    · rw [if_neg e] at e0; have := h.asc (i - 1) i (by omega) hi; omega
def G170 : Gv := ⟨[], [], []⟩
theorem edit_spec {u v : Value} {ins : List Int} {ands : List Pr} {h : RO} {m : Hp} (ha : IntS h u ins) (hb : PrS h v ands) :
    Con Tryz.prog 170 [.agg #[u, v]] h m fun e h' m' => (match aigMay ins ands with
      | true => ∃ K, e = .returned (.tuple #[.pointer (some ⟨K.b, 0, none⟩), .int .i64 0]) ∧ MkI h' m' K ins ands false ∧ m.sub m' ∧ ∀ k, K.fp k → m k = none
      | false => e = .returned (.tuple #[.pointer none, .int .i64 2]) ∧ m' = m) := by
  refine fn_of (nt := 9) T Tryz.func170 rfl (by kernel_rfl) Tryz.ntmps170 (by simp) T_ok T_mixed fun C hC => ?_
  simp only [Tryz.f170, argFr, Nat.zero_add, Nat.reduceAdd] at hC ⊢
  ((try (conv => whnf)); repeat ((first | refine And.intro ?_ True.intro | refine And.intro ⟨by omega, by omega⟩ ?_ | refine ⟨_, (by assumption : RO.c _ _ _ = _), ?_⟩ | refine ⟨_, _, _, (by assumption : (_ : Option Obj) = _), ?_⟩ | refine ⟨_, _, _, (by assumption : RO.c _ _ _ = _), ?_⟩ | refine ⟨_, (by assumption : Row _ _ _ _), ?_⟩ | refine ⟨_, (by assumption : Cell _ _ _ _ _), ?_⟩ | refine ⟨_, _, _, (by assumption : Cell _ _ _ _ _), ?_⟩ | refine ⟨_, Or.inl (by assumption), ?_⟩ | refine ⟨_, _, _, Or.inl (by assumption), ?_⟩ | refine And.intro (ints_one _) ?_ | refine And.intro (by omega) ?_ | refine d1 ?_ | refine d2 ?_ | refine d3 ?_ | refine d4 ?_ | refine go G170 400 hC (by kernel_rfl) ?_); (conv => whnf)))
  refine Con.mono (aigMay_spec ha hb) ?_
  rintro _ h2 m2 hle2 ⟨rfl, rfl⟩
  cases hq : aigMay ins ands with
  | false =>
    ((try (conv => whnf)); repeat ((first | refine And.intro ?_ True.intro | refine And.intro ⟨by omega, by omega⟩ ?_ | refine ⟨_, (by assumption : RO.c _ _ _ = _), ?_⟩ | refine ⟨_, _, _, (by assumption : (_ : Option Obj) = _), ?_⟩ | refine ⟨_, _, _, (by assumption : RO.c _ _ _ = _), ?_⟩ | refine ⟨_, (by assumption : Row _ _ _ _), ?_⟩ | refine ⟨_, (by assumption : Cell _ _ _ _ _), ?_⟩ | refine ⟨_, _, _, (by assumption : Cell _ _ _ _ _), ?_⟩ | refine ⟨_, Or.inl (by assumption), ?_⟩ | refine ⟨_, _, _, Or.inl (by assumption), ?_⟩ | refine And.intro (ints_one _) ?_ | refine And.intro (by omega) ?_ | refine d1 ?_ | refine d2 ?_ | refine d3 ?_ | refine d4 ?_ | refine go G170 400 hC (by kernel_rfl) ?_); (conv => whnf)))
    rw [hq]
    exact ⟨rfl, rfl⟩
  | true =>
    have hq' := hq
    simp only [aigMay, Bool.and_eq_true, Bool.not_eq_true', decide_eq_false_iff_not] at hq'
    ((try (conv => whnf)); repeat ((first | refine And.intro ?_ True.intro | refine And.intro ⟨by omega, by omega⟩ ?_ | refine ⟨_, (by assumption : RO.c _ _ _ = _), ?_⟩ | refine ⟨_, _, _, (by assumption : (_ : Option Obj) = _), ?_⟩ | refine ⟨_, _, _, (by assumption : RO.c _ _ _ = _), ?_⟩ | refine ⟨_, (by assumption : Row _ _ _ _), ?_⟩ | refine ⟨_, (by assumption : Cell _ _ _ _ _), ?_⟩ | refine ⟨_, _, _, (by assumption : Cell _ _ _ _ _), ?_⟩ | refine ⟨_, Or.inl (by assumption), ?_⟩ | refine ⟨_, _, _, Or.inl (by assumption), ?_⟩ | refine And.intro (ints_one _) ?_ | refine And.intro (by omega) ?_ | refine d1 ?_ | refine d2 ?_ | refine d3 ?_ | refine d4 ?_ | refine go G170 400 hC (by kernel_rfl) ?_); (conv => whnf)))
    refine Con.mono (maker_spec (ha.mono hle2) (hb.mono hle2) (ainputs_iff.1 hq'.1).asc (by omega)) ?_
    rintro _ h3 m3 hle3 ⟨K, rfl, hK, hs, hf⟩
    ((try (conv => whnf)); repeat ((first | refine And.intro ?_ True.intro | refine And.intro ⟨by omega, by omega⟩ ?_ | refine ⟨_, (by assumption : RO.c _ _ _ = _), ?_⟩ | refine ⟨_, _, _, (by assumption : (_ : Option Obj) = _), ?_⟩ | refine ⟨_, _, _, (by assumption : RO.c _ _ _ = _), ?_⟩ | refine ⟨_, (by assumption : Row _ _ _ _), ?_⟩ | refine ⟨_, (by assumption : Cell _ _ _ _ _), ?_⟩ | refine ⟨_, _, _, (by assumption : Cell _ _ _ _ _), ?_⟩ | refine ⟨_, Or.inl (by assumption), ?_⟩ | refine ⟨_, _, _, Or.inl (by assumption), ?_⟩ | refine And.intro (ints_one _) ?_ | refine And.intro (by omega) ?_ | refine d1 ?_ | refine d2 ?_ | refine d3 ?_ | refine d4 ?_ | refine go G170 400 hC (by kernel_rfl) ?_); (conv => whnf)))
    rw [hq]
    exact ⟨K, rfl, hK, hs, hf⟩
def G81 : Gv := ⟨[], [], []⟩
theorem new_spec {u : Value} {ins : List Int} {h : RO} {m : Hp} (ha : IntS h u ins) :
    Con Tryz.prog 81 [u] h m fun e h' m' => (match aigMay ins [] with
      | true => ∃ K, e = .returned (.tuple #[.pointer (some ⟨K.b, 0, none⟩), .int .i64 0]) ∧ MkI h' m' K ins [] false ∧ m.sub m' ∧ ∀ k, K.fp k → m k = none
      | false => e = .returned (.tuple #[.pointer none, .int .i64 2]) ∧ m' = m) := by
  obtain ⟨a, ca, rfl, -⟩ := ha.s
  refine fn_of (nt := 9) T Tryz.func81 rfl (by kernel_rfl) Tryz.ntmps81 (by simp) T_ok T_mixed fun C hC => ?_
  simp only [Tryz.f81, argFr, Nat.zero_add, Nat.reduceAdd] at hC ⊢
  ((try (conv => whnf)); repeat ((first | refine And.intro ?_ True.intro | refine And.intro ⟨by omega, by omega⟩ ?_ | refine ⟨_, (by assumption : RO.c _ _ _ = _), ?_⟩ | refine ⟨_, _, _, (by assumption : (_ : Option Obj) = _), ?_⟩ | refine ⟨_, _, _, (by assumption : RO.c _ _ _ = _), ?_⟩ | refine ⟨_, (by assumption : Row _ _ _ _), ?_⟩ | refine ⟨_, (by assumption : Cell _ _ _ _ _), ?_⟩ | refine ⟨_, _, _, (by assumption : Cell _ _ _ _ _), ?_⟩ | refine ⟨_, Or.inl (by assumption), ?_⟩ | refine ⟨_, _, _, Or.inl (by assumption), ?_⟩ | refine And.intro (ints_one _) ?_ | refine And.intro (by omega) ?_ | refine d1 ?_ | refine d2 ?_ | refine d3 ?_ | refine d4 ?_ | refine go G81 400 hC (by kernel_rfl) ?_); (conv => whnf)))
  refine Con.mono (edit_spec ha (PrS.nil h)) ?_
  rintro _ h2 m2 hle2 hR
  cases hq : aigMay ins [] with
  | false =>
    rw [hq] at hR
    obtain ⟨rfl, rfl⟩ := hR
    ((try (conv => whnf)); repeat ((first | refine And.intro ?_ True.intro | refine And.intro ⟨by omega, by omega⟩ ?_ | refine ⟨_, (by assumption : RO.c _ _ _ = _), ?_⟩ | refine ⟨_, _, _, (by assumption : (_ : Option Obj) = _), ?_⟩ | refine ⟨_, _, _, (by assumption : RO.c _ _ _ = _), ?_⟩ | refine ⟨_, (by assumption : Row _ _ _ _), ?_⟩ | refine ⟨_, (by assumption : Cell _ _ _ _ _), ?_⟩ | refine ⟨_, _, _, (by assumption : Cell _ _ _ _ _), ?_⟩ | refine ⟨_, Or.inl (by assumption), ?_⟩ | refine ⟨_, _, _, Or.inl (by assumption), ?_⟩ | refine And.intro (ints_one _) ?_ | refine And.intro (by omega) ?_ | refine d1 ?_ | refine d2 ?_ | refine d3 ?_ | refine d4 ?_ | refine go G81 400 hC (by kernel_rfl) ?_); (conv => whnf)))
    rw [hq]
    exact ⟨rfl, rfl⟩
  | true =>
    rw [hq] at hR
    obtain ⟨K, rfl, hK, hs, hf⟩ := hR
    ((try (conv => whnf)); repeat ((first | refine And.intro ?_ True.intro | refine And.intro ⟨by omega, by omega⟩ ?_ | refine ⟨_, (by assumption : RO.c _ _ _ = _), ?_⟩ | refine ⟨_, _, _, (by assumption : (_ : Option Obj) = _), ?_⟩ | refine ⟨_, _, _, (by assumption : RO.c _ _ _ = _), ?_⟩ | refine ⟨_, (by assumption : Row _ _ _ _), ?_⟩ | refine ⟨_, (by assumption : Cell _ _ _ _ _), ?_⟩ | refine ⟨_, _, _, (by assumption : Cell _ _ _ _ _), ?_⟩ | refine ⟨_, Or.inl (by assumption), ?_⟩ | refine ⟨_, _, _, Or.inl (by assumption), ?_⟩ | refine And.intro (ints_one _) ?_ | refine And.intro (by omega) ?_ | refine d1 ?_ | refine d2 ?_ | refine d3 ?_ | refine d4 ?_ | refine go G81 400 hC (by kernel_rfl) ?_); (conv => whnf)))
    rw [hq]
    exact ⟨K, rfl, hK, hs, hf⟩
theorem none0_spec {b : Nat} {h : RO} {m : Hp} (k0 : Cell h m b 0 (.bool true)) :
    Con Tryz.prog 174 [.pointer (some ⟨b, 0, none⟩)] h m fun e h' m' => e = .returned (.bool false) ∧ h' = h ∧ m' = m := by
  refine fn_of (nt := 12) T Tryz.func174 rfl (by kernel_rfl) Tryz.ntmps174 (by simp) T_ok T_mixed fun C hC => ?_
  simp only [Tryz.f174, argFr, Nat.zero_add, Nat.reduceAdd] at hC ⊢
  ((try (conv => whnf)); repeat ((first | refine And.intro ?_ True.intro | refine And.intro ⟨by omega, by omega⟩ ?_ | refine ⟨_, (by assumption : RO.c _ _ _ = _), ?_⟩ | refine ⟨_, _, _, (by assumption : (_ : Option Obj) = _), ?_⟩ | refine ⟨_, _, _, (by assumption : RO.c _ _ _ = _), ?_⟩ | refine ⟨_, (by assumption : Row _ _ _ _), ?_⟩ | refine ⟨_, (by assumption : Cell _ _ _ _ _), ?_⟩ | refine ⟨_, _, _, (by assumption : Cell _ _ _ _ _), ?_⟩ | refine ⟨_, Or.inl (by assumption), ?_⟩ | refine ⟨_, _, _, Or.inl (by assumption), ?_⟩ | refine And.intro (ints_one _) ?_ | refine And.intro (by omega) ?_ | refine d1 ?_ | refine d2 ?_ | refine d3 ?_ | refine d4 ?_ | refine go G174 400 hC (by kernel_rfl) ?_); (conv => whnf)))
  exact ⟨rfl, rfl, rfl⟩
def G83 : Gv := ⟨[], [], [(3, .one 0 (.one 1 (.one 2 (.one 3 (.one 6 (.one 7 (.one 8 (.one 9 (.fork 4 (.fork 5 (.fork 10 (.fork 11 (.one 12 (.fork 13 (.nil) .stop)) .stop) .stop) (.fork 10 (.fork 5 (.fork 11 (.one 12 (.fork 13 (.nil) .stop)) .stop) .stop) .stop)) (.fork 10 (.fork 4 (.fork 5 (.fork 11 (.one 12 (.fork 13 (.nil) .stop)) .stop) .stop) .stop) .stop))))))))))]⟩
theorem graph_spec {b : Nat} {vI vA : Value} {x y : Value} {full : Bool} {ins : List Int} {ands : List Pr} {h : RO} {m : Hp} (ck : m b = some (.cells #[.bool true, vI, vA, x, y, .bool full] 243)) (ha : IntS h vI ins) (hb : PrS h vA ands) (hsm : ands.length ≤ 1000000) :
    Con Tryz.prog 83 [.pointer (some ⟨b, 0, none⟩)] h m fun e h' m' => ∃ s t, e = .returned (.agg #[s, t]) ∧ IntS h' s ins ∧ PrS h' t ands ∧ m' = m := by
  obtain ⟨ia, ic, rfl, -⟩ := ha.s
  obtain ⟨aa, ac, rfl⟩ := hb.sl
  have k0 : Cell h m b 0 (.bool true) := Cell.of ck rfl
  have k1 : Cell h m b 1 (.slice ia ins.length ic) := Cell.of ck rfl
  have k2 : Cell h m b 2 (.slice aa ands.length ac) := Cell.of ck rfl
  refine Con.drop ?_
  refine fn_of (nt := 19) T Tryz.func83 rfl (by kernel_rfl) Tryz.ntmps83 (by simp) T_ok T_mixed fun C hC => ?_
  simp only [Tryz.f83, argFr, Nat.zero_add, Nat.reduceAdd] at hC ⊢
  ((try (conv => whnf)); repeat ((first | refine And.intro ?_ True.intro | refine And.intro ⟨by omega, by omega⟩ ?_ | refine ⟨_, (by assumption : RO.c _ _ _ = _), ?_⟩ | refine ⟨_, _, _, (by assumption : (_ : Option Obj) = _), ?_⟩ | refine ⟨_, _, _, (by assumption : RO.c _ _ _ = _), ?_⟩ | refine ⟨_, (by assumption : Row _ _ _ _), ?_⟩ | refine ⟨_, (by assumption : Cell _ _ _ _ _), ?_⟩ | refine ⟨_, _, _, (by assumption : Cell _ _ _ _ _), ?_⟩ | refine ⟨_, Or.inl (by assumption), ?_⟩ | refine ⟨_, _, _, Or.inl (by assumption), ?_⟩ | refine And.intro (ints_one _) ?_ | refine And.intro (by omega) ?_ | refine d1 ?_ | refine d2 ?_ | refine d3 ?_ | refine d4 ?_ | refine go G83 400 hC (by kernel_rfl) ?_); (conv => whnf)))
  (refine Con.mono (none0_spec k0) ?_; rintro _ _ _ - ⟨rfl, rfl, rfl⟩; ((try (conv => whnf)); repeat ((first | refine And.intro ?_ True.intro | refine And.intro ⟨by omega, by omega⟩ ?_ | refine ⟨_, (by assumption : RO.c _ _ _ = _), ?_⟩ | refine ⟨_, _, _, (by assumption : (_ : Option Obj) = _), ?_⟩ | refine ⟨_, _, _, (by assumption : RO.c _ _ _ = _), ?_⟩ | refine ⟨_, (by assumption : Row _ _ _ _), ?_⟩ | refine ⟨_, (by assumption : Cell _ _ _ _ _), ?_⟩ | refine ⟨_, _, _, (by assumption : Cell _ _ _ _ _), ?_⟩ | refine ⟨_, Or.inl (by assumption), ?_⟩ | refine ⟨_, _, _, Or.inl (by assumption), ?_⟩ | refine And.intro (ints_one _) ?_ | refine And.intro (by omega) ?_ | refine d1 ?_ | refine d2 ?_ | refine d3 ?_ | refine d4 ?_ | refine go G83 400 hC (by kernel_rfl) ?_); (conv => whnf))))
  refine ⟨?_, ?_⟩ <;> ((try (conv => whnf)); repeat ((first | refine And.intro ?_ True.intro | refine And.intro ⟨by omega, by omega⟩ ?_ | refine ⟨_, (by assumption : RO.c _ _ _ = _), ?_⟩ | refine ⟨_, _, _, (by assumption : (_ : Option Obj) = _), ?_⟩ | refine ⟨_, _, _, (by assumption : RO.c _ _ _ = _), ?_⟩ | refine ⟨_, (by assumption : Row _ _ _ _), ?_⟩ | refine ⟨_, (by assumption : Cell _ _ _ _ _), ?_⟩ | refine ⟨_, _, _, (by assumption : Cell _ _ _ _ _), ?_⟩ | refine ⟨_, Or.inl (by assumption), ?_⟩ | refine ⟨_, _, _, Or.inl (by assumption), ?_⟩ | refine And.intro (ints_one _) ?_ | refine And.intro (by omega) ?_ | refine d1 ?_ | refine d2 ?_ | refine d3 ?_ | refine d4 ?_ | refine go G83 400 hC (by kernel_rfl) ?_); (conv => whnf)))
  rotate_left
  rotate_right
  (first | (refine ⟨?_, ?_⟩ <;> ((try (conv => whnf)); repeat ((first | refine And.intro ?_ True.intro | refine And.intro ⟨by omega, by omega⟩ ?_ | refine ⟨_, (by assumption : RO.c _ _ _ = _), ?_⟩ | refine ⟨_, _, _, (by assumption : (_ : Option Obj) = _), ?_⟩ | refine ⟨_, _, _, (by assumption : RO.c _ _ _ = _), ?_⟩ | refine ⟨_, (by assumption : Row _ _ _ _), ?_⟩ | refine ⟨_, (by assumption : Cell _ _ _ _ _), ?_⟩ | refine ⟨_, _, _, (by assumption : Cell _ _ _ _ _), ?_⟩ | refine ⟨_, Or.inl (by assumption), ?_⟩ | refine ⟨_, _, _, Or.inl (by assumption), ?_⟩ | refine And.intro (ints_one _) ?_ | refine And.intro (by omega) ?_ | refine d1 ?_ | refine d2 ?_ | refine d3 ?_ | refine d4 ?_ | refine go G83 400 hC (by kernel_rfl) ?_); (conv => whnf)))) | skip)
  all_goals
    refine Con.mono (clone_spec ha) ?_
    rintro _ h2 m2 hle2 ⟨⟨s, rfl, hs⟩, rfl⟩
    obtain ⟨sa, sc, rfl, -⟩ := hs.s
    have k2' : Cell h2 m2 b 2 (.slice aa ands.length ac) := Cell.of ck rfl
    ((try (conv => whnf)); repeat ((first | refine And.intro ?_ True.intro | refine And.intro ⟨by omega, by omega⟩ ?_ | refine ⟨_, (by assumption : RO.c _ _ _ = _), ?_⟩ | refine ⟨_, _, _, (by assumption : (_ : Option Obj) = _), ?_⟩ | refine ⟨_, _, _, (by assumption : RO.c _ _ _ = _), ?_⟩ | refine ⟨_, (by assumption : Row _ _ _ _), ?_⟩ | refine ⟨_, (by assumption : Cell _ _ _ _ _), ?_⟩ | refine ⟨_, _, _, (by assumption : Cell _ _ _ _ _), ?_⟩ | refine ⟨_, Or.inl (by assumption), ?_⟩ | refine ⟨_, _, _, Or.inl (by assumption), ?_⟩ | refine And.intro (ints_one _) ?_ | refine And.intro (by omega) ?_ | refine d1 ?_ | refine d2 ?_ | refine d3 ?_ | refine d4 ?_ | refine go G83 400 hC (by kernel_rfl) ?_); (conv => whnf)))
    refine Con.mono (clone2m_spec (hb.mono hle2) (by omega)) ?_
    rintro _ h3 m3 - ⟨t, rfl, hr3, hs3, ho3, rfl⟩
    refine sx_pubRow hr3 hs3 ho3 fun h4 m4 hle4 hs4 _ hr4 => ?_
    obtain ⟨ta, tc, rfl⟩ := hr3.sl
    ((try (conv => whnf)); repeat ((first | refine And.intro ?_ True.intro | refine And.intro ⟨by omega, by omega⟩ ?_ | refine ⟨_, (by assumption : RO.c _ _ _ = _), ?_⟩ | refine ⟨_, _, _, (by assumption : (_ : Option Obj) = _), ?_⟩ | refine ⟨_, _, _, (by assumption : RO.c _ _ _ = _), ?_⟩ | refine ⟨_, (by assumption : Row _ _ _ _), ?_⟩ | refine ⟨_, (by assumption : Cell _ _ _ _ _), ?_⟩ | refine ⟨_, _, _, (by assumption : Cell _ _ _ _ _), ?_⟩ | refine ⟨_, Or.inl (by assumption), ?_⟩ | refine ⟨_, _, _, Or.inl (by assumption), ?_⟩ | refine And.intro (ints_one _) ?_ | refine And.intro (by omega) ?_ | refine d1 ?_ | refine d2 ?_ | refine d3 ?_ | refine d4 ?_ | refine go G83 400 hC (by kernel_rfl) ?_); (conv => whnf)))
    exact ⟨m2, hs4, _, _, rfl, hs.mono hle4, ⟨⟨ta, tc, rfl, hr4⟩, by omega, hb.rng⟩, rfl⟩
end Go.Proofs.YtoefoaabnjeofaaGreat
namespace Go.Proofs.YtoefoaabnjeofaaGreat
open Go.SX Go.Sort
set_option maxHeartbeats 8000000
set_option maxRecDepth 20000
def nilS : Value := .slice none 0 0
/-- The cubes of variables, as a map whose slices may be appended to. -/
structure CubI (m0 : Hp) (h : RO) (m : Hp) (bc : Nat) (cb : Int → List (List Int)) : Prop where
  sub : m0.sub m
  ex : ∃ f, MapX IK ιI m bc f ∧ (∀ v, match f v with | none => cb v = [] | some u => LLM h m u (cb v) ∧ ∀ g, u.ownBlock = some g → m0 g = none) ∧ ∀ v w u u' g, v ≠ w → f v = some u → f w = some u' → u.ownBlock = some g → u'.ownBlock ≠ some g
theorem CubI.mono {m0 : Hp} {h h' : RO} {m : Hp} {bc : Nat} {cb : Int → List (List Int)} (r : CubI m0 h m bc cb) (hl : h.le h') : CubI m0 h' m bc cb := by
  obtain ⟨f, h1, h2, h3⟩ := r.ex
  refine ⟨r.sub, f, h1, fun v => ?_, h3⟩
  have := h2 v
  cases hf : f v with
  | none => rw [hf] at this; exact this
  | some u => rw [hf] at this; exact ⟨this.1.mono hl, this.2⟩
theorem normal_len {l : List Int} (h : normal l = true) : l.length ≤ 65536 := by
  have hn := normal_iff.1 h
  have key : ∀ i, i < l.length → (i : Int) + 1 ≤ abs64 (g l i) := by
    intro i
    induction i with
    | zero =>
      intro hi
      have b := hn.1 _ (g_mem hi)
      rw [abs64_small b.1 b.2.1]
      split <;> omega
    | succ i ih =>
      intro hi
      have := ih (by omega)
      have := hn.2 i hi
      omega
  by_cases e : l.length = 0
  · omega
  · have := key (l.length - 1) (by omega)
    have b := hn.1 _ (g_mem (l := l) (i := l.length - 1) (by omega))
    rw [abs64_small b.1 b.2.1] at this
    split at this <;> omega
theorem MRow.stay {m m' : Hp} {e sz n : Nat} {v : Value} {es : List Value} (r : MRow m e sz v n es) (hk : ∀ g o, v.ownBlock = some g → m g = some o → m' g = some o) : MRow m' e sz v n es := by
  obtain ⟨h0, hr⟩ := r
  refine ⟨h0, hr.imp id ?_⟩
  rintro ⟨g, cap, cur, rfl, h2, h3⟩
  exact ⟨g, cap, cur, rfl, hk g _ rfl h2, h3⟩
theorem MRow.mem {m : Hp} {e sz n g : Nat} {v : Value} {es : List Value} (r : MRow m e sz v n es) (hg : v.ownBlock = some g) : ∃ o, m g = some o := by
  rcases r.2 with ⟨rfl, _⟩ | ⟨g', cap, cur, rfl, h2, _⟩
  · cases hg
  · simp [Value.ownBlock] at hg; subst hg; exact ⟨_, h2⟩
theorem MapX.stay {G : Value → Prop} {α : Type} {ι : α → Value} {f : α → Option Value} {m m' : Hp} {b : Nat} (r : MapX G ι m b f) (h : ∀ o, m b = some o → m' b = some o) : MapX G ι m' b f :=
  let ⟨es, c, F, hm, q⟩ := r; ⟨es, c, F, h _ hm, q⟩
theorem MkI.stay {h : RO} {m m' : Hp} {K : Mk} {ins : List Int} {ands : List Pr} {full : Bool} (r : MkI h m K ins ands full) (hk : ∀ k o, K.fp k → m k = some o → m' k = some o) : MkI h m' K ins ands full :=
  { r with
    cell := hk _ _ (.inl rfl) r.cell
    hands := MRow.stay r.hands fun g o e => hk g o (.inr (.inr (.inr e)))
    mat := MapX.stay r.mat fun o => hk _ o (.inr (.inl rfl))
    min := MapX.stay r.min fun o => hk _ o (.inr (.inr (.inl rfl))) }
theorem MkI.mem {h : RO} {m : Hp} {K : Mk} {ins : List Int} {ands : List Pr} {full : Bool} (r : MkI h m K ins ands full) {k : Nat} (hk : K.fp k) : ∃ o, m k = some o := by
  rcases hk with rfl | rfl | rfl | h
  · exact ⟨_, r.cell⟩
  · obtain ⟨es, c, F, hm, _⟩ := r.mat; exact ⟨_, hm⟩
  · obtain ⟨es, c, F, hm, _⟩ := r.min; exact ⟨_, hm⟩
  · exact MRow.mem r.hands h
/-- Memory without the row of a slice. -/
def offV (m : Hp) (v : Value) : Hp := fun k => if v.ownBlock = some k then none else m k
theorem offV_sub (m : Hp) (v : Value) : (offV m v).sub m := fun k o e => by unfold offV at e; split at e; cases e; exact e
theorem offV_own (m : Hp) (v : Value) : ∀ b, v.ownBlock = some b → offV m v b = none := fun b e => by unfold offV; rw [if_pos e]
theorem offV_ne {m : Hp} {v : Value} {k : Nat} (h : v.ownBlock ≠ some k) : offV m v k = m k := by unfold offV; rw [if_neg h]
def G17 : Gv := ⟨[88,126], [3, 13, 17], []⟩
def G17r : Gv := ⟨[88,126], [3, 13, 17], [(4, .one 0 (.fork 1 (.one 2 (.one 3 (.one 4 (.one 5 (.one 6 (.one 7 (.one 8 (.one 9 (.one 10 (.one 11 (.one 12 (.one 13 (.one 14 (.one 15 (.one 16 (.one 17 (.one 18 (.one 19 (.one 20 (.one 21 (.one 22 (.one 23 (.one 24 (.one 25 (.one 26 (.one 27 (.one 28 (.one 29 (.nil))))))))))))))))))))))))))))) .stop)), (12, .one 0 (.one 1 (.one 2 (.one 3 (.one 4 (.one 5 (.one 7 (.one 8 (.fork 6 (.fork 9 (.fork 10 (.fork 11 (.nil) .stop) .stop) .stop) (.fork 9 (.fork 6 (.fork 10 (.fork 11 (.nil) .stop) .stop) .stop) .stop))))))))))]⟩
theorem strat_spec {u v w r k : Value} {univ : List Int} {ex : List (Int × List Int)} {cls pts : List (List Int)} {model : List Int} {h : RO} {m : Hp} (ha : IntS h u univ) (hb : DepS h v ex) (hc : LLS h w cls) (hp : LLS h r pts) (hm : IntS h k model)
    (hl : univ.length + ex.length ≤ 1000000000) (ht : tot cls ≤ 1000000000000) (hpt : ∀ p ∈ pts, p.length ≤ 1000000) (hsm : pts.length * ex.length ≤ 65536)
    (hsz : 1 + univ.length + ex.length * (model.length * (univ.length + 1)) < 200000) :
    Con Tryz.prog 17 [.agg #[u, v, w], r, k] h m fun e h' m' => m' = m ∧ (match mayA univ ex cls pts && mayM (cops ex pts).length model with
      | false => e = .returned (.tuple #[.agg #[.slice none 0 0, .slice none 0 0, .slice none 0 0], .int .i64 2])
      | true => ∃ s t o, e = .returned (.tuple #[.agg #[s, t, o], .int .i64 0]) ∧ IntS h' s univ ∧ PrS h' t (strS univ (cops ex pts) model ex).2 ∧ PrS h' o (strS univ (cops ex pts) model ex).1) := by
  obtain ⟨ka, kc, rfl, -⟩ := hm.s
  obtain ⟨y, d, rfl⟩ := hb.sl
  obtain ⟨ua, uc, rfl, -⟩ := ha.s
  have hlm := hm.len
  have hlb := hb.len
  refine Con.drop ?_
  refine fn_of (nt := 133) T Tryz.func17 rfl (by kernel_rfl) Tryz.ntmps17 (by simp) T_ok T_mixed fun C hC => ?_
  simp only [Tryz.f17, argFr, Nat.zero_add, Nat.reduceAdd] at hC ⊢
  ((try (conv => whnf)); repeat ((first | refine And.intro ?_ True.intro | refine And.intro ⟨by omega, by omega⟩ ?_ | refine ⟨_, (by assumption : RO.c _ _ _ = _), ?_⟩ | refine ⟨_, _, _, (by assumption : (_ : Option Obj) = _), ?_⟩ | refine ⟨_, _, _, (by assumption : RO.c _ _ _ = _), ?_⟩ | refine ⟨_, (by assumption : Row _ _ _ _), ?_⟩ | refine ⟨_, (by assumption : Cell _ _ _ _ _), ?_⟩ | refine ⟨_, _, _, (by assumption : Cell _ _ _ _ _), ?_⟩ | refine ⟨_, Or.inl (by assumption), ?_⟩ | refine ⟨_, _, _, Or.inl (by assumption), ?_⟩ | refine And.intro (ints_one _) ?_ | refine And.intro (by omega) ?_ | refine d1 ?_ | refine d2 ?_ | refine d3 ?_ | refine d4 ?_ | refine go G17 400 hC (by kernel_rfl) ?_); (conv => whnf)))
  intro b0 h1 hle1 hp1
  ((try (conv => whnf)); repeat ((first | refine And.intro ?_ True.intro | refine And.intro ⟨by omega, by omega⟩ ?_ | refine ⟨_, (by assumption : RO.c _ _ _ = _), ?_⟩ | refine ⟨_, _, _, (by assumption : (_ : Option Obj) = _), ?_⟩ | refine ⟨_, _, _, (by assumption : RO.c _ _ _ = _), ?_⟩ | refine ⟨_, (by assumption : Row _ _ _ _), ?_⟩ | refine ⟨_, (by assumption : Cell _ _ _ _ _), ?_⟩ | refine ⟨_, _, _, (by assumption : Cell _ _ _ _ _), ?_⟩ | refine ⟨_, Or.inl (by assumption), ?_⟩ | refine ⟨_, _, _, Or.inl (by assumption), ?_⟩ | refine And.intro (ints_one _) ?_ | refine And.intro (by omega) ?_ | refine d1 ?_ | refine d2 ?_ | refine d3 ?_ | refine d4 ?_ | refine go G17 400 hC (by kernel_rfl) ?_); (conv => whnf)))
  refine Con.mono (number_spec (ha.mono hle1) (hb.mono hle1) (hc.mono hle1) (hp.mono hle1) hl ht (fun p hp => by have := hpt p hp; omega) hsm) ?_
  rintro _ h2 m2 hle2 ⟨hR, rfl⟩
  cases hq : mayA univ ex cls pts with
  | false =>
    rw [hq] at hR
    subst hR
    ((try (conv => whnf)); repeat ((first | refine And.intro ?_ True.intro | refine And.intro ⟨by omega, by omega⟩ ?_ | refine ⟨_, (by assumption : RO.c _ _ _ = _), ?_⟩ | refine ⟨_, _, _, (by assumption : (_ : Option Obj) = _), ?_⟩ | refine ⟨_, _, _, (by assumption : RO.c _ _ _ = _), ?_⟩ | refine ⟨_, (by assumption : Row _ _ _ _), ?_⟩ | refine ⟨_, (by assumption : Cell _ _ _ _ _), ?_⟩ | refine ⟨_, _, _, (by assumption : Cell _ _ _ _ _), ?_⟩ | refine ⟨_, Or.inl (by assumption), ?_⟩ | refine ⟨_, _, _, Or.inl (by assumption), ?_⟩ | refine And.intro (ints_one _) ?_ | refine And.intro (by omega) ?_ | refine d1 ?_ | refine d2 ?_ | refine d3 ?_ | refine d4 ?_ | refine go G17 400 hC (by kernel_rfl) ?_); (conv => whnf)))
    exact ⟨_, Hp.sub.refl _, rfl, by rw [hq]; rfl⟩
  | true =>
    rw [hq] at hR
    obtain ⟨xb, rfl, ⟨bm, vc, e3, e4, hd, hmp⟩⟩ := hR
    obtain ⟨hv, hvp⟩ := mayA_iff.1 hq
    have hle12 := hle1.trans hle2
    replace hb := hb.mono hle12
    replace ha := ha.mono hle12
    replace hm := hm.mono hle12
    obtain ⟨xa, xk, rfl⟩ := hd.sl
    ((try (conv => whnf)); repeat ((first | refine And.intro ?_ True.intro | refine And.intro ⟨by omega, by omega⟩ ?_ | refine ⟨_, (by assumption : RO.c _ _ _ = _), ?_⟩ | refine ⟨_, _, _, (by assumption : (_ : Option Obj) = _), ?_⟩ | refine ⟨_, _, _, (by assumption : RO.c _ _ _ = _), ?_⟩ | refine ⟨_, (by assumption : Row _ _ _ _), ?_⟩ | refine ⟨_, (by assumption : Cell _ _ _ _ _), ?_⟩ | refine ⟨_, _, _, (by assumption : Cell _ _ _ _ _), ?_⟩ | refine ⟨_, Or.inl (by assumption), ?_⟩ | refine ⟨_, _, _, Or.inl (by assumption), ?_⟩ | refine And.intro (ints_one _) ?_ | refine And.intro (by omega) ?_ | refine d1 ?_ | refine d2 ?_ | refine d3 ?_ | refine d4 ?_ | refine go G17 400 hC (by kernel_rfl) ?_); (conv => whnf)))
    have hpn := pnormal_eq hm.rng
    refine halt (sx_cutB (X := Unit) [2, 3, 6, 8] [3, 6] (fun _ => [(59, .v (.bool (!mayM (cops ex pts).length model)))]) (fun _ => []) (fun _ h' m' => h' = h2 ∧ m' = m2) (by repeat (first | exact Keep.nil | apply Keep.cons rfl | apply Keep.skip rfl)) (by repeat (first | exact KeepB.nil | apply KeepB.cons rfl)) ?_ ?_)
    · ((try (conv => whnf)); repeat ((first | refine And.intro ?_ True.intro | refine And.intro ⟨by omega, by omega⟩ ?_ | refine ⟨_, (by assumption : RO.c _ _ _ = _), ?_⟩ | refine ⟨_, _, _, (by assumption : (_ : Option Obj) = _), ?_⟩ | refine ⟨_, _, _, (by assumption : RO.c _ _ _ = _), ?_⟩ | refine ⟨_, (by assumption : Row _ _ _ _), ?_⟩ | refine ⟨_, (by assumption : Cell _ _ _ _ _), ?_⟩ | refine ⟨_, _, _, (by assumption : Cell _ _ _ _ _), ?_⟩ | refine ⟨_, Or.inl (by assumption), ?_⟩ | refine ⟨_, _, _, Or.inl (by assumption), ?_⟩ | refine And.intro (ints_one _) ?_ | refine And.intro (by omega) ?_ | refine d1 ?_ | refine d2 ?_ | refine d3 ?_ | refine d4 ?_ | refine go G17r 400 hC (by kernel_rfl) ?_); (conv => whnf)))
      refine Con.mono (smay_spec (LLS.nil h2) (by decide) hm) ?_
      rintro _ h3 m3 - ⟨rfl, rfl, rfl⟩
      have hpf : (pform [] && pnormal model) = normal model := by rw [hpn]; exact Bool.true_and _
      ((try (conv => whnf)); repeat ((first | refine And.intro ?_ True.intro | refine And.intro ⟨by omega, by omega⟩ ?_ | refine ⟨_, (by assumption : RO.c _ _ _ = _), ?_⟩ | refine ⟨_, _, _, (by assumption : (_ : Option Obj) = _), ?_⟩ | refine ⟨_, _, _, (by assumption : RO.c _ _ _ = _), ?_⟩ | refine ⟨_, (by assumption : Row _ _ _ _), ?_⟩ | refine ⟨_, (by assumption : Cell _ _ _ _ _), ?_⟩ | refine ⟨_, _, _, (by assumption : Cell _ _ _ _ _), ?_⟩ | refine ⟨_, Or.inl (by assumption), ?_⟩ | refine ⟨_, _, _, Or.inl (by assumption), ?_⟩ | refine And.intro (ints_one _) ?_ | refine And.intro (by omega) ?_ | refine d1 ?_ | refine d2 ?_ | refine d3 ?_ | refine d4 ?_ | refine go G17r 400 hC (by kernel_rfl) ?_); (conv => whnf)))
      refine ⟨fun hq1 => ?_, fun hq1 => ?_⟩ <;> ((try (conv => whnf)); repeat ((first | refine And.intro ?_ True.intro | refine And.intro ⟨by omega, by omega⟩ ?_ | refine ⟨_, (by assumption : RO.c _ _ _ = _), ?_⟩ | refine ⟨_, _, _, (by assumption : (_ : Option Obj) = _), ?_⟩ | refine ⟨_, _, _, (by assumption : RO.c _ _ _ = _), ?_⟩ | refine ⟨_, (by assumption : Row _ _ _ _), ?_⟩ | refine ⟨_, (by assumption : Cell _ _ _ _ _), ?_⟩ | refine ⟨_, _, _, (by assumption : Cell _ _ _ _ _), ?_⟩ | refine ⟨_, Or.inl (by assumption), ?_⟩ | refine ⟨_, _, _, Or.inl (by assumption), ?_⟩ | refine And.intro (ints_one _) ?_ | refine And.intro (by omega) ?_ | refine d1 ?_ | refine d2 ?_ | refine d3 ?_ | refine d4 ?_ | refine go G17r 400 hC (by kernel_rfl) ?_); (conv => whnf)))
      · have hn : normal model = true := by
          have : (!(pform [] && pnormal model)) = false := hq1
          rw [hpf] at this; simpa using this
        refine ⟨fun hq3 => ?_, fun hq3 => ?_⟩
        · have hpos : 0 < model.length := by simpa using hq3
          obtain ⟨q, o, rfl, hcc⟩ := hm.get (i := 0) hpos
          have hw := predI (i := model.length) hlm hpos
          have c1 : h3.c q (o + (IntKind.i64.wrap ((model.length : Int) - 1)).toNat) = some (.int .i64 (g model (model.length - 1))) := by rw [hw]; exact hcc (model.length - 1) (by omega)
          have hgl := (normal_iff.1 hn).1 _ (g_mem (l := model) (i := model.length - 1) (by omega))
          have hpa := pabs_lit (x := g model (model.length - 1)) (by omega)
          ((try (conv => whnf)); repeat ((first | refine And.intro ?_ True.intro | refine And.intro ⟨by omega, by omega⟩ ?_ | refine ⟨_, (by assumption : RO.c _ _ _ = _), ?_⟩ | refine ⟨_, _, _, (by assumption : (_ : Option Obj) = _), ?_⟩ | refine ⟨_, _, _, (by assumption : RO.c _ _ _ = _), ?_⟩ | refine ⟨_, (by assumption : Row _ _ _ _), ?_⟩ | refine ⟨_, (by assumption : Cell _ _ _ _ _), ?_⟩ | refine ⟨_, _, _, (by assumption : Cell _ _ _ _ _), ?_⟩ | refine ⟨_, Or.inl (by assumption), ?_⟩ | refine ⟨_, _, _, Or.inl (by assumption), ?_⟩ | refine And.intro (ints_one _) ?_ | refine And.intro (by omega) ?_ | refine d1 ?_ | refine d2 ?_ | refine d3 ?_ | refine d4 ?_ | refine go G17r 400 hC (by kernel_rfl) ?_); (conv => whnf)))
          have e : (!mayM (cops ex pts).length model) = decide (max (g model (model.length - 1)) (IntKind.i64.wrap (0 - g model (model.length - 1))) > ((cops ex pts).length : Int)) := by rw [mayM, hn, hq3, hpa]; simp
          exact halt ⟨(), [(3, 3), (6, 6)], ⟨by simp [sinj], ⟨by rw [e]; rfl, by repeat (first | exact trivial | refine ⟨rfl, ?_⟩ | refine ⟨⟨rfl, rfl⟩, ?_⟩)⟩, rfl, rfl, trivial⟩, RO.le.refl _, rfl, rfl⟩
        · ((try (conv => whnf)); repeat ((first | refine And.intro ?_ True.intro | refine And.intro ⟨by omega, by omega⟩ ?_ | refine ⟨_, (by assumption : RO.c _ _ _ = _), ?_⟩ | refine ⟨_, _, _, (by assumption : (_ : Option Obj) = _), ?_⟩ | refine ⟨_, _, _, (by assumption : RO.c _ _ _ = _), ?_⟩ | refine ⟨_, (by assumption : Row _ _ _ _), ?_⟩ | refine ⟨_, (by assumption : Cell _ _ _ _ _), ?_⟩ | refine ⟨_, _, _, (by assumption : Cell _ _ _ _ _), ?_⟩ | refine ⟨_, Or.inl (by assumption), ?_⟩ | refine ⟨_, _, _, Or.inl (by assumption), ?_⟩ | refine And.intro (ints_one _) ?_ | refine And.intro (by omega) ?_ | refine d1 ?_ | refine d2 ?_ | refine d3 ?_ | refine d4 ?_ | refine go G17r 400 hC (by kernel_rfl) ?_); (conv => whnf)))
          have e : (!mayM (cops ex pts).length model) = false := by rw [mayM, hn, hq3]; rfl
          exact halt ⟨(), [(3, 3), (6, 6)], ⟨by simp [sinj], ⟨by rw [e]; trivial, by repeat (first | exact trivial | refine ⟨rfl, ?_⟩ | refine ⟨⟨rfl, rfl⟩, ?_⟩)⟩, rfl, rfl, trivial⟩, RO.le.refl _, rfl, rfl⟩
      · have hn : normal model = false := by
          have : (!(pform [] && pnormal model)) = true := hq1
          rw [hpf] at this; simpa using this
        have e : (!mayM (cops ex pts).length model) = true := by rw [mayM, hn]; rfl
        exact halt ⟨(), [(3, 3), (6, 6)], ⟨by simp [sinj], ⟨by rw [e]; trivial, by repeat (first | exact trivial | refine ⟨rfl, ?_⟩ | refine ⟨⟨rfl, rfl⟩, ?_⟩)⟩, rfl, rfl, trivial⟩, RO.le.refl _, rfl, rfl⟩
    rintro _ h3 m3 - ⟨rfl, rfl⟩
    cases hq2 : mayM (cops ex pts).length model with
    | false =>
      ((try (conv => whnf)); repeat ((first | refine And.intro ?_ True.intro | refine And.intro ⟨by omega, by omega⟩ ?_ | refine ⟨_, (by assumption : RO.c _ _ _ = _), ?_⟩ | refine ⟨_, _, _, (by assumption : (_ : Option Obj) = _), ?_⟩ | refine ⟨_, _, _, (by assumption : RO.c _ _ _ = _), ?_⟩ | refine ⟨_, (by assumption : Row _ _ _ _), ?_⟩ | refine ⟨_, (by assumption : Cell _ _ _ _ _), ?_⟩ | refine ⟨_, _, _, (by assumption : Cell _ _ _ _ _), ?_⟩ | refine ⟨_, Or.inl (by assumption), ?_⟩ | refine ⟨_, _, _, Or.inl (by assumption), ?_⟩ | refine And.intro (ints_one _) ?_ | refine And.intro (by omega) ?_ | refine d1 ?_ | refine d2 ?_ | refine d3 ?_ | refine d4 ?_ | refine go G17 400 hC (by kernel_rfl) ?_); (conv => whnf)))
      exact ⟨_, Hp.sub.refl _, rfl, by rw [hq, hq2]; rfl⟩
    | true =>
      have hnm : normal model = true := by
        simp only [mayM, Bool.and_eq_true] at hq2; exact hq2.1
      have hml2 : model.length ≤ 65536 := by
        have := normal_len hnm
        omega
      have hml : ∀ n ∈ model, abs64 n ≤ (cops ex pts).length ∧ n ≠ 0 ∧ -65536 ≤ n ∧ n ≤ 65536 := fun n hn => mayM_lit hq2 hn
      ((try (conv => whnf)); repeat ((first | refine And.intro ?_ True.intro | refine And.intro ⟨by omega, by omega⟩ ?_ | refine ⟨_, (by assumption : RO.c _ _ _ = _), ?_⟩ | refine ⟨_, _, _, (by assumption : (_ : Option Obj) = _), ?_⟩ | refine ⟨_, _, _, (by assumption : RO.c _ _ _ = _), ?_⟩ | refine ⟨_, (by assumption : Row _ _ _ _), ?_⟩ | refine ⟨_, (by assumption : Cell _ _ _ _ _), ?_⟩ | refine ⟨_, _, _, (by assumption : Cell _ _ _ _ _), ?_⟩ | refine ⟨_, Or.inl (by assumption), ?_⟩ | refine ⟨_, _, _, Or.inl (by assumption), ?_⟩ | refine And.intro (ints_one _) ?_ | refine And.intro (by omega) ?_ | refine d1 ?_ | refine d2 ?_ | refine d3 ?_ | refine d4 ?_ | refine go G17 400 hC (by kernel_rfl) ?_); (conv => whnf)))
      intro bc f1 f2 f3
      ((try (conv => whnf)); repeat ((first | refine And.intro ?_ True.intro | refine And.intro ⟨by omega, by omega⟩ ?_ | refine ⟨_, (by assumption : RO.c _ _ _ = _), ?_⟩ | refine ⟨_, _, _, (by assumption : (_ : Option Obj) = _), ?_⟩ | refine ⟨_, _, _, (by assumption : RO.c _ _ _ = _), ?_⟩ | refine ⟨_, (by assumption : Row _ _ _ _), ?_⟩ | refine ⟨_, (by assumption : Cell _ _ _ _ _), ?_⟩ | refine ⟨_, _, _, (by assumption : Cell _ _ _ _ _), ?_⟩ | refine ⟨_, Or.inl (by assumption), ?_⟩ | refine ⟨_, _, _, Or.inl (by assumption), ?_⟩ | refine And.intro (ints_one _) ?_ | refine And.intro (by omega) ?_ | refine d1 ?_ | refine d2 ?_ | refine d3 ?_ | refine d4 ?_ | refine go G17 400 hC (by kernel_rfl) ?_); (conv => whnf)))
      refine halt (sx_loopB (X := Nat) [3, 6, 8, 10, 62, 63] [3, 6] (fun i => [(64, .v (.int .i64 i))]) (fun _ => [])
        (fun i h' m' => i ≤ model.length ∧ h3.le h' ∧ CubI m3 h' m' bc (cubesOf (cops ex pts) (model.take i))) (fun i => model.length - i) 0 (by repeat (first | exact Keep.nil | apply Keep.cons rfl | apply Keep.skip rfl)) (by repeat (first | exact KeepB.nil | apply KeepB.cons rfl)) ⟨[(3, 3), (6, 6)], ⟨by simp [sinj], by repeat (first | exact trivial | refine ⟨rfl, ?_⟩ | refine ⟨⟨rfl, rfl⟩, ?_⟩ | refine ⟨⟨rfl, rfl, rfl⟩, ?_⟩ | refine ⟨stepI (by omega), ?_⟩ | refine ⟨by assumption, ?_⟩), by repeat (first | exact trivial | refine ⟨rfl, ?_⟩ | refine ⟨⟨rfl, rfl, rfl⟩, ?_⟩ | refine ⟨by assumption, ?_⟩)⟩⟩
        ⟨by omega, RO.le.refl _, (Hp.sub.refl _).fresh f1 _, _, MapX.new IK ιI m3 bc, fun v => rfl, fun v w u u' g _ e => by cases e⟩ ?_)
      rintro i h4 m4 - ⟨hi, hle4, hI⟩
      ((try (conv => whnf)); repeat ((first | refine And.intro ?_ True.intro | refine And.intro ⟨by omega, by omega⟩ ?_ | refine ⟨_, (by assumption : RO.c _ _ _ = _), ?_⟩ | refine ⟨_, _, _, (by assumption : (_ : Option Obj) = _), ?_⟩ | refine ⟨_, _, _, (by assumption : RO.c _ _ _ = _), ?_⟩ | refine ⟨_, (by assumption : Row _ _ _ _), ?_⟩ | refine ⟨_, (by assumption : Cell _ _ _ _ _), ?_⟩ | refine ⟨_, _, _, (by assumption : Cell _ _ _ _ _), ?_⟩ | refine ⟨_, Or.inl (by assumption), ?_⟩ | refine ⟨_, _, _, Or.inl (by assumption), ?_⟩ | refine And.intro (ints_one _) ?_ | refine And.intro (by omega) ?_ | refine d1 ?_ | refine d2 ?_ | refine d3 ?_ | refine d4 ?_ | refine go G17 400 hC (by kernel_rfl) ?_); (conv => whnf)))
      refine ⟨fun hlt => ?_, fun hge => ?_⟩
      · have hlt : i < model.length := by simpa using hlt
        obtain ⟨q, o, rfl, hcc⟩ := (hm.mono hle4).get hlt
        have c1 := hcc i hlt
        have hni := hml _ (g_mem hlt)
        have hsn : ∀ v, cubesOf (cops ex pts) (model.take (i + 1)) v = cubesOf (cops ex pts) (model.take i) v ++ (cubeL (cops ex pts) v (g model i)).toList := fun v => by
          rw [List.take_add_one, g_get hlt]; exact cubesOf_snoc _ _ _ _
        ((try (conv => whnf)); repeat ((first | refine And.intro ?_ True.intro | refine And.intro ⟨by omega, by omega⟩ ?_ | refine ⟨_, (by assumption : RO.c _ _ _ = _), ?_⟩ | refine ⟨_, _, _, (by assumption : (_ : Option Obj) = _), ?_⟩ | refine ⟨_, _, _, (by assumption : RO.c _ _ _ = _), ?_⟩ | refine ⟨_, (by assumption : Row _ _ _ _), ?_⟩ | refine ⟨_, (by assumption : Cell _ _ _ _ _), ?_⟩ | refine ⟨_, _, _, (by assumption : Cell _ _ _ _ _), ?_⟩ | refine ⟨_, Or.inl (by assumption), ?_⟩ | refine ⟨_, _, _, Or.inl (by assumption), ?_⟩ | refine And.intro (ints_one _) ?_ | refine And.intro (by omega) ?_ | refine d1 ?_ | refine d2 ?_ | refine d3 ?_ | refine d4 ?_ | refine go G17 400 hC (by kernel_rfl) ?_); (conv => whnf)))
        refine ⟨fun hpos => ?_, fun hpos => ?_⟩
        rotate_left
        · have hpos : ¬ g model i > 0 := by simpa using hpos
          ((try (conv => whnf)); repeat ((first | refine And.intro ?_ True.intro | refine And.intro ⟨by omega, by omega⟩ ?_ | refine ⟨_, (by assumption : RO.c _ _ _ = _), ?_⟩ | refine ⟨_, _, _, (by assumption : (_ : Option Obj) = _), ?_⟩ | refine ⟨_, _, _, (by assumption : RO.c _ _ _ = _), ?_⟩ | refine ⟨_, (by assumption : Row _ _ _ _), ?_⟩ | refine ⟨_, (by assumption : Cell _ _ _ _ _), ?_⟩ | refine ⟨_, _, _, (by assumption : Cell _ _ _ _ _), ?_⟩ | refine ⟨_, Or.inl (by assumption), ?_⟩ | refine ⟨_, _, _, Or.inl (by assumption), ?_⟩ | refine And.intro (ints_one _) ?_ | refine And.intro (by omega) ?_ | refine d1 ?_ | refine d2 ?_ | refine d3 ?_ | refine d4 ?_ | refine go G17 400 hC (by kernel_rfl) ?_); (conv => whnf)))
          have : cubesOf (cops ex pts) (model.take (i + 1)) = cubesOf (cops ex pts) (model.take i) := by
            funext v; rw [hsn, cubeL, if_neg (fun hh => hpos hh.1)]; simp
          exact halt ⟨i + 1, [(3, 3), (6, 6)], ⟨by simp [sinj], by repeat (first | exact trivial | refine ⟨rfl, ?_⟩ | refine ⟨⟨rfl, rfl⟩, ?_⟩ | refine ⟨⟨rfl, rfl, rfl⟩, ?_⟩ | refine ⟨stepI (by omega), ?_⟩ | refine ⟨by assumption, ?_⟩), by repeat (first | exact trivial | refine ⟨rfl, ?_⟩ | refine ⟨⟨rfl, rfl, rfl⟩, ?_⟩ | refine ⟨by assumption, ?_⟩)⟩, RO.le.refl _, ⟨hlt, hle4, by rw [this]; exact hI⟩, by omega⟩
        have hpos : g model i > 0 := by simpa using hpos
        have hab : abs64 (g model i) = g model i := by rw [abs64_small (by omega) (by omega), if_neg (by omega)]
        have hw : IntKind.i64.wrap (g model i - 1) = g model i - 1 := w64 (by omega) (by omega)
        have hj : (g model i - 1).toNat < (cops ex pts).length := by omega
        obtain ⟨q2, o2, rfl, hcc2⟩ := ((hd.mono hle4)).get hj
        obtain ⟨d1, da, dc, d2, hdi⟩ := hcc2 (IntKind.i64.wrap (g model i - 1)).toNat (by rw [hw]; exact hj)
        have hcu : ∀ v, cubeL (cops ex pts) v (g model i) = if (gd (cops ex pts) (IntKind.i64.wrap (g model i - 1)).toNat).1 = v then some (gd (cops ex pts) (IntKind.i64.wrap (g model i - 1)).toNat).2 else none := fun v => by
          rw [hw, cubeL]; by_cases h : (gd (cops ex pts) (g model i - 1).toNat).1 = v
          · rw [if_pos ⟨hpos, h⟩, if_pos h]
          · rw [if_neg (fun hh => h hh.2), if_neg h]
        have hclen := cubesOf_len (cops ex pts) (model.take i) (gd (cops ex pts) (IntKind.i64.wrap (g model i - 1)).toNat).1
        have htkl : (model.take i).length ≤ 65536 := by simp; omega
        have e4' : h4.c xb 4 = some (.slice (some ⟨q2, o2, none⟩) (cops ex pts).length xk) := hle4.c _ _ _ e4
        have fin : ∀ (es : Array MapEntry) (ek : Nat) (F : Value → Option Value) (f : Int → Option Value), m4 bc = some (.map es ek) → MapO IK ιI es F f →
            (∀ v, match f v with | none => cubesOf (cops ex pts) (model.take i) v = [] | some u => LLM h4 m4 u (cubesOf (cops ex pts) (model.take i) v) ∧ ∀ g, u.ownBlock = some g → m3 g = none) →
            (∀ v w u u' g, v ≠ w → f v = some u → f w = some u' → u.ownBlock = some g → u'.ownBlock ≠ some g) →
            ∀ (u0 : Value) (es0 : List Value) (h5 : RO), h4.le h5 → MRow m4 22 1 u0 (cubesOf (cops ex pts) (model.take i) (gd (cops ex pts) (IntKind.i64.wrap (g model i - 1)).toNat).1).length es0 →
            LLR h4 es0 (cubesOf (cops ex pts) (model.take i) (gd (cops ex pts) (IntKind.i64.wrap (g model i - 1)).toNat).1) → (∀ g, u0.ownBlock = some g → m3 g = none) →
            (∀ w u' b, (gd (cops ex pts) (IntKind.i64.wrap (g model i - 1)).toNat).1 ≠ w → f w = some u' → u0.ownBlock = some b → u'.ownBlock ≠ some b) →
            ∀ (v' : Value) (m' : Hp), MRow m' 22 1 v' ((cubesOf (cops ex pts) (model.take i) (gd (cops ex pts) (IntKind.i64.wrap (g model i - 1)).toNat).1).length + 1) (es0 ++ [.slice da (gd (cops ex pts) (IntKind.i64.wrap (g model i - 1)).toNat).2.length dc]) → Turned m4 m' h5 u0 v' →
            m' bc = some (.map es ek) ∧ ∀ es' ck', MRep IK es' (updF F (.int .i64 (gd (cops ex pts) (IntKind.i64.wrap (g model i - 1)).toNat).1) (some v')) → CubI m3 h5 (m'.set bc (.map es' ck')) bc (cubesOf (cops ex pts) (model.take (i + 1))) := by
          intro es ek F f hmb hO hfv hdis u0 es0 h5 hle5 hr0 hl0 ho0 hd0 v' m' hr' ht'
          generalize (IntKind.i64.wrap (g model i - 1)).toNat = J at *
          have hmb' := ht'.keep hr0 hmb rfl
          refine ⟨hmb', fun es' ck' hr => ?_⟩
          have hsub := ht'.sub hI.sub ho0
          have hbc : ∀ g, v'.ownBlock = some g → g ≠ bc := hr'.ne hmb' rfl
          refine ⟨hsub.1.fresh f1 _, _, (hO.upd ιI_inj (x := (gd (cops ex pts) J).1) hr).x (clock := ck') m' bc, fun v => ?_, fun v w u u' g hvw hu hu' hg => ?_⟩
          · by_cases e : v = (gd (cops ex pts) J).1
            · subst e
              rw [updA_self]
              refine ⟨⟨es0 ++ [.slice da (gd (cops ex pts) J).2.length dc], ?_, ?_⟩, hsub.2⟩
              · rw [hsn, hcu, if_pos rfl, Option.toList_some, List.length_append]; exact hr'.set hbc _
              · rw [hsn, hcu, if_pos rfl]; exact LLR.snoc (hl0.mono hle5) (hdi.mono hle5)
            · rw [updA_ne _ _ e, hsn, hcu, if_neg (Ne.symm e), Option.toList_none, List.append_nil]
              have := hfv v
              cases hf : f v with
              | none => rw [hf] at this; exact this
              | some u =>
                rw [hf] at this
                refine ⟨(this.1.mono hle5).keep fun g o hg ho => ?_, this.2⟩
                have h1 : m' g = some o := ht'.keep2 ho fun hh => hd0 v u g (Ne.symm e) hf hh hg
                have h2 : g ≠ bc := fun e' => by
                  subst e'
                  obtain ⟨es1, hr1, _⟩ := this.1
                  exact hr1.ne hmb rfl g hg rfl
                rw [Hp.set_ne h2]; exact h1
          · have hnew : ∀ g w u', (gd (cops ex pts) J).1 ≠ w → f w = some u' → v'.ownBlock = some g → u'.ownBlock ≠ some g := fun g w u' hne hu' hg => by
              rcases ht'.own hg with q | q
              · exact hd0 w u' g hne hu' q
              · intro hh
                have := hfv w
                rw [hu'] at this
                obtain ⟨es1, hr1, _⟩ := this.1
                rcases hr1.2 with ⟨e, _⟩ | ⟨g', cap, cur, e, h2, _⟩
                · rw [e] at hh; cases hh
                · rw [e] at hh; simp [Value.ownBlock] at hh; subst hh; rw [h2] at q; cases q
            by_cases ev : v = (gd (cops ex pts) J).1
            · subst ev
              rw [updA_self] at hu; cases hu
              rw [updA_ne _ _ (Ne.symm hvw)] at hu'
              exact hnew g w u' hvw hu' hg
            · rw [updA_ne _ _ ev] at hu
              by_cases ew : w = (gd (cops ex pts) J).1
              · subst ew
                rw [updA_self] at hu'; cases hu'
                intro hh
                exact hnew g v u (Ne.symm ev) hu hh hg
              · rw [updA_ne _ _ ew] at hu'
                exact hdis v w u u' g hvw hu hu' hg
        ((try (conv => whnf)); repeat ((first | refine And.intro ?_ True.intro | refine And.intro ⟨by omega, by omega⟩ ?_ | refine ⟨_, (by assumption : RO.c _ _ _ = _), ?_⟩ | refine ⟨_, _, _, (by assumption : (_ : Option Obj) = _), ?_⟩ | refine ⟨_, _, _, (by assumption : RO.c _ _ _ = _), ?_⟩ | refine ⟨_, (by assumption : Row _ _ _ _), ?_⟩ | refine ⟨_, (by assumption : Cell _ _ _ _ _), ?_⟩ | refine ⟨_, _, _, (by assumption : Cell _ _ _ _ _), ?_⟩ | refine ⟨_, Or.inl (by assumption), ?_⟩ | refine ⟨_, _, _, Or.inl (by assumption), ?_⟩ | refine And.intro (ints_one _) ?_ | refine And.intro (by omega) ?_ | refine d1 ?_ | refine d2 ?_ | refine d3 ?_ | refine d4 ?_ | refine go G17 400 hC (by kernel_rfl) ?_); (conv => whnf)))
        intro b5 h5 hle5 hp5
        have p0 := hp5 0 _ rfl
        have p1 := hp5 1 _ rfl
        ((try (conv => whnf)); repeat ((first | refine And.intro ?_ True.intro | refine And.intro ⟨by omega, by omega⟩ ?_ | refine ⟨_, (by assumption : RO.c _ _ _ = _), ?_⟩ | refine ⟨_, _, _, (by assumption : (_ : Option Obj) = _), ?_⟩ | refine ⟨_, _, _, (by assumption : RO.c _ _ _ = _), ?_⟩ | refine ⟨_, (by assumption : Row _ _ _ _), ?_⟩ | refine ⟨_, (by assumption : Cell _ _ _ _ _), ?_⟩ | refine ⟨_, _, _, (by assumption : Cell _ _ _ _ _), ?_⟩ | refine ⟨_, Or.inl (by assumption), ?_⟩ | refine ⟨_, _, _, Or.inl (by assumption), ?_⟩ | refine And.intro (ints_one _) ?_ | refine And.intro (by omega) ?_ | refine d1 ?_ | refine d2 ?_ | refine d3 ?_ | refine d4 ?_ | refine go G17 400 hC (by kernel_rfl) ?_); (conv => whnf)))
        refine halt (sx_cutB (X := Unit) [3, 6, 8, 10, 62, 63, 64] [3, 6] (fun _ => []) (fun _ => []) (fun _ h' m' => h' = h5 ∧ CubI m3 h5 m' bc (cubesOf (cops ex pts) (model.take (i + 1)))) (by repeat (first | exact Keep.nil | apply Keep.cons rfl | apply Keep.skip rfl)) (by repeat (first | exact KeepB.nil | apply KeepB.cons rfl)) ?_ ?_)
        · obtain ⟨f, ⟨es, ek, F, hmb, hO⟩, hfv, hdis⟩ := hI.ex
          have hfin := fin es ek F f hmb hO hfv hdis
          ((try (conv => whnf)); repeat ((first | refine And.intro ?_ True.intro | refine And.intro ⟨by omega, by omega⟩ ?_ | refine ⟨_, (by assumption : RO.c _ _ _ = _), ?_⟩ | refine ⟨_, _, _, (by assumption : (_ : Option Obj) = _), ?_⟩ | refine ⟨_, _, _, (by assumption : RO.c _ _ _ = _), ?_⟩ | refine ⟨_, (by assumption : Row _ _ _ _), ?_⟩ | refine ⟨_, (by assumption : Cell _ _ _ _ _), ?_⟩ | refine ⟨_, _, _, (by assumption : Cell _ _ _ _ _), ?_⟩ | refine ⟨_, Or.inl (by assumption), ?_⟩ | refine ⟨_, _, _, Or.inl (by assumption), ?_⟩ | refine And.intro (ints_one _) ?_ | refine And.intro (by omega) ?_ | refine d1 ?_ | refine d2 ?_ | refine d3 ?_ | refine d4 ?_ | refine go G17r 400 hC (by kernel_rfl) ?_); (conv => whnf)))
          refine ⟨?_, ?_⟩ <;> ((try (conv => whnf)); repeat ((first | refine And.intro ?_ True.intro | refine And.intro ⟨by omega, by omega⟩ ?_ | refine ⟨_, (by assumption : RO.c _ _ _ = _), ?_⟩ | refine ⟨_, _, _, (by assumption : (_ : Option Obj) = _), ?_⟩ | refine ⟨_, _, _, (by assumption : RO.c _ _ _ = _), ?_⟩ | refine ⟨_, (by assumption : Row _ _ _ _), ?_⟩ | refine ⟨_, (by assumption : Cell _ _ _ _ _), ?_⟩ | refine ⟨_, _, _, (by assumption : Cell _ _ _ _ _), ?_⟩ | refine ⟨_, Or.inl (by assumption), ?_⟩ | refine ⟨_, _, _, Or.inl (by assumption), ?_⟩ | refine And.intro (ints_one _) ?_ | refine And.intro (by omega) ?_ | refine d1 ?_ | refine d2 ?_ | refine d3 ?_ | refine d4 ?_ | refine go G17r 400 hC (by kernel_rfl) ?_); (conv => whnf)))
          all_goals
            refine ⟨es, ek, _, F, ⟨.inl hmb, keyInt, hO.r, isIK _⟩, ?_⟩
            erw [hO.eq (gd (cops ex pts) (IntKind.i64.wrap (g model i - 1)).toNat).1]
            cases hf0 : f (gd (cops ex pts) (IntKind.i64.wrap (g model i - 1)).toNat).1 with
            | none =>
              have hcn : cubesOf (cops ex pts) (model.take i) (gd (cops ex pts) (IntKind.i64.wrap (g model i - 1)).toNat).1 = [] := by
                have := hfv (gd (cops ex pts) (IntKind.i64.wrap (g model i - 1)).toNat).1
                rw [hf0] at this; exact this
              ((try (conv => whnf)); repeat ((first | refine And.intro ?_ True.intro | refine And.intro ⟨by omega, by omega⟩ ?_ | refine ⟨_, (by assumption : RO.c _ _ _ = _), ?_⟩ | refine ⟨_, _, _, (by assumption : (_ : Option Obj) = _), ?_⟩ | refine ⟨_, _, _, (by assumption : RO.c _ _ _ = _), ?_⟩ | refine ⟨_, (by assumption : Row _ _ _ _), ?_⟩ | refine ⟨_, (by assumption : Cell _ _ _ _ _), ?_⟩ | refine ⟨_, _, _, (by assumption : Cell _ _ _ _ _), ?_⟩ | refine ⟨_, Or.inl (by assumption), ?_⟩ | refine ⟨_, _, _, Or.inl (by assumption), ?_⟩ | refine And.intro (ints_one _) ?_ | refine And.intro (by omega) ?_ | refine d1 ?_ | refine d2 ?_ | refine d3 ?_ | refine d4 ?_ | refine go G17r 400 hC (by kernel_rfl) ?_); (conv => whnf)))
              refine ⟨0, [], And.intro (MRow.nil _ _ _) (by show (0 + 1) * 24 ≤ 140737488355328; omega), fun v' m' hr' ht' => ?_⟩
              have hn := hfin (.slice none 0 0) [] h5 hle5
              rw [hcn] at hn
              obtain ⟨hb', hc'⟩ := hn (MRow.nil _ _ _) (LLR.nil _) (fun g e => by cases e) (fun w u' b _ _ e => by cases e) v' m' hr' ht'
              ((try (conv => whnf)); repeat ((first | refine And.intro ?_ True.intro | refine And.intro ⟨by omega, by omega⟩ ?_ | refine ⟨_, (by assumption : RO.c _ _ _ = _), ?_⟩ | refine ⟨_, _, _, (by assumption : (_ : Option Obj) = _), ?_⟩ | refine ⟨_, _, _, (by assumption : RO.c _ _ _ = _), ?_⟩ | refine ⟨_, (by assumption : Row _ _ _ _), ?_⟩ | refine ⟨_, (by assumption : Cell _ _ _ _ _), ?_⟩ | refine ⟨_, _, _, (by assumption : Cell _ _ _ _ _), ?_⟩ | refine ⟨_, Or.inl (by assumption), ?_⟩ | refine ⟨_, _, _, Or.inl (by assumption), ?_⟩ | refine And.intro (ints_one _) ?_ | refine And.intro (by omega) ?_ | refine d1 ?_ | refine d2 ?_ | refine d3 ?_ | refine d4 ?_ | refine go G17r 400 hC (by kernel_rfl) ?_); (conv => whnf)))
              refine ⟨es, ek, _, F, ⟨hb', keyInt, hO.r, isIK _⟩, fun es' ck' hr => ?_⟩
              ((try (conv => whnf)); repeat ((first | refine And.intro ?_ True.intro | refine And.intro ⟨by omega, by omega⟩ ?_ | refine ⟨_, (by assumption : RO.c _ _ _ = _), ?_⟩ | refine ⟨_, _, _, (by assumption : (_ : Option Obj) = _), ?_⟩ | refine ⟨_, _, _, (by assumption : RO.c _ _ _ = _), ?_⟩ | refine ⟨_, (by assumption : Row _ _ _ _), ?_⟩ | refine ⟨_, (by assumption : Cell _ _ _ _ _), ?_⟩ | refine ⟨_, _, _, (by assumption : Cell _ _ _ _ _), ?_⟩ | refine ⟨_, Or.inl (by assumption), ?_⟩ | refine ⟨_, _, _, Or.inl (by assumption), ?_⟩ | refine And.intro (ints_one _) ?_ | refine And.intro (by omega) ?_ | refine d1 ?_ | refine d2 ?_ | refine d3 ?_ | refine d4 ?_ | refine go G17r 400 hC (by kernel_rfl) ?_); (conv => whnf)))
              exact halt ⟨(), [(3, 3), (6, 6)], ⟨by simp [sinj], by repeat (first | exact trivial | refine ⟨rfl, ?_⟩ | refine ⟨⟨rfl, rfl⟩, ?_⟩ | refine ⟨⟨rfl, rfl, rfl⟩, ?_⟩ | refine ⟨stepI (by omega), ?_⟩ | refine ⟨by assumption, ?_⟩), by repeat (first | exact trivial | refine ⟨rfl, ?_⟩ | refine ⟨⟨rfl, rfl, rfl⟩, ?_⟩ | refine ⟨by assumption, ?_⟩)⟩, RO.le.refl _, rfl, hc' es' ck' hr⟩
            | some u0 =>
              have hu0 := hfv (gd (cops ex pts) (IntKind.i64.wrap (g model i - 1)).toNat).1
              rw [hf0] at hu0
              obtain ⟨⟨es0, hr0, hl0⟩, ho0⟩ := hu0
              obtain ⟨a0, c0, rfl, -⟩ := hr0.sl
              ((try (conv => whnf)); repeat ((first | refine And.intro ?_ True.intro | refine And.intro ⟨by omega, by omega⟩ ?_ | refine ⟨_, (by assumption : RO.c _ _ _ = _), ?_⟩ | refine ⟨_, _, _, (by assumption : (_ : Option Obj) = _), ?_⟩ | refine ⟨_, _, _, (by assumption : RO.c _ _ _ = _), ?_⟩ | refine ⟨_, (by assumption : Row _ _ _ _), ?_⟩ | refine ⟨_, (by assumption : Cell _ _ _ _ _), ?_⟩ | refine ⟨_, _, _, (by assumption : Cell _ _ _ _ _), ?_⟩ | refine ⟨_, Or.inl (by assumption), ?_⟩ | refine ⟨_, _, _, Or.inl (by assumption), ?_⟩ | refine And.intro (ints_one _) ?_ | refine And.intro (by omega) ?_ | refine d1 ?_ | refine d2 ?_ | refine d3 ?_ | refine d4 ?_ | refine go G17r 400 hC (by kernel_rfl) ?_); (conv => whnf)))
              refine ⟨_, es0, And.intro hr0 (by show (_ + 1) * 24 ≤ 140737488355328; omega), fun v' m' hr' ht' => ?_⟩
              obtain ⟨hb', hc'⟩ := hfin _ es0 h5 hle5 hr0 hl0 ho0 (fun w u' b hne hu' => hdis _ w _ u' b hne hf0 hu') v' m' hr' ht'
              ((try (conv => whnf)); repeat ((first | refine And.intro ?_ True.intro | refine And.intro ⟨by omega, by omega⟩ ?_ | refine ⟨_, (by assumption : RO.c _ _ _ = _), ?_⟩ | refine ⟨_, _, _, (by assumption : (_ : Option Obj) = _), ?_⟩ | refine ⟨_, _, _, (by assumption : RO.c _ _ _ = _), ?_⟩ | refine ⟨_, (by assumption : Row _ _ _ _), ?_⟩ | refine ⟨_, (by assumption : Cell _ _ _ _ _), ?_⟩ | refine ⟨_, _, _, (by assumption : Cell _ _ _ _ _), ?_⟩ | refine ⟨_, Or.inl (by assumption), ?_⟩ | refine ⟨_, _, _, Or.inl (by assumption), ?_⟩ | refine And.intro (ints_one _) ?_ | refine And.intro (by omega) ?_ | refine d1 ?_ | refine d2 ?_ | refine d3 ?_ | refine d4 ?_ | refine go G17r 400 hC (by kernel_rfl) ?_); (conv => whnf)))
              refine ⟨es, ek, _, F, ⟨hb', keyInt, hO.r, isIK _⟩, fun es' ck' hr => ?_⟩
              ((try (conv => whnf)); repeat ((first | refine And.intro ?_ True.intro | refine And.intro ⟨by omega, by omega⟩ ?_ | refine ⟨_, (by assumption : RO.c _ _ _ = _), ?_⟩ | refine ⟨_, _, _, (by assumption : (_ : Option Obj) = _), ?_⟩ | refine ⟨_, _, _, (by assumption : RO.c _ _ _ = _), ?_⟩ | refine ⟨_, (by assumption : Row _ _ _ _), ?_⟩ | refine ⟨_, (by assumption : Cell _ _ _ _ _), ?_⟩ | refine ⟨_, _, _, (by assumption : Cell _ _ _ _ _), ?_⟩ | refine ⟨_, Or.inl (by assumption), ?_⟩ | refine ⟨_, _, _, Or.inl (by assumption), ?_⟩ | refine And.intro (ints_one _) ?_ | refine And.intro (by omega) ?_ | refine d1 ?_ | refine d2 ?_ | refine d3 ?_ | refine d4 ?_ | refine go G17r 400 hC (by kernel_rfl) ?_); (conv => whnf)))
              exact halt ⟨(), [(3, 3), (6, 6)], ⟨by simp [sinj], by repeat (first | exact trivial | refine ⟨rfl, ?_⟩ | refine ⟨⟨rfl, rfl⟩, ?_⟩ | refine ⟨⟨rfl, rfl, rfl⟩, ?_⟩ | refine ⟨stepI (by omega), ?_⟩ | refine ⟨by assumption, ?_⟩), by repeat (first | exact trivial | refine ⟨rfl, ?_⟩ | refine ⟨⟨rfl, rfl, rfl⟩, ?_⟩ | refine ⟨by assumption, ?_⟩)⟩, RO.le.refl _, rfl, hc' es' ck' hr⟩
        rintro _ h5 m5 - ⟨rfl, hI5⟩
        ((try (conv => whnf)); repeat ((first | refine And.intro ?_ True.intro | refine And.intro ⟨by omega, by omega⟩ ?_ | refine ⟨_, (by assumption : RO.c _ _ _ = _), ?_⟩ | refine ⟨_, _, _, (by assumption : (_ : Option Obj) = _), ?_⟩ | refine ⟨_, _, _, (by assumption : RO.c _ _ _ = _), ?_⟩ | refine ⟨_, (by assumption : Row _ _ _ _), ?_⟩ | refine ⟨_, (by assumption : Cell _ _ _ _ _), ?_⟩ | refine ⟨_, _, _, (by assumption : Cell _ _ _ _ _), ?_⟩ | refine ⟨_, Or.inl (by assumption), ?_⟩ | refine ⟨_, _, _, Or.inl (by assumption), ?_⟩ | refine And.intro (ints_one _) ?_ | refine And.intro (by omega) ?_ | refine d1 ?_ | refine d2 ?_ | refine d3 ?_ | refine d4 ?_ | refine go G17 400 hC (by kernel_rfl) ?_); (conv => whnf)))
        exact halt ⟨i + 1, [(3, 3), (6, 6)], ⟨by simp [sinj], by repeat (first | exact trivial | refine ⟨rfl, ?_⟩ | refine ⟨⟨rfl, rfl⟩, ?_⟩ | refine ⟨⟨rfl, rfl, rfl⟩, ?_⟩ | refine ⟨stepI (by omega), ?_⟩ | refine ⟨by assumption, ?_⟩), by repeat (first | exact trivial | refine ⟨rfl, ?_⟩ | refine ⟨⟨rfl, rfl, rfl⟩, ?_⟩ | refine ⟨by assumption, ?_⟩)⟩, hle5, ⟨hlt, hle4.trans hle5, hI5⟩, by omega⟩
      · have hge : i = model.length := by simp at hge; omega
        subst hge
        rw [List.take_length] at hI
        have hmi : aigMay univ [] = true := by
          have h1 := ainputs_iff.2 hv.ru
          have h2 := hv.size
          simp only [aigMay, h1, Bool.true_and, Bool.and_eq_true, Bool.not_eq_true', decide_eq_false_iff_not]
          exact ⟨by simp only [List.length_nil]; omega, rfl⟩
        ((try (conv => whnf)); repeat ((first | refine And.intro ?_ True.intro | refine And.intro ⟨by omega, by omega⟩ ?_ | refine ⟨_, (by assumption : RO.c _ _ _ = _), ?_⟩ | refine ⟨_, _, _, (by assumption : (_ : Option Obj) = _), ?_⟩ | refine ⟨_, _, _, (by assumption : RO.c _ _ _ = _), ?_⟩ | refine ⟨_, (by assumption : Row _ _ _ _), ?_⟩ | refine ⟨_, (by assumption : Cell _ _ _ _ _), ?_⟩ | refine ⟨_, _, _, (by assumption : Cell _ _ _ _ _), ?_⟩ | refine ⟨_, Or.inl (by assumption), ?_⟩ | refine ⟨_, _, _, Or.inl (by assumption), ?_⟩ | refine And.intro (ints_one _) ?_ | refine And.intro (by omega) ?_ | refine d1 ?_ | refine d2 ?_ | refine d3 ?_ | refine d4 ?_ | refine go G17 400 hC (by kernel_rfl) ?_); (conv => whnf)))
        refine Con.mono (new_spec (ha.mono hle4)) ?_
        rintro _ h5 m5 hle5 hR
        rw [hmi] at hR
        obtain ⟨K, rfl, hK, hs5, hf5⟩ := hR
        ((try (conv => whnf)); repeat ((first | refine And.intro ?_ True.intro | refine And.intro ⟨by omega, by omega⟩ ?_ | refine ⟨_, (by assumption : RO.c _ _ _ = _), ?_⟩ | refine ⟨_, _, _, (by assumption : (_ : Option Obj) = _), ?_⟩ | refine ⟨_, _, _, (by assumption : RO.c _ _ _ = _), ?_⟩ | refine ⟨_, (by assumption : Row _ _ _ _), ?_⟩ | refine ⟨_, (by assumption : Cell _ _ _ _ _), ?_⟩ | refine ⟨_, _, _, (by assumption : Cell _ _ _ _ _), ?_⟩ | refine ⟨_, Or.inl (by assumption), ?_⟩ | refine ⟨_, _, _, Or.inl (by assumption), ?_⟩ | refine And.intro (ints_one _) ?_ | refine And.intro (by omega) ?_ | refine d1 ?_ | refine d2 ?_ | refine d3 ?_ | refine d4 ?_ | refine go G17 400 hC (by kernel_rfl) ?_); (conv => whnf)))
        obtain ⟨f, ⟨es, ek, F, hmb, hO⟩, hfv, hdis⟩ := hI.ex
        have hle35 := hle4.trans hle5
        refine halt (sx_loopB (X := Nat × Value) [6, 10, 14, 15, 101, 102] [6] (fun x => [(103, .v (.int .i64 x.1))]) (fun x => [(15, .box [nilS, nilS, x.2] 34)])
          (fun x h' m' => x.1 ≤ ex.length ∧ h5.le h' ∧ m4.sub m' ∧ (∃ K', K'.b = K.b ∧ MkI h' m' K' univ (strS univ (cops ex pts) model (ex.take x.1)).2 false ∧ (∀ k, K'.fp k → m4 k = none) ∧ (∀ b, x.2.ownBlock = some b → ¬ K'.fp b)) ∧
            MRow m' 47 2 x.2 x.1 (pairs (strS univ (cops ex pts) model (ex.take x.1)).1) ∧ (∀ b, x.2.ownBlock = some b → m4 b = none)) (fun x => ex.length - x.1) (0, nilS) (by repeat (first | exact Keep.nil | apply Keep.cons rfl | apply Keep.skip rfl)) (by repeat (first | exact KeepB.nil | apply KeepB.cons rfl)) ⟨[(6, 6), (15, 15)], ⟨by simp [sinj], by repeat (first | exact trivial | refine ⟨rfl, ?_⟩ | refine ⟨⟨rfl, rfl⟩, ?_⟩ | refine ⟨⟨rfl, rfl, rfl⟩, ?_⟩ | refine ⟨stepI (by omega), ?_⟩ | refine ⟨by assumption, ?_⟩), by repeat (first | exact trivial | refine ⟨rfl, ?_⟩ | refine ⟨⟨rfl, rfl, rfl⟩, ?_⟩ | refine ⟨by assumption, ?_⟩)⟩⟩
          ⟨by simp, RO.le.refl _, hs5, ⟨K, rfl, hK, hf5, fun b e => by cases e⟩, MRow.nil _ _ _, fun b e => by cases e⟩ ?_)
        have hcu : ∀ x ∈ cops ex pts, x.2.length ≤ univ.length ∧ ∀ z ∈ x.2, abs64 z ∈ univ := fun x hx => by
          obtain ⟨p, hp, y, hy, rfl⟩ := cops_sub hx
          have hP := hvp.pt _ hp
          refine ⟨by have := wit_len p y.2; have := hP.len; show (wit p y.2).length ≤ _; omega, fun z hz => ?_⟩
          have hz : z ∈ wit p y.2 := hz
          have hzp : z ∈ p := (List.mem_filter.1 hz).1
          have hl16 := hP.lit hv.ru z hzp
          rw [abs64_small (by omega) (by omega)]
          rcases hP.mem hzp with h | h
          · have := hv.ru.lo _ h
            rw [if_neg (by omega)]; exact h
          · have := hv.ru.lo _ h
            rw [if_pos (by omega)]; exact h
        rintro ⟨i, vo⟩ h6 m6 - ⟨hi, hle6, hs6, ⟨K', kb, hK', hf', hd'⟩, hrow, ho⟩
        dsimp only at hi hK' hd' hrow ho ⊢
        obtain ⟨va, vk, rfl⟩ := hrow.sl
        ((try (conv => whnf)); repeat ((first | refine And.intro ?_ True.intro | refine And.intro ⟨by omega, by omega⟩ ?_ | refine ⟨_, (by assumption : RO.c _ _ _ = _), ?_⟩ | refine ⟨_, _, _, (by assumption : (_ : Option Obj) = _), ?_⟩ | refine ⟨_, _, _, (by assumption : RO.c _ _ _ = _), ?_⟩ | refine ⟨_, (by assumption : Row _ _ _ _), ?_⟩ | refine ⟨_, (by assumption : Cell _ _ _ _ _), ?_⟩ | refine ⟨_, _, _, (by assumption : Cell _ _ _ _ _), ?_⟩ | refine ⟨_, Or.inl (by assumption), ?_⟩ | refine ⟨_, _, _, Or.inl (by assumption), ?_⟩ | refine And.intro (ints_one _) ?_ | refine And.intro (by omega) ?_ | refine d1 ?_ | refine d2 ?_ | refine d3 ?_ | refine d4 ?_ | refine go G17 400 hC (by kernel_rfl) ?_); (conv => whnf)))
        refine ⟨fun hlt => ?_, fun hge => ?_⟩
        · have hlt : i < ex.length := by simpa using hlt
          have hle36 := hle35.trans hle6
          obtain ⟨q, o, rfl, hcc⟩ := (hb.mono hle36).get hlt
          obtain ⟨c1, da, dc, c2, hdi⟩ := hcc i hlt
          have hmb6 := hs6 _ _ hmb
          ((try (conv => whnf)); repeat ((first | refine And.intro ?_ True.intro | refine And.intro ⟨by omega, by omega⟩ ?_ | refine ⟨_, (by assumption : RO.c _ _ _ = _), ?_⟩ | refine ⟨_, _, _, (by assumption : (_ : Option Obj) = _), ?_⟩ | refine ⟨_, _, _, (by assumption : RO.c _ _ _ = _), ?_⟩ | refine ⟨_, (by assumption : Row _ _ _ _), ?_⟩ | refine ⟨_, (by assumption : Cell _ _ _ _ _), ?_⟩ | refine ⟨_, _, _, (by assumption : Cell _ _ _ _ _), ?_⟩ | refine ⟨_, Or.inl (by assumption), ?_⟩ | refine ⟨_, _, _, Or.inl (by assumption), ?_⟩ | refine And.intro (ints_one _) ?_ | refine And.intro (by omega) ?_ | refine d1 ?_ | refine d2 ?_ | refine d3 ?_ | refine d4 ?_ | refine go G17 400 hC (by kernel_rfl) ?_); (conv => whnf)))
          intro b9 h9 hle9 hp9
          have p0 := hp9 0 _ rfl
          have p1 := hp9 1 _ rfl
          replace hK' := hK'.mono hle9
          ((try (conv => whnf)); repeat ((first | refine And.intro ?_ True.intro | refine And.intro ⟨by omega, by omega⟩ ?_ | refine ⟨_, (by assumption : RO.c _ _ _ = _), ?_⟩ | refine ⟨_, _, _, (by assumption : (_ : Option Obj) = _), ?_⟩ | refine ⟨_, _, _, (by assumption : RO.c _ _ _ = _), ?_⟩ | refine ⟨_, (by assumption : Row _ _ _ _), ?_⟩ | refine ⟨_, (by assumption : Cell _ _ _ _ _), ?_⟩ | refine ⟨_, _, _, (by assumption : Cell _ _ _ _ _), ?_⟩ | refine ⟨_, Or.inl (by assumption), ?_⟩ | refine ⟨_, _, _, Or.inl (by assumption), ?_⟩ | refine And.intro (ints_one _) ?_ | refine And.intro (by omega) ?_ | refine d1 ?_ | refine d2 ?_ | refine d3 ?_ | refine d4 ?_ | refine go G17 400 hC (by kernel_rfl) ?_); (conv => whnf)))
          refine ⟨es, ek, _, F, ⟨.inl hmb6, keyInt, hO.r, isIK _⟩, ?_⟩
          erw [hO.eq (gd ex i).1]
          have hlk : (ex.take i).length = i := by simp; omega
          have hmul : (i + 1) * (model.length * (univ.length + 1)) ≤ ex.length * (model.length * (univ.length + 1)) := Nat.mul_le_mul_right _ hlt
          rw [Nat.add_mul, Nat.one_mul] at hmul
          have hso := strS_ok (univ := univ) (cs := cops ex pts) (model := model) (ex.take i) hml hcu (by rw [hlk]; omega)
          rw [hlk] at hso
          have hsn : strS univ (cops ex pts) model (ex.take (i + 1)) = ((strS univ (cops ex pts) model (ex.take i)).1 ++ [((gd ex i).1, (fnS univ (strS univ (cops ex pts) model (ex.take i)).2 (cubesOf (cops ex pts) model (gd ex i).1)).1)], (fnS univ (strS univ (cops ex pts) model (ex.take i)).2 (cubesOf (cops ex pts) model (gd ex i).1)).2) := by
            rw [← strS_snoc, List.take_add_one, gd_get hlt]; rfl
          have hcv : ∀ c ∈ cubesOf (cops ex pts) model (gd ex i).1, c.length ≤ univ.length ∧ ∀ z ∈ c, abs64 z ∈ univ := fun c hc => by
            obtain ⟨x, hx, _, rfl⟩ := cubesOf_mem hc hml
            exact hcu x hx
          have hvx : ∀ c ∈ cubesOf (cops ex pts) model (gd ex i).1, ∀ x ∈ c, -65536 ≤ x ∧ x ≤ 65536 ∧ abs64 x ∈ univ := fun c hc x hx => by
            obtain ⟨y, hy, _, rfl⟩ := cubesOf_mem hc hml
            obtain ⟨p, hp, z, hz, rfl⟩ := cops_sub hy
            have h1 := (hvp.pt _ hp).lit hv.ru x (List.mem_filter.1 hx).1
            exact ⟨by omega, by omega, (hcv _ hc).2 x hx⟩
          have ht1 := cubesOf_tot (L := univ.length) fun c hc => (hcv c hc).1
          have hl1 := cubesOf_len (cops ex pts) model (gd ex i).1
          have e1 : model.length * (univ.length + 1) = model.length * univ.length + model.length := by rw [Nat.mul_add, Nat.mul_one]
          have hsz' : 1 + univ.length + (strS univ (cops ex pts) model (ex.take i)).2.length + tot (cubesOf (cops ex pts) model (gd ex i).1) + (cubesOf (cops ex pts) model (gd ex i).1).length < 200000 := by omega
          have hfi := hfv (gd ex i).1
          cases hf0 : f (gd ex i).1 with
          | none =>
            rw [hf0] at hfi
            have hL : LLM h9 m6 nilS (cubesOf (cops ex pts) model (gd ex i).1) := by rw [hfi]; exact ⟨[], MRow.nil _ _ _, LLR.nil _⟩
            have hown : ∀ b, nilS.ownBlock = some b → ¬ K'.fp b := fun b e => by cases e
            have hF := function_spec (K := K') hK' hL hown hvx hsz'
            rw [kb] at hF
            ((try (conv => whnf)); repeat ((first | refine And.intro ?_ True.intro | refine And.intro ⟨by omega, by omega⟩ ?_ | refine ⟨_, (by assumption : RO.c _ _ _ = _), ?_⟩ | refine ⟨_, _, _, (by assumption : (_ : Option Obj) = _), ?_⟩ | refine ⟨_, _, _, (by assumption : RO.c _ _ _ = _), ?_⟩ | refine ⟨_, (by assumption : Row _ _ _ _), ?_⟩ | refine ⟨_, (by assumption : Cell _ _ _ _ _), ?_⟩ | refine ⟨_, _, _, (by assumption : Cell _ _ _ _ _), ?_⟩ | refine ⟨_, Or.inl (by assumption), ?_⟩ | refine ⟨_, _, _, Or.inl (by assumption), ?_⟩ | refine And.intro (ints_one _) ?_ | refine And.intro (by omega) ?_ | refine d1 ?_ | refine d2 ?_ | refine d3 ?_ | refine d4 ?_ | refine go G17 400 hC (by kernel_rfl) ?_); (conv => whnf)))
            refine Con.mono hF ?_
            rintro _ h7 m7 hle7 ⟨rfl, K'', hK'', hS⟩
            have hrow7 := MRow.stay hrow fun b o e ho => hS.keep b o ho (hd' b e)
            obtain ⟨hs7, hf7⟩ := hS.sub hs6 hf'
            ((try (conv => whnf)); repeat ((first | refine And.intro ?_ True.intro | refine And.intro ⟨by omega, by omega⟩ ?_ | refine ⟨_, (by assumption : RO.c _ _ _ = _), ?_⟩ | refine ⟨_, _, _, (by assumption : (_ : Option Obj) = _), ?_⟩ | refine ⟨_, _, _, (by assumption : RO.c _ _ _ = _), ?_⟩ | refine ⟨_, (by assumption : Row _ _ _ _), ?_⟩ | refine ⟨_, (by assumption : Cell _ _ _ _ _), ?_⟩ | refine ⟨_, _, _, (by assumption : Cell _ _ _ _ _), ?_⟩ | refine ⟨_, Or.inl (by assumption), ?_⟩ | refine ⟨_, _, _, Or.inl (by assumption), ?_⟩ | refine And.intro (ints_one _) ?_ | refine And.intro (by omega) ?_ | refine d1 ?_ | refine d2 ?_ | refine d3 ?_ | refine d4 ?_ | refine go G17 400 hC (by kernel_rfl) ?_); (conv => whnf)))
            refine ⟨i, _, And.intro hrow7 (by show (i + 1) * 16 ≤ 140737488355328; omega), fun v' m' hr' ht' => ?_⟩
            obtain ⟨a', c', rfl⟩ := hr'.sl
            obtain ⟨hs8, ho8⟩ := ht'.sub hs7 ho
            have hK8 : MkI h7 m' K'' univ (strS univ (cops ex pts) model (ex.take (i + 1))).2 false := by
              rw [hsn]
              refine MkI.stay hK'' fun k o hk ho2 => ht'.keep2 ho2 fun e => ?_
              rcases hS.fp k hk with h | h
              · exact hd' k e h
              · obtain ⟨o, h'⟩ := MRow.mem hrow e
                rw [h] at h'; cases h'
            have hd8 : ∀ b, (Value.slice a' (i + 1) c').ownBlock = some b → ¬ K''.fp b := fun b e hk => by
              rcases ht'.own e with h | h
              · rcases hS.fp b hk with h1 | h1
                · exact hd' b h h1
                · obtain ⟨o, h'⟩ := MRow.mem hrow h
                  rw [h1] at h'; cases h'
              · obtain ⟨o, h'⟩ := MkI.mem hK'' hk
                rw [h] at h'; cases h'
            have hr8 : MRow m' 47 2 (.slice a' (i + 1) c') (i + 1) (pairs (strS univ (cops ex pts) model (ex.take (i + 1))).1) := by
              rw [hsn, pairs_append]; exact hr'
            ((try (conv => whnf)); repeat ((first | refine And.intro ?_ True.intro | refine And.intro ⟨by omega, by omega⟩ ?_ | refine ⟨_, (by assumption : RO.c _ _ _ = _), ?_⟩ | refine ⟨_, _, _, (by assumption : (_ : Option Obj) = _), ?_⟩ | refine ⟨_, _, _, (by assumption : RO.c _ _ _ = _), ?_⟩ | refine ⟨_, (by assumption : Row _ _ _ _), ?_⟩ | refine ⟨_, (by assumption : Cell _ _ _ _ _), ?_⟩ | refine ⟨_, _, _, (by assumption : Cell _ _ _ _ _), ?_⟩ | refine ⟨_, Or.inl (by assumption), ?_⟩ | refine ⟨_, _, _, Or.inl (by assumption), ?_⟩ | refine And.intro (ints_one _) ?_ | refine And.intro (by omega) ?_ | refine d1 ?_ | refine d2 ?_ | refine d3 ?_ | refine d4 ?_ | refine go G17 400 hC (by kernel_rfl) ?_); (conv => whnf)))
            exact halt ⟨(i + 1, .slice a' (i + 1) c'), [(6, 6), (15, 15)], ⟨by simp [sinj], by repeat (first | exact trivial | refine ⟨rfl, ?_⟩ | refine ⟨⟨rfl, rfl⟩, ?_⟩ | refine ⟨⟨rfl, rfl, rfl⟩, ?_⟩ | refine ⟨stepI (by omega), ?_⟩ | refine ⟨by assumption, ?_⟩), by repeat (first | exact trivial | refine ⟨rfl, ?_⟩ | refine ⟨⟨rfl, rfl, rfl⟩, ?_⟩ | refine ⟨by assumption, ?_⟩)⟩, hle9.trans hle7, ⟨hlt, (hle6.trans hle9).trans hle7, hs8, ⟨K'', hS.b.trans kb, hK8, hf7, hd8⟩, hr8, ho8⟩, by dsimp only; omega⟩
          | some u0 =>
            rw [hf0] at hfi
            have hL : LLM h9 m6 u0 (cubesOf (cops ex pts) model (gd ex i).1) := (hfi.1.mono ((hle5.trans hle6).trans hle9)).keep fun b o e eo => hs6 _ _ eo
            have hown : ∀ b, u0.ownBlock = some b → ¬ K'.fp b := fun b e hk => by
              obtain ⟨es1, hr1, _⟩ := hfi.1
              obtain ⟨o, h'⟩ := MRow.mem hr1 e
              rw [hf' _ hk] at h'; cases h'
            have hF := function_spec (K := K') hK' hL hown hvx hsz'
            rw [kb] at hF
            ((try (conv => whnf)); repeat ((first | refine And.intro ?_ True.intro | refine And.intro ⟨by omega, by omega⟩ ?_ | refine ⟨_, (by assumption : RO.c _ _ _ = _), ?_⟩ | refine ⟨_, _, _, (by assumption : (_ : Option Obj) = _), ?_⟩ | refine ⟨_, _, _, (by assumption : RO.c _ _ _ = _), ?_⟩ | refine ⟨_, (by assumption : Row _ _ _ _), ?_⟩ | refine ⟨_, (by assumption : Cell _ _ _ _ _), ?_⟩ | refine ⟨_, _, _, (by assumption : Cell _ _ _ _ _), ?_⟩ | refine ⟨_, Or.inl (by assumption), ?_⟩ | refine ⟨_, _, _, Or.inl (by assumption), ?_⟩ | refine And.intro (ints_one _) ?_ | refine And.intro (by omega) ?_ | refine d1 ?_ | refine d2 ?_ | refine d3 ?_ | refine d4 ?_ | refine go G17 400 hC (by kernel_rfl) ?_); (conv => whnf)))
            refine Con.mono hF ?_
            rintro _ h7 m7 hle7 ⟨rfl, K'', hK'', hS⟩
            have hrow7 := MRow.stay hrow fun b o e ho => hS.keep b o ho (hd' b e)
            obtain ⟨hs7, hf7⟩ := hS.sub hs6 hf'
            ((try (conv => whnf)); repeat ((first | refine And.intro ?_ True.intro | refine And.intro ⟨by omega, by omega⟩ ?_ | refine ⟨_, (by assumption : RO.c _ _ _ = _), ?_⟩ | refine ⟨_, _, _, (by assumption : (_ : Option Obj) = _), ?_⟩ | refine ⟨_, _, _, (by assumption : RO.c _ _ _ = _), ?_⟩ | refine ⟨_, (by assumption : Row _ _ _ _), ?_⟩ | refine ⟨_, (by assumption : Cell _ _ _ _ _), ?_⟩ | refine ⟨_, _, _, (by assumption : Cell _ _ _ _ _), ?_⟩ | refine ⟨_, Or.inl (by assumption), ?_⟩ | refine ⟨_, _, _, Or.inl (by assumption), ?_⟩ | refine And.intro (ints_one _) ?_ | refine And.intro (by omega) ?_ | refine d1 ?_ | refine d2 ?_ | refine d3 ?_ | refine d4 ?_ | refine go G17 400 hC (by kernel_rfl) ?_); (conv => whnf)))
            refine ⟨i, _, And.intro hrow7 (by show (i + 1) * 16 ≤ 140737488355328; omega), fun v' m' hr' ht' => ?_⟩
            obtain ⟨a', c', rfl⟩ := hr'.sl
            obtain ⟨hs8, ho8⟩ := ht'.sub hs7 ho
            have hK8 : MkI h7 m' K'' univ (strS univ (cops ex pts) model (ex.take (i + 1))).2 false := by
              rw [hsn]
              refine MkI.stay hK'' fun k o hk ho2 => ht'.keep2 ho2 fun e => ?_
              rcases hS.fp k hk with h | h
              · exact hd' k e h
              · obtain ⟨o, h'⟩ := MRow.mem hrow e
                rw [h] at h'; cases h'
            have hd8 : ∀ b, (Value.slice a' (i + 1) c').ownBlock = some b → ¬ K''.fp b := fun b e hk => by
              rcases ht'.own e with h | h
              · rcases hS.fp b hk with h1 | h1
                · exact hd' b h h1
                · obtain ⟨o, h'⟩ := MRow.mem hrow h
                  rw [h1] at h'; cases h'
              · obtain ⟨o, h'⟩ := MkI.mem hK'' hk
                rw [h] at h'; cases h'
            have hr8 : MRow m' 47 2 (.slice a' (i + 1) c') (i + 1) (pairs (strS univ (cops ex pts) model (ex.take (i + 1))).1) := by
              rw [hsn, pairs_append]; exact hr'
            ((try (conv => whnf)); repeat ((first | refine And.intro ?_ True.intro | refine And.intro ⟨by omega, by omega⟩ ?_ | refine ⟨_, (by assumption : RO.c _ _ _ = _), ?_⟩ | refine ⟨_, _, _, (by assumption : (_ : Option Obj) = _), ?_⟩ | refine ⟨_, _, _, (by assumption : RO.c _ _ _ = _), ?_⟩ | refine ⟨_, (by assumption : Row _ _ _ _), ?_⟩ | refine ⟨_, (by assumption : Cell _ _ _ _ _), ?_⟩ | refine ⟨_, _, _, (by assumption : Cell _ _ _ _ _), ?_⟩ | refine ⟨_, Or.inl (by assumption), ?_⟩ | refine ⟨_, _, _, Or.inl (by assumption), ?_⟩ | refine And.intro (ints_one _) ?_ | refine And.intro (by omega) ?_ | refine d1 ?_ | refine d2 ?_ | refine d3 ?_ | refine d4 ?_ | refine go G17 400 hC (by kernel_rfl) ?_); (conv => whnf)))
            exact halt ⟨(i + 1, .slice a' (i + 1) c'), [(6, 6), (15, 15)], ⟨by simp [sinj], by repeat (first | exact trivial | refine ⟨rfl, ?_⟩ | refine ⟨⟨rfl, rfl⟩, ?_⟩ | refine ⟨⟨rfl, rfl, rfl⟩, ?_⟩ | refine ⟨stepI (by omega), ?_⟩ | refine ⟨by assumption, ?_⟩), by repeat (first | exact trivial | refine ⟨rfl, ?_⟩ | refine ⟨⟨rfl, rfl, rfl⟩, ?_⟩ | refine ⟨by assumption, ?_⟩)⟩, hle9.trans hle7, ⟨hlt, (hle6.trans hle9).trans hle7, hs8, ⟨K'', hS.b.trans kb, hK8, hf7, hd8⟩, hr8, ho8⟩, by dsimp only; omega⟩
        · have hge : i = ex.length := by simp at hge; omega
          subst hge
          rw [List.take_length] at hK' hrow
          have hso := strS_ok (univ := univ) (cs := cops ex pts) (model := model) ex hml hcu hsz
          refine sx_pubRow hK'.hands (offV_sub m6 K'.vA) (offV_own m6 K'.vA) fun h7 m7 hle7 hs7 hk7 hr7 => ?_
          have ck7 := hs7 _ _ (by rw [offV_ne fun e => hK'.own _ e rfl]; exact hK'.cell)
          have hrow7 := MRow.stay hrow fun b o e ho => hs7 _ _ (by rw [offV_ne fun e' => hd' b e (.inr (.inr (.inr e')))]; exact ho)
          have hs37 : m3.sub m7 := fun k o e => hs7 _ _ (by
            have h4 := hI.sub _ _ e
            rw [offV_ne fun e' => by have := hf' k (.inr (.inr (.inr e'))); rw [h4] at this; cases this]
            exact hs6 _ _ h4)
          refine sx_pubRow hrow7 (offV_sub m7 _) (offV_own m7 _) fun h8 m8 hle8 hs8 hk8 hr8 => ?_
          have ck8 := hs8 _ _ (by rw [offV_ne fun e => hd' _ e (.inl rfl)]; exact ck7)
          have hs38 : m3.sub m8 := fun k o e => hs8 _ _ (by
            rw [offV_ne fun e' => by have := ho k e'; rw [hI.sub _ _ e] at this; cases this]
            exact hs37 _ _ e)
          obtain ⟨aa, ac, eA⟩ := MRow.sl hK'.hands
          have hA : PrS h8 K'.vA (strS univ (cops ex pts) model ex).2 := ⟨⟨aa, ac, eA, by rw [← eA]; exact hr7.mono' hle8⟩, by have := hK'.small; omega, hK'.rng⟩
          have hO8 : PrS h8 (.slice va ex.length vk) (strS univ (cops ex pts) model ex).1 := ⟨⟨va, vk, by rw [hso.1], by rw [hso.1]; exact hr8⟩, by rw [hso.1]; exact hlb, fun p hp => by
            obtain ⟨h1, y, hy, h2⟩ := hso.2.2 p hp
            have h3 := hK'.small
            have h4 := hv.re.lit _ (List.mem_map_of_mem hy)
            unfold EdK at h1
            unfold R64
            rw [h2]
            omega⟩
          have hG := graph_spec ck8 (hK'.hins.mono (hle7.trans hle8)) hA (by have := hK'.small; omega)
          rw [kb] at hG
          ((try (conv => whnf)); repeat ((first | refine And.intro ?_ True.intro | refine And.intro ⟨by omega, by omega⟩ ?_ | refine ⟨_, (by assumption : RO.c _ _ _ = _), ?_⟩ | refine ⟨_, _, _, (by assumption : (_ : Option Obj) = _), ?_⟩ | refine ⟨_, _, _, (by assumption : RO.c _ _ _ = _), ?_⟩ | refine ⟨_, (by assumption : Row _ _ _ _), ?_⟩ | refine ⟨_, (by assumption : Cell _ _ _ _ _), ?_⟩ | refine ⟨_, _, _, (by assumption : Cell _ _ _ _ _), ?_⟩ | refine ⟨_, Or.inl (by assumption), ?_⟩ | refine ⟨_, _, _, Or.inl (by assumption), ?_⟩ | refine And.intro (ints_one _) ?_ | refine And.intro (by omega) ?_ | refine d1 ?_ | refine d2 ?_ | refine d3 ?_ | refine d4 ?_ | refine go G17 400 hC (by kernel_rfl) ?_); (conv => whnf)))
          refine Con.mono hG ?_
          rintro _ h9 m9 hle9 ⟨s, t, rfl, hs9, ht9, rfl⟩
          obtain ⟨sa, sc, rfl, -⟩ := hs9.s
          obtain ⟨ta, tc, rfl⟩ := ht9.sl
          ((try (conv => whnf)); repeat ((first | refine And.intro ?_ True.intro | refine And.intro ⟨by omega, by omega⟩ ?_ | refine ⟨_, (by assumption : RO.c _ _ _ = _), ?_⟩ | refine ⟨_, _, _, (by assumption : (_ : Option Obj) = _), ?_⟩ | refine ⟨_, _, _, (by assumption : RO.c _ _ _ = _), ?_⟩ | refine ⟨_, (by assumption : Row _ _ _ _), ?_⟩ | refine ⟨_, (by assumption : Cell _ _ _ _ _), ?_⟩ | refine ⟨_, _, _, (by assumption : Cell _ _ _ _ _), ?_⟩ | refine ⟨_, Or.inl (by assumption), ?_⟩ | refine ⟨_, _, _, Or.inl (by assumption), ?_⟩ | refine And.intro (ints_one _) ?_ | refine And.intro (by omega) ?_ | refine d1 ?_ | refine d2 ?_ | refine d3 ?_ | refine d4 ?_ | refine go G17 400 hC (by kernel_rfl) ?_); (conv => whnf)))
          exact ⟨m3, hs38, rfl, by rw [hq, hq2]; exact ⟨_, _, _, rfl, hs9, ht9, hO8.mono hle9⟩⟩
end Go.Proofs.YtoefoaabnjeofaaGreat
