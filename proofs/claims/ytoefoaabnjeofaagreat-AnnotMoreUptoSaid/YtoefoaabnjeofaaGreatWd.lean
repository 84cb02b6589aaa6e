/- Proved here: contracts of functions of annot, aig and their plain meanings. Conditions: none beyond the statement's own. -/
import Derived.Test.YtoefoaabnjeofaaGreatWc
import Derived.Test.YtoefoaabnjeofaaGreatProg
import Derived.Shelf.SlSortCmp.Whole1
import Derived.Shelf.SlGeneric
import Derived.Ground.SlsfProg
set_option linter.unusedVariables false
set_option linter.unusedSimpArgs false
set_option linter.constructorNameAsVariable false
namespace Go.Proofs.YtoefoaabnjeofaaGreat
open Go.SX
set_option maxHeartbeats 4000000
set_option maxRecDepth 20000
/-- A copy's key. -/
def kc (c : Cp) : Int × ByteArray := (c.1, txt c.2)
open Classical in
noncomputable def numR : List Cp → Int × ByteArray → Option Nat
  | [], _ => none
  | c :: l, k => if kc c = k then some 1 else (numR l k).map (· + 1)
/-- The numbers of copies, as a map by their keys. -/
noncomputable def numF (l : List Cp) : Int × ByteArray → Option Value := fun k => (numR l k).map fun n => .int .i64 n
theorem numR_snoc (l : List Cp) (c : Cp) (k : Int × ByteArray) : numR (l ++ [c]) k = match numR l k with | some n => some n | none => if kc c = k then some (l.length + 1) else none := by
  induction l with
  | nil => simp [numR]
  | cons x l ih =>
    simp only [List.cons_append, numR]
    split
    · rfl
    · rw [ih]
      cases numR l k with
      | some n => rfl
      | none => simp only [Option.map_none]; split <;> rfl
theorem kc_inj {a b : Cp} (ha : Lit16 a.2) (hb : Lit16 b.2) (h : kc a = kc b) : a = b := by
  simp only [kc, Prod.mk.injEq] at h
  exact Prod.ext h.1 (txt_inj ha hb h.2)
theorem numR_eq {l : List Cp} {c : Cp} (hl : ∀ x ∈ l, Lit16 x.2) (hc : Lit16 c.2) : numR l (kc c) = match l.contains c with | true => some (numC l c) | false => none := by
  induction l with
  | nil => rfl
  | cons x l ih =>
    have ih := ih fun y hy => hl y (by simp [hy])
    by_cases e : x = c
    · subst e; simp [numR, numC]
    · have e2 : kc x ≠ kc c := fun h => e (kc_inj (hl x (by simp)) hc h)
      rw [numR, if_neg e2, ih]
      have e3 : (x :: l).contains c = l.contains c := by simp [Ne.symm e]
      rw [e3]
      cases hcc : l.contains c with
      | false => rfl
      | true =>
        simp only [Option.map_some, numC, e3, hcc]
        rw [List.idxOf_cons]
        simp [show (x == c) = false by simpa using e]
theorem numF_eq {l : List Cp} {c : Cp} (hl : ∀ x ∈ l, Lit16 x.2) (hc : Lit16 c.2) : numF l (kc c) = match l.contains c with | true => some (.int .i64 (numC l c)) | false => none := by
  rw [numF, numR_eq hl hc]; cases l.contains c <;> rfl
theorem numF_snoc {l : List Cp} {c : Cp} (hl : ∀ x ∈ l, Lit16 x.2) (hc : Lit16 c.2) (hn : l.contains c = false) (k : Int × ByteArray) :
    updA (numF l) (kc c) (some (.int .i64 ((l.length + 1 : Nat) : Int))) k = numF (l ++ [c]) k := by
  have h0 := numR_eq hl hc
  rw [hn] at h0
  by_cases e : k = kc c
  · subst e; rw [updA_self, numF, numR_snoc, h0]; simp
  · rw [updA_ne _ _ e, numF, numF, numR_snoc]
    cases numR l k with
    | some n => rfl
    | none => simp [Ne.symm e]
theorem txt_size (l : List Int) : (txt l).size = 3 * l.length := by
  simp [txt, u8s, ByteArray.size, encs_length]
theorem wit_lit {p on : List Int} (h : Lit16 p) : Lit16 (wit p on) := fun x hx => h x (List.mem_filter.1 hx).1
/-- What is known of an expansion. -/
structure NumAt (h : RO) (b : Nat) (l : List Cp) : Prop where
  ex : ∃ bm vc, h.c b 3 = some (.map (some bm)) ∧ h.c b 4 = some vc ∧ DepS h vc l ∧ MapR KA ιA h Hp.none bm (numF l)
theorem numF_nil (k : Int × ByteArray) : (none : Option Value) = numF [] k := by simp [numF, numR]
/-- The cells of copies. -/
def CpRow (h : RO) (l : List Cp) (es : List Value) : Prop := ∀ (i : Nat) (c : Cp), l[i]? = some c → es[i * 2]? = some (.int .i64 c.1) ∧ ∃ u, es[i * 2 + 1]? = some u ∧ IntS h u c.2
theorem CpRow.mono {h h' : RO} {l : List Cp} {es : List Value} (r : CpRow h l es) (hl : h.le h') : CpRow h' l es := fun i c e => let ⟨a, u, b, k⟩ := r i c e; ⟨a, u, b, k.mono hl⟩
theorem CpRow.snoc {h : RO} {l : List Cp} {es : List Value} (hn : es.length = l.length * 2) (r : CpRow h l es) {c : Cp} {u : Value} (hu : IntS h u c.2) : CpRow h (l ++ [c]) (es ++ [.int .i64 c.1, u]) := by
  intro i x e
  by_cases hi : i < l.length
  · rw [List.getElem?_append_left hi] at e
    obtain ⟨a, u', b, k⟩ := r i x e
    refine ⟨?_, u', ?_, k⟩
    · rw [List.getElem?_append_left (by omega)]; exact a
    · rw [List.getElem?_append_left (by omega)]; exact b
  · rw [List.getElem?_append_right (by omega)] at e
    have : i = l.length := by
      have := (List.getElem?_eq_some_iff.1 e).1; simp at this; omega
    subst this
    simp at e
    subst e
    refine ⟨?_, u, ?_, hu⟩
    · rw [List.getElem?_append_right (by omega), hn]; simp
    · rw [List.getElem?_append_right (by omega), hn]; simp
structure NumI (m0 : Hp) (bm : Nat) (h' : RO) (m' : Hp) (vc : Value) (acc : List Cp) : Prop where
  sub : m0.sub m'
  map : MapX KA ιA m' bm (numF acc)
  row : ∃ es, MRow m' 72 2 vc acc.length es ∧ CpRow h' acc es
  own : ∀ b, vc.ownBlock = some b → m0 b = none
theorem NumI.mono {m0 : Hp} {bm : Nat} {h h' : RO} {m' : Hp} {vc : Value} {acc : List Cp} (r : NumI m0 bm h m' vc acc) (hl : h.le h') : NumI m0 bm h' m' vc acc :=
  ⟨r.sub, r.map, let ⟨es, a, b⟩ := r.row; ⟨es, a, b.mono hl⟩, r.own⟩
theorem accLen {ex : List Cp} {pts : List (List Int)} {p : List Int} {i k : Nat} (hi : i < pts.length) (hk : k < ex.length) (hsm : pts.length * ex.length ≤ 65536) :
    (rowC p (ex.take k) (cops ex (pts.take i))).length < 65536 := by
  have h1 := rowC_len p (ex.take k) (cops ex (pts.take i))
  have h2 := cops_len ex (pts.take i)
  have h3 : (pts.take i).length = i := by simp; omega
  have h4 : (ex.take k).length = k := by simp; omega
  rw [h3] at h2
  rw [h4] at h1
  have h5 := Nat.mul_le_mul_right ex.length (show i + 1 ≤ pts.length by omega)
  rw [Nat.add_mul, Nat.one_mul] at h5
  omega
def G79 : Gv := ⟨[67], [2, 10, 11, 12], [(12, .one 0 (.one 1 (.one 2 (.one 4 (.fork 3 (.fork 5 (.one 6 (.nil)) .stop) .stop))))), (16, .one 0 (.one 1 (.one 2 (.one 4 (.one 5 (.one 6 (.one 7 (.fork 3 (.fork 8 (.one 9 (.fork 10 (.nil) .stop)) .stop) (.fork 8 (.one 9 (.fork 3 (.fork 10 (.nil) .stop) .stop)) .stop)))))))))]⟩
def G79r : Gv := ⟨[67], [2, 10, 11, 12], [(10, .one 0 (.one 1 (.one 2 (.one 3 (.one 4 (.fork 5 (.one 6 (.fork 7 (.fork 8 (.nil) .stop) .stop)) (.fork 7 (.fork 5 (.one 6 (.fork 8 (.nil) .stop)) .stop) .stop))))))), (11, .one 0 (.one 1 (.one 2 (.one 3 (.fork 4 (.one 5 (.fork 6 (.fork 7 (.nil) .stop) .stop)) (.fork 6 (.fork 4 (.one 5 (.fork 7 (.nil) .stop)) .stop) .stop)))))), (12, .one 0 (.one 1 (.one 2 (.one 4 (.fork 3 (.fork 5 (.one 6 (.nil)) .stop) .stop))))), (15, .one 0 (.one 1 (.one 2 (.one 3 (.one 5 (.fork 4 (.fork 6 (.fork 7 (.one 8 (.one 9 (.fork 10 (.nil) .stop))) .stop) .stop) (.fork 6 (.fork 4 (.fork 7 (.one 8 (.one 9 (.fork 10 (.nil) .stop))) .stop) .stop) .stop))))))), (16, .one 0 (.one 1 (.one 2 (.one 4 (.one 5 (.one 6 (.one 7 (.fork 3 (.fork 8 (.one 9 (.fork 10 (.nil) .stop)) .stop) (.fork 8 (.one 9 (.fork 3 (.fork 10 (.nil) .stop) .stop)) .stop)))))))))]⟩

theorem number_spec {u v w r : Value} {univ : List Int} {ex : List (Int × List Int)} {cls pts : List (List Int)} {h : RO} {m : Hp} (ha : IntS h u univ) (hb : DepS h v ex) (hc : LLS h w cls) (hp : LLS h r pts)
    (hl : univ.length + ex.length ≤ 1000000000) (ht : tot cls ≤ 1000000000000) (hpt : ∀ p ∈ pts, p.length ≤ 1000000000) (hsm : pts.length * ex.length ≤ 65536) :
    Con Tryz.prog 79 [.agg #[u, v, w], r] h m fun e h' m' => (match mayA univ ex cls pts with
      | true => ∃ b, e = .returned (.tuple #[.pointer (some ⟨b, 0, none⟩), .int .i64 0]) ∧ NumAt h' b (cops ex pts)
      | false => e = .returned (.tuple #[.pointer none, .int .i64 2])) ∧ m' = m := by
  obtain ⟨z, f, rfl⟩ := hp.sl
  have hlp := hp.len
  refine Con.drop ?_
  refine fn_of (nt := 83) T Tryz.func79 rfl (by kernel_rfl) Tryz.ntmps79 (by simp) T_ok T_mixed fun C hC => ?_
  simp only [Tryz.f79, argFr, Nat.zero_add, Nat.reduceAdd] at hC ⊢
  ((try (conv => whnf)); repeat ((first | refine And.intro ?_ True.intro | refine And.intro ⟨by omega, by omega⟩ ?_ | refine ⟨_, (by assumption : RO.c _ _ _ = _), ?_⟩ | refine ⟨_, _, _, (by assumption : (_ : Option Obj) = _), ?_⟩ | refine ⟨_, _, _, (by assumption : RO.c _ _ _ = _), ?_⟩ | refine ⟨_, (by assumption : Row _ _ _ _), ?_⟩ | refine ⟨_, (by assumption : Cell _ _ _ _ _), ?_⟩ | refine ⟨_, _, _, (by assumption : Cell _ _ _ _ _), ?_⟩ | refine ⟨_, Or.inl (by assumption), ?_⟩ | refine ⟨_, _, _, Or.inl (by assumption), ?_⟩ | refine And.intro (ints_one _) ?_ | refine And.intro (by omega) ?_ | refine d1 ?_ | refine d2 ?_ | refine d3 ?_ | refine d4 ?_ | refine go G79 400 hC (by kernel_rfl) ?_); (conv => whnf)))
  intro b0 h1 hle1 hp1
  replace ha := ha.mono hle1
  replace hb := hb.mono hle1
  replace hc := hc.mono hle1
  replace hp := hp.mono hle1
  ((try (conv => whnf)); repeat ((first | refine And.intro ?_ True.intro | refine And.intro ⟨by omega, by omega⟩ ?_ | refine ⟨_, (by assumption : RO.c _ _ _ = _), ?_⟩ | refine ⟨_, _, _, (by assumption : (_ : Option Obj) = _), ?_⟩ | refine ⟨_, _, _, (by assumption : RO.c _ _ _ = _), ?_⟩ | refine ⟨_, (by assumption : Row _ _ _ _), ?_⟩ | refine ⟨_, (by assumption : Cell _ _ _ _ _), ?_⟩ | refine ⟨_, _, _, (by assumption : Cell _ _ _ _ _), ?_⟩ | refine ⟨_, Or.inl (by assumption), ?_⟩ | refine ⟨_, _, _, Or.inl (by assumption), ?_⟩ | refine And.intro (ints_one _) ?_ | refine And.intro (by omega) ?_ | refine d1 ?_ | refine d2 ?_ | refine d3 ?_ | refine d4 ?_ | refine go G79 400 hC (by kernel_rfl) ?_); (conv => whnf)))
  refine Con.mono (amay_spec ha hb hc hp hl ht hpt) ?_
  rintro _ h2 m2 hle2 ⟨rfl, rfl⟩
  replace ha := ha.mono hle2
  replace hb := hb.mono hle2
  replace hp := hp.mono hle2
  ((try (conv => whnf)); repeat ((first | refine And.intro ?_ True.intro | refine And.intro ⟨by omega, by omega⟩ ?_ | refine ⟨_, (by assumption : RO.c _ _ _ = _), ?_⟩ | refine ⟨_, _, _, (by assumption : (_ : Option Obj) = _), ?_⟩ | refine ⟨_, _, _, (by assumption : RO.c _ _ _ = _), ?_⟩ | refine ⟨_, (by assumption : Row _ _ _ _), ?_⟩ | refine ⟨_, (by assumption : Cell _ _ _ _ _), ?_⟩ | refine ⟨_, _, _, (by assumption : Cell _ _ _ _ _), ?_⟩ | refine ⟨_, Or.inl (by assumption), ?_⟩ | refine ⟨_, _, _, Or.inl (by assumption), ?_⟩ | refine And.intro (ints_one _) ?_ | refine And.intro (by omega) ?_ | refine d1 ?_ | refine d2 ?_ | refine d3 ?_ | refine d4 ?_ | refine go G79 400 hC (by kernel_rfl) ?_); (conv => whnf)))
  refine ⟨fun hq => ?_, fun hq => ?_⟩ <;> ((try (conv => whnf)); repeat ((first | refine And.intro ?_ True.intro | refine And.intro ⟨by omega, by omega⟩ ?_ | refine ⟨_, (by assumption : RO.c _ _ _ = _), ?_⟩ | refine ⟨_, _, _, (by assumption : (_ : Option Obj) = _), ?_⟩ | refine ⟨_, _, _, (by assumption : RO.c _ _ _ = _), ?_⟩ | refine ⟨_, (by assumption : Row _ _ _ _), ?_⟩ | refine ⟨_, (by assumption : Cell _ _ _ _ _), ?_⟩ | refine ⟨_, _, _, (by assumption : Cell _ _ _ _ _), ?_⟩ | refine ⟨_, Or.inl (by assumption), ?_⟩ | refine ⟨_, _, _, Or.inl (by assumption), ?_⟩ | refine And.intro (ints_one _) ?_ | refine And.intro (by omega) ?_ | refine d1 ?_ | refine d2 ?_ | refine d3 ?_ | refine d4 ?_ | refine go G79 400 hC (by kernel_rfl) ?_); (conv => whnf)))
  · have hq : mayA univ ex cls pts = false := by simpa using hq
    exact ⟨_, Hp.sub.refl _, by rw [hq]; rfl, rfl⟩
  have hq : mayA univ ex cls pts = true := by simpa using hq
  obtain ⟨hv, hvp⟩ := mayA_iff.1 hq
  intro bm f1 f2 f3
  ((try (conv => whnf)); repeat ((first | refine And.intro ?_ True.intro | refine And.intro ⟨by omega, by omega⟩ ?_ | refine ⟨_, (by assumption : RO.c _ _ _ = _), ?_⟩ | refine ⟨_, _, _, (by assumption : (_ : Option Obj) = _), ?_⟩ | refine ⟨_, _, _, (by assumption : RO.c _ _ _ = _), ?_⟩ | refine ⟨_, (by assumption : Row _ _ _ _), ?_⟩ | refine ⟨_, (by assumption : Cell _ _ _ _ _), ?_⟩ | refine ⟨_, _, _, (by assumption : Cell _ _ _ _ _), ?_⟩ | refine ⟨_, Or.inl (by assumption), ?_⟩ | refine ⟨_, _, _, Or.inl (by assumption), ?_⟩ | refine And.intro (ints_one _) ?_ | refine And.intro (by omega) ?_ | refine d1 ?_ | refine d2 ?_ | refine d3 ?_ | refine d4 ?_ | refine go G79 400 hC (by kernel_rfl) ?_); (conv => whnf)))
  refine halt (sx_loopB (X := Nat × Value) [2, 6, 21, 22] [2] (fun x => [(23, .v (.int .i64 x.1))]) (fun x => [(20, .box [u, v, w, .map (some bm), x.2] 147)])
    (fun x h' m' => x.1 ≤ pts.length ∧ h2.le h' ∧ NumI m2 bm h' m' x.2 (cops ex (pts.take x.1))) (fun x => pts.length - x.1) (0, .slice none 0 0) (by repeat (first | exact Keep.nil | apply Keep.cons rfl | apply Keep.skip rfl)) (by repeat (first | exact KeepB.nil | apply KeepB.cons rfl)) ⟨[(2, 2), (20, 20)], ⟨by simp [sinj], by repeat (first | exact trivial | refine ⟨rfl, ?_⟩ | refine ⟨⟨rfl, rfl⟩, ?_⟩ | refine ⟨⟨rfl, rfl, rfl⟩, ?_⟩ | refine ⟨stepI (by omega), ?_⟩ | refine ⟨by assumption, ?_⟩), by repeat (first | exact trivial | refine ⟨rfl, ?_⟩ | refine ⟨⟨rfl, rfl, rfl⟩, ?_⟩ | refine ⟨by assumption, ?_⟩)⟩⟩
    ⟨by simp, RO.le.refl _, ⟨(Hp.sub.refl _).fresh f1 _, (MapX.new KA ιA m2 bm).congr (fun k => numF_nil k), ⟨[], MRow.nil _ _ _, fun i c e => by simp [cops] at e⟩, fun b e => by simp [Value.ownBlock] at e⟩⟩ ?_)
  rintro ⟨i, vc⟩ h3 m3 - ⟨hi, hle3, hI⟩
  dsimp only at hi hI ⊢
  by_cases hlt : i < pts.length
  rotate_left
  · have hge : i = pts.length := by omega
    subst hge
    rw [List.take_length] at hI
    obtain ⟨hsub, ⟨es, ck, F, hm, hO⟩, ⟨ces, hrow, hcp⟩, hown⟩ := hI
    have hlen := cops_len ex pts
    refine sx_pubRow hrow hsub hown fun h4 m4 hle4 hs4 hk4 hr4 => ?_
    refine sx_pubO (hk4 bm _ hm rfl) rfl fun h5 hle5 ho5 => ?_
    have hs5 : m2.sub (m4.unset bm) := hs4.unset f1
    obtain ⟨xa, xk, rfl⟩ := hrow.sl
    have hd5 : DepS h5 (.slice xa (cops ex pts).length xk) (cops ex pts) := ⟨⟨xa, xk, ces, rfl, hr4.mono' hle5, (hcp.mono (hle4.trans hle5))⟩, by omega, fun d hd => by
      obtain ⟨p, _, y, hy, rfl⟩ := cops_sub hd
      exact hb.rng y hy⟩
    ((try (conv => whnf)); repeat ((first | refine And.intro ?_ True.intro | refine And.intro ⟨by omega, by omega⟩ ?_ | refine ⟨_, (by assumption : RO.c _ _ _ = _), ?_⟩ | refine ⟨_, _, _, (by assumption : (_ : Option Obj) = _), ?_⟩ | refine ⟨_, _, _, (by assumption : RO.c _ _ _ = _), ?_⟩ | refine ⟨_, (by assumption : Row _ _ _ _), ?_⟩ | refine ⟨_, (by assumption : Cell _ _ _ _ _), ?_⟩ | refine ⟨_, _, _, (by assumption : Cell _ _ _ _ _), ?_⟩ | refine ⟨_, Or.inl (by assumption), ?_⟩ | refine ⟨_, _, _, Or.inl (by assumption), ?_⟩ | refine And.intro (ints_one _) ?_ | refine And.intro (by omega) ?_ | refine d1 ?_ | refine d2 ?_ | refine d3 ?_ | refine d4 ?_ | refine go G79 400 hC (by kernel_rfl) ?_); (conv => whnf)))
    refine ⟨fun h => absurd h (by simp), fun _ => ?_⟩
    ((try (conv => whnf)); repeat ((first | refine And.intro ?_ True.intro | refine And.intro ⟨by omega, by omega⟩ ?_ | refine ⟨_, (by assumption : RO.c _ _ _ = _), ?_⟩ | refine ⟨_, _, _, (by assumption : (_ : Option Obj) = _), ?_⟩ | refine ⟨_, _, _, (by assumption : RO.c _ _ _ = _), ?_⟩ | refine ⟨_, (by assumption : Row _ _ _ _), ?_⟩ | refine ⟨_, (by assumption : Cell _ _ _ _ _), ?_⟩ | refine ⟨_, _, _, (by assumption : Cell _ _ _ _ _), ?_⟩ | refine ⟨_, Or.inl (by assumption), ?_⟩ | refine ⟨_, _, _, Or.inl (by assumption), ?_⟩ | refine And.intro (ints_one _) ?_ | refine And.intro (by omega) ?_ | refine d1 ?_ | refine d2 ?_ | refine d3 ?_ | refine d4 ?_ | refine go G79 400 hC (by kernel_rfl) ?_); (conv => whnf)))
    intro b6 h6 hle6 hp6
    ((try (conv => whnf)); repeat ((first | refine And.intro ?_ True.intro | refine And.intro ⟨by omega, by omega⟩ ?_ | refine ⟨_, (by assumption : RO.c _ _ _ = _), ?_⟩ | refine ⟨_, _, _, (by assumption : (_ : Option Obj) = _), ?_⟩ | refine ⟨_, _, _, (by assumption : RO.c _ _ _ = _), ?_⟩ | refine ⟨_, (by assumption : Row _ _ _ _), ?_⟩ | refine ⟨_, (by assumption : Cell _ _ _ _ _), ?_⟩ | refine ⟨_, _, _, (by assumption : Cell _ _ _ _ _), ?_⟩ | refine ⟨_, Or.inl (by assumption), ?_⟩ | refine ⟨_, _, _, Or.inl (by assumption), ?_⟩ | refine And.intro (ints_one _) ?_ | refine And.intro (by omega) ?_ | refine d1 ?_ | refine d2 ?_ | refine d3 ?_ | refine d4 ?_ | refine go G79 400 hC (by kernel_rfl) ?_); (conv => whnf)))
    refine ⟨_, hs5, ?_, rfl⟩
    rw [hq]
    exact ⟨b6, rfl, bm, _, hp6 3 _ rfl, hp6 4 _ rfl, hd5.mono hle6, es, ck, F, .inr (hle6.o _ _ ho5), hO⟩
  ((try (conv => whnf)); repeat ((first | refine And.intro ?_ True.intro | refine And.intro ⟨by omega, by omega⟩ ?_ | refine ⟨_, (by assumption : RO.c _ _ _ = _), ?_⟩ | refine ⟨_, _, _, (by assumption : (_ : Option Obj) = _), ?_⟩ | refine ⟨_, _, _, (by assumption : RO.c _ _ _ = _), ?_⟩ | refine ⟨_, (by assumption : Row _ _ _ _), ?_⟩ | refine ⟨_, (by assumption : Cell _ _ _ _ _), ?_⟩ | refine ⟨_, _, _, (by assumption : Cell _ _ _ _ _), ?_⟩ | refine ⟨_, Or.inl (by assumption), ?_⟩ | refine ⟨_, _, _, Or.inl (by assumption), ?_⟩ | refine And.intro (ints_one _) ?_ | refine And.intro (by omega) ?_ | refine d1 ?_ | refine d2 ?_ | refine d3 ?_ | refine d4 ?_ | refine go G79 400 hC (by kernel_rfl) ?_); (conv => whnf)))
  refine ⟨fun _ => ?_, fun hge => absurd hlt (by simpa using hge)⟩
  obtain ⟨p, q, rfl, hcc⟩ := (hp.mono hle3).get hlt
  obtain ⟨a', c', c1, hi1⟩ := hcc i hlt
  obtain ⟨y, d, rfl⟩ := hb.sl
  have hlb := hb.len
  ((try (conv => whnf)); repeat ((first | refine And.intro ?_ True.intro | refine And.intro ⟨by omega, by omega⟩ ?_ | refine ⟨_, (by assumption : RO.c _ _ _ = _), ?_⟩ | refine ⟨_, _, _, (by assumption : (_ : Option Obj) = _), ?_⟩ | refine ⟨_, _, _, (by assumption : RO.c _ _ _ = _), ?_⟩ | refine ⟨_, (by assumption : Row _ _ _ _), ?_⟩ | refine ⟨_, (by assumption : Cell _ _ _ _ _), ?_⟩ | refine ⟨_, _, _, (by assumption : Cell _ _ _ _ _), ?_⟩ | refine ⟨_, Or.inl (by assumption), ?_⟩ | refine ⟨_, _, _, Or.inl (by assumption), ?_⟩ | refine And.intro (ints_one _) ?_ | refine And.intro (by omega) ?_ | refine d1 ?_ | refine d2 ?_ | refine d3 ?_ | refine d4 ?_ | refine go G79 400 hC (by kernel_rfl) ?_); (conv => whnf)))
  refine halt (sx_loopB (X := Nat × Value) [2, 6, 8, 21, 22, 23, 28, 29] [2] (fun x => [(30, .v (.int .i64 x.1))]) (fun x => [(20, .box [u, .slice y ex.length d, w, .map (some bm), x.2] 147)])
    (fun x h' m' => x.1 ≤ ex.length ∧ h3.le h' ∧ NumI m2 bm h' m' x.2 (rowC (gl pts i) (ex.take x.1) (cops ex (pts.take i)))) (fun x => ex.length - x.1) (0, vc) (by repeat (first | exact Keep.nil | apply Keep.cons rfl | apply Keep.skip rfl)) (by repeat (first | exact KeepB.nil | apply KeepB.cons rfl)) ⟨[(2, 2), (20, 20)], ⟨by simp [sinj], by repeat (first | exact trivial | refine ⟨rfl, ?_⟩ | refine ⟨⟨rfl, rfl⟩, ?_⟩ | refine ⟨⟨rfl, rfl, rfl⟩, ?_⟩ | refine ⟨stepI (by omega), ?_⟩ | refine ⟨by assumption, ?_⟩), by repeat (first | exact trivial | refine ⟨rfl, ?_⟩ | refine ⟨⟨rfl, rfl, rfl⟩, ?_⟩ | refine ⟨by assumption, ?_⟩)⟩⟩
    ⟨by simp, RO.le.refl _, hI⟩ ?_)
  rintro ⟨k, vd⟩ h4 m4 - ⟨hk, hle4, hJ⟩
  dsimp only at hk hJ ⊢
  ((try (conv => whnf)); repeat ((first | refine And.intro ?_ True.intro | refine And.intro ⟨by omega, by omega⟩ ?_ | refine ⟨_, (by assumption : RO.c _ _ _ = _), ?_⟩ | refine ⟨_, _, _, (by assumption : (_ : Option Obj) = _), ?_⟩ | refine ⟨_, _, _, (by assumption : RO.c _ _ _ = _), ?_⟩ | refine ⟨_, (by assumption : Row _ _ _ _), ?_⟩ | refine ⟨_, (by assumption : Cell _ _ _ _ _), ?_⟩ | refine ⟨_, _, _, (by assumption : Cell _ _ _ _ _), ?_⟩ | refine ⟨_, Or.inl (by assumption), ?_⟩ | refine ⟨_, _, _, Or.inl (by assumption), ?_⟩ | refine And.intro (ints_one _) ?_ | refine And.intro (by omega) ?_ | refine d1 ?_ | refine d2 ?_ | refine d3 ?_ | refine d4 ?_ | refine go G79 400 hC (by kernel_rfl) ?_); (conv => whnf)))
  refine ⟨fun hlt2 => ?_, fun hge2 => ?_⟩
  rotate_left
  · have hge2 : k = ex.length := by simp at hge2; omega
    subst hge2
    rw [List.take_length] at hJ
    ((try (conv => whnf)); repeat ((first | refine And.intro ?_ True.intro | refine And.intro ⟨by omega, by omega⟩ ?_ | refine ⟨_, (by assumption : RO.c _ _ _ = _), ?_⟩ | refine ⟨_, _, _, (by assumption : (_ : Option Obj) = _), ?_⟩ | refine ⟨_, _, _, (by assumption : RO.c _ _ _ = _), ?_⟩ | refine ⟨_, (by assumption : Row _ _ _ _), ?_⟩ | refine ⟨_, (by assumption : Cell _ _ _ _ _), ?_⟩ | refine ⟨_, _, _, (by assumption : Cell _ _ _ _ _), ?_⟩ | refine ⟨_, Or.inl (by assumption), ?_⟩ | refine ⟨_, _, _, Or.inl (by assumption), ?_⟩ | refine And.intro (ints_one _) ?_ | refine And.intro (by omega) ?_ | refine d1 ?_ | refine d2 ?_ | refine d3 ?_ | refine d4 ?_ | refine go G79 400 hC (by kernel_rfl) ?_); (conv => whnf)))
    refine halt ⟨(i + 1, vd), [(2, 2), (20, 20)], ⟨by simp [sinj], by repeat (first | exact trivial | refine ⟨rfl, ?_⟩ | refine ⟨⟨rfl, rfl⟩, ?_⟩ | refine ⟨⟨rfl, rfl, rfl⟩, ?_⟩ | refine ⟨stepI (by omega), ?_⟩ | refine ⟨by assumption, ?_⟩), by repeat (first | exact trivial | refine ⟨rfl, ?_⟩ | refine ⟨⟨rfl, rfl, rfl⟩, ?_⟩ | refine ⟨by assumption, ?_⟩)⟩, hle4, ⟨hlt, hle3.trans hle4, ?_⟩, by dsimp only; omega⟩
    rw [List.take_add_one, gl_get hlt]
    simp only [Option.toList_some, cops_snoc]
    exact hJ
  have hlt2 : k < ex.length := by simpa using hlt2
  obtain ⟨p2, q2, rfl, hcc2⟩ := ((hb.mono hle3).mono hle4).get hlt2
  obtain ⟨c2, a2, c2', c3, hi2⟩ := hcc2 k hlt2
  ((try (conv => whnf)); repeat ((first | refine And.intro ?_ True.intro | refine And.intro ⟨by omega, by omega⟩ ?_ | refine ⟨_, (by assumption : RO.c _ _ _ = _), ?_⟩ | refine ⟨_, _, _, (by assumption : (_ : Option Obj) = _), ?_⟩ | refine ⟨_, _, _, (by assumption : RO.c _ _ _ = _), ?_⟩ | refine ⟨_, (by assumption : Row _ _ _ _), ?_⟩ | refine ⟨_, (by assumption : Cell _ _ _ _ _), ?_⟩ | refine ⟨_, _, _, (by assumption : Cell _ _ _ _ _), ?_⟩ | refine ⟨_, Or.inl (by assumption), ?_⟩ | refine ⟨_, _, _, Or.inl (by assumption), ?_⟩ | refine And.intro (ints_one _) ?_ | refine And.intro (by omega) ?_ | refine d1 ?_ | refine d2 ?_ | refine d3 ?_ | refine d4 ?_ | refine go G79 400 hC (by kernel_rfl) ?_); (conv => whnf)))
  intro b5 h5 hle5 hp5
  ((try (conv => whnf)); repeat ((first | refine And.intro ?_ True.intro | refine And.intro ⟨by omega, by omega⟩ ?_ | refine ⟨_, (by assumption : RO.c _ _ _ = _), ?_⟩ | refine ⟨_, _, _, (by assumption : (_ : Option Obj) = _), ?_⟩ | refine ⟨_, _, _, (by assumption : RO.c _ _ _ = _), ?_⟩ | refine ⟨_, (by assumption : Row _ _ _ _), ?_⟩ | refine ⟨_, (by assumption : Cell _ _ _ _ _), ?_⟩ | refine ⟨_, _, _, (by assumption : Cell _ _ _ _ _), ?_⟩ | refine ⟨_, Or.inl (by assumption), ?_⟩ | refine ⟨_, _, _, Or.inl (by assumption), ?_⟩ | refine And.intro (ints_one _) ?_ | refine And.intro (by omega) ?_ | refine d1 ?_ | refine d2 ?_ | refine d3 ?_ | refine d4 ?_ | refine go G79 400 hC (by kernel_rfl) ?_); (conv => whnf)))
  have hasc := (hv.deps _ (gd_mem hlt2)).1.asc
  have hpl := hpt _ (gl_mem hlt)
  refine halt (sx_cutB (X := Nat × Value) [2, 6, 8, 21, 22, 23, 28, 29, 30] [2, 20] (fun x => [(11, .loc 11 0)]) (fun x => [(11, .pub x.1 [.int .i64 (gd ex k).1, x.2])])
    (fun x h' m' => IntS h' x.2 (wit (gl pts i) (gd ex k).2) ∧ Pubd h' x.1 [.int .i64 (gd ex k).1, x.2] ∧ m' = m4) (by repeat (first | exact Keep.nil | apply Keep.cons rfl | apply Keep.skip rfl)) (by repeat (first | exact KeepB.nil | apply KeepB.cons rfl)) ?_ ?_)
  · ((try (conv => whnf)); repeat ((first | refine And.intro ?_ True.intro | refine And.intro ⟨by omega, by omega⟩ ?_ | refine ⟨_, (by assumption : RO.c _ _ _ = _), ?_⟩ | refine ⟨_, _, _, (by assumption : (_ : Option Obj) = _), ?_⟩ | refine ⟨_, _, _, (by assumption : RO.c _ _ _ = _), ?_⟩ | refine ⟨_, (by assumption : Row _ _ _ _), ?_⟩ | refine ⟨_, (by assumption : Cell _ _ _ _ _), ?_⟩ | refine ⟨_, _, _, (by assumption : Cell _ _ _ _ _), ?_⟩ | refine ⟨_, Or.inl (by assumption), ?_⟩ | refine ⟨_, _, _, Or.inl (by assumption), ?_⟩ | refine And.intro (ints_one _) ?_ | refine And.intro (by omega) ?_ | refine d1 ?_ | refine d2 ?_ | refine d3 ?_ | refine d4 ?_ | refine go G79r 400 hC (by kernel_rfl) ?_); (conv => whnf)))
    refine ⟨?_, ?_⟩ <;> ((try (conv => whnf)); repeat ((first | refine And.intro ?_ True.intro | refine And.intro ⟨by omega, by omega⟩ ?_ | refine ⟨_, (by assumption : RO.c _ _ _ = _), ?_⟩ | refine ⟨_, _, _, (by assumption : (_ : Option Obj) = _), ?_⟩ | refine ⟨_, _, _, (by assumption : RO.c _ _ _ = _), ?_⟩ | refine ⟨_, (by assumption : Row _ _ _ _), ?_⟩ | refine ⟨_, (by assumption : Cell _ _ _ _ _), ?_⟩ | refine ⟨_, _, _, (by assumption : Cell _ _ _ _ _), ?_⟩ | refine ⟨_, Or.inl (by assumption), ?_⟩ | refine ⟨_, _, _, Or.inl (by assumption), ?_⟩ | refine And.intro (ints_one _) ?_ | refine And.intro (by omega) ?_ | refine d1 ?_ | refine d2 ?_ | refine d3 ?_ | refine d4 ?_ | refine go G79r 400 hC (by kernel_rfl) ?_); (conv => whnf)))
    all_goals
      refine Con.mono (within_spec (hi1.mono (hle4.trans hle5)) (hi2.mono hle5) hasc hpl) ?_
      rintro _ h6 m4 hle6 ⟨⟨s, rfl, hs⟩, rfl⟩
      obtain ⟨sa, sc, rfl, -⟩ := hs.s
      ((try (conv => whnf)); repeat ((first | refine And.intro ?_ True.intro | refine And.intro ⟨by omega, by omega⟩ ?_ | refine ⟨_, (by assumption : RO.c _ _ _ = _), ?_⟩ | refine ⟨_, _, _, (by assumption : (_ : Option Obj) = _), ?_⟩ | refine ⟨_, _, _, (by assumption : RO.c _ _ _ = _), ?_⟩ | refine ⟨_, (by assumption : Row _ _ _ _), ?_⟩ | refine ⟨_, (by assumption : Cell _ _ _ _ _), ?_⟩ | refine ⟨_, _, _, (by assumption : Cell _ _ _ _ _), ?_⟩ | refine ⟨_, Or.inl (by assumption), ?_⟩ | refine ⟨_, _, _, Or.inl (by assumption), ?_⟩ | refine And.intro (ints_one _) ?_ | refine And.intro (by omega) ?_ | refine d1 ?_ | refine d2 ?_ | refine d3 ?_ | refine d4 ?_ | refine go G79r 400 hC (by kernel_rfl) ?_); (conv => whnf)))
      intro b7 h7 hle7 hp7
      ((try (conv => whnf)); repeat ((first | refine And.intro ?_ True.intro | refine And.intro ⟨by omega, by omega⟩ ?_ | refine ⟨_, (by assumption : RO.c _ _ _ = _), ?_⟩ | refine ⟨_, _, _, (by assumption : (_ : Option Obj) = _), ?_⟩ | refine ⟨_, _, _, (by assumption : RO.c _ _ _ = _), ?_⟩ | refine ⟨_, (by assumption : Row _ _ _ _), ?_⟩ | refine ⟨_, (by assumption : Cell _ _ _ _ _), ?_⟩ | refine ⟨_, _, _, (by assumption : Cell _ _ _ _ _), ?_⟩ | refine ⟨_, Or.inl (by assumption), ?_⟩ | refine ⟨_, _, _, Or.inl (by assumption), ?_⟩ | refine And.intro (ints_one _) ?_ | refine And.intro (by omega) ?_ | refine d1 ?_ | refine d2 ?_ | refine d3 ?_ | refine d4 ?_ | refine go G79r 400 hC (by kernel_rfl) ?_); (conv => whnf)))
      exact halt ⟨(b7, _), [(2, 2), (20, 20), (11, 11)], ⟨by simp [sinj], by repeat (first | exact trivial | refine ⟨rfl, ?_⟩ | refine ⟨⟨rfl, rfl⟩, ?_⟩ | refine ⟨⟨rfl, rfl, rfl⟩, ?_⟩ | refine ⟨stepI (by omega), ?_⟩ | refine ⟨by assumption, ?_⟩), by repeat (first | exact trivial | refine ⟨rfl, ?_⟩ | refine ⟨⟨rfl, rfl, rfl⟩, ?_⟩ | refine ⟨by assumption, ?_⟩)⟩, hle6.trans hle7, ⟨hs.mono hle7, hp7, rfl⟩⟩
  rintro ⟨b7, s⟩ h7 m4 hle7 ⟨hs, hp7, rfl⟩
  dsimp only at hs hp7 ⊢
  have hp70 := hp7 0 _ rfl
  have hp71 := hp7 1 _ rfl
  obtain ⟨sa, sc, rfl, -⟩ := hs.s
  ((try (conv => whnf)); repeat ((first | refine And.intro ?_ True.intro | refine And.intro ⟨by omega, by omega⟩ ?_ | refine ⟨_, (by assumption : RO.c _ _ _ = _), ?_⟩ | refine ⟨_, _, _, (by assumption : (_ : Option Obj) = _), ?_⟩ | refine ⟨_, _, _, (by assumption : RO.c _ _ _ = _), ?_⟩ | refine ⟨_, (by assumption : Row _ _ _ _), ?_⟩ | refine ⟨_, (by assumption : Cell _ _ _ _ _), ?_⟩ | refine ⟨_, _, _, (by assumption : Cell _ _ _ _ _), ?_⟩ | refine ⟨_, Or.inl (by assumption), ?_⟩ | refine ⟨_, _, _, Or.inl (by assumption), ?_⟩ | refine And.intro (ints_one _) ?_ | refine And.intro (by omega) ?_ | refine d1 ?_ | refine d2 ?_ | refine d3 ?_ | refine d4 ?_ | refine go G79 400 hC (by kernel_rfl) ?_); (conv => whnf)))
  refine halt (sx_cutB (X := Nat) [2, 6, 8, 11, 21, 22, 23, 28, 29, 30] [2, 11, 20] (fun x => [(12, .loc 12 0)]) (fun x => [(12, .pub x [.int .i64 (gd ex k).1, .string (txt (wit (gl pts i) (gd ex k).2))])])
    (fun x h' m' => m' = m4) (by repeat (first | exact Keep.nil | apply Keep.cons rfl | apply Keep.skip rfl)) (by repeat (first | exact KeepB.nil | apply KeepB.cons rfl)) ?_ ?_)
  · ((try (conv => whnf)); repeat ((first | refine And.intro ?_ True.intro | refine And.intro ⟨by omega, by omega⟩ ?_ | refine ⟨_, (by assumption : RO.c _ _ _ = _), ?_⟩ | refine ⟨_, _, _, (by assumption : (_ : Option Obj) = _), ?_⟩ | refine ⟨_, _, _, (by assumption : RO.c _ _ _ = _), ?_⟩ | refine ⟨_, (by assumption : Row _ _ _ _), ?_⟩ | refine ⟨_, (by assumption : Cell _ _ _ _ _), ?_⟩ | refine ⟨_, _, _, (by assumption : Cell _ _ _ _ _), ?_⟩ | refine ⟨_, Or.inl (by assumption), ?_⟩ | refine ⟨_, _, _, Or.inl (by assumption), ?_⟩ | refine And.intro (ints_one _) ?_ | refine And.intro (by omega) ?_ | refine d1 ?_ | refine d2 ?_ | refine d3 ?_ | refine d4 ?_ | refine go G79r 400 hC (by kernel_rfl) ?_); (conv => whnf)))
    refine ⟨?_, ?_⟩ <;> ((try (conv => whnf)); repeat ((first | refine And.intro ?_ True.intro | refine And.intro ⟨by omega, by omega⟩ ?_ | refine ⟨_, (by assumption : RO.c _ _ _ = _), ?_⟩ | refine ⟨_, _, _, (by assumption : (_ : Option Obj) = _), ?_⟩ | refine ⟨_, _, _, (by assumption : RO.c _ _ _ = _), ?_⟩ | refine ⟨_, (by assumption : Row _ _ _ _), ?_⟩ | refine ⟨_, (by assumption : Cell _ _ _ _ _), ?_⟩ | refine ⟨_, _, _, (by assumption : Cell _ _ _ _ _), ?_⟩ | refine ⟨_, Or.inl (by assumption), ?_⟩ | refine ⟨_, _, _, Or.inl (by assumption), ?_⟩ | refine And.intro (ints_one _) ?_ | refine And.intro (by omega) ?_ | refine d1 ?_ | refine d2 ?_ | refine d3 ?_ | refine d4 ?_ | refine go G79r 400 hC (by kernel_rfl) ?_); (conv => whnf)))
    all_goals
      refine Con.mono (text_spec hs (by have := wit_len (gl pts i) (gd ex k).2; omega)) ?_
      rintro _ h6 m4 hle6 ⟨rfl, rfl⟩
      ((try (conv => whnf)); repeat ((first | refine And.intro ?_ True.intro | refine And.intro ⟨by omega, by omega⟩ ?_ | refine ⟨_, (by assumption : RO.c _ _ _ = _), ?_⟩ | refine ⟨_, _, _, (by assumption : (_ : Option Obj) = _), ?_⟩ | refine ⟨_, _, _, (by assumption : RO.c _ _ _ = _), ?_⟩ | refine ⟨_, (by assumption : Row _ _ _ _), ?_⟩ | refine ⟨_, (by assumption : Cell _ _ _ _ _), ?_⟩ | refine ⟨_, _, _, (by assumption : Cell _ _ _ _ _), ?_⟩ | refine ⟨_, Or.inl (by assumption), ?_⟩ | refine ⟨_, _, _, Or.inl (by assumption), ?_⟩ | refine And.intro (ints_one _) ?_ | refine And.intro (by omega) ?_ | refine d1 ?_ | refine d2 ?_ | refine d3 ?_ | refine d4 ?_ | refine go G79r 400 hC (by kernel_rfl) ?_); (conv => whnf)))
      intro b8 h8 hle8 hp8
      ((try (conv => whnf)); repeat ((first | refine And.intro ?_ True.intro | refine And.intro ⟨by omega, by omega⟩ ?_ | refine ⟨_, (by assumption : RO.c _ _ _ = _), ?_⟩ | refine ⟨_, _, _, (by assumption : (_ : Option Obj) = _), ?_⟩ | refine ⟨_, _, _, (by assumption : RO.c _ _ _ = _), ?_⟩ | refine ⟨_, (by assumption : Row _ _ _ _), ?_⟩ | refine ⟨_, (by assumption : Cell _ _ _ _ _), ?_⟩ | refine ⟨_, _, _, (by assumption : Cell _ _ _ _ _), ?_⟩ | refine ⟨_, Or.inl (by assumption), ?_⟩ | refine ⟨_, _, _, Or.inl (by assumption), ?_⟩ | refine And.intro (ints_one _) ?_ | refine And.intro (by omega) ?_ | refine d1 ?_ | refine d2 ?_ | refine d3 ?_ | refine d4 ?_ | refine go G79r 400 hC (by kernel_rfl) ?_); (conv => whnf)))
      exact halt ⟨b8, [(2, 2), (20, 20), (11, 11), (12, 12)], ⟨by simp [sinj], by repeat (first | exact trivial | refine ⟨rfl, ?_⟩ | refine ⟨⟨rfl, rfl⟩, ?_⟩ | refine ⟨⟨rfl, rfl, rfl⟩, ?_⟩ | refine ⟨stepI (by omega), ?_⟩ | refine ⟨by assumption, ?_⟩), by repeat (first | exact trivial | refine ⟨rfl, ?_⟩ | refine ⟨⟨rfl, rfl, rfl⟩, ?_⟩ | refine ⟨by assumption, ?_⟩)⟩, hle6.trans hle8, rfl⟩
  rintro b8 h8 m4 hle8 rfl
  have hlit : ∀ x ∈ rowC (gl pts i) (ex.take k) (cops ex (pts.take i)), Lit16 x.2 := fun x hx => by
    rcases rowC_sub hx with hx | ⟨y, _, rfl⟩
    · obtain ⟨p, hp, y, _, rfl⟩ := cops_sub hx
      exact wit_lit ((hvp.pt _ (List.mem_of_mem_take hp)).lit hv.ru)
    · exact wit_lit ((hvp.pt _ (gl_mem hlt)).lit hv.ru)
  have hlit0 : Lit16 (wit (gl pts i) (gd ex k).2) := wit_lit ((hvp.pt _ (gl_mem hlt)).lit hv.ru)
  have hacc := accLen (p := gl pts i) hlt hlt2 hsm
  have hsz : (txt (wit (gl pts i) (gd ex k).2)).size ≤ maxLen := by rw [txt_size]; have := wit_len (gl pts i) (gd ex k).2; simp only [maxLen]; omega
  have hka : KA (ιA (kc (cpAt (gl pts i) (gd ex k)))) := isKA (hb.rng (gd ex k) (gd_mem hlt2)) hsz
  have hnx : rowC (gl pts i) (ex.take (k + 1)) (cops ex (pts.take i)) = addC (rowC (gl pts i) (ex.take k) (cops ex (pts.take i))) (cpAt (gl pts i) (gd ex k)) := by
    rw [List.take_add_one, gd_get hlt2]; exact rowC_snoc _ _ _ _
  have hnum := numF_eq hlit (c := cpAt (gl pts i) (gd ex k)) hlit0
  ((try (conv => whnf)); repeat ((first | refine And.intro ?_ True.intro | refine And.intro ⟨by omega, by omega⟩ ?_ | refine ⟨_, (by assumption : RO.c _ _ _ = _), ?_⟩ | refine ⟨_, _, _, (by assumption : (_ : Option Obj) = _), ?_⟩ | refine ⟨_, _, _, (by assumption : RO.c _ _ _ = _), ?_⟩ | refine ⟨_, (by assumption : Row _ _ _ _), ?_⟩ | refine ⟨_, (by assumption : Cell _ _ _ _ _), ?_⟩ | refine ⟨_, _, _, (by assumption : Cell _ _ _ _ _), ?_⟩ | refine ⟨_, Or.inl (by assumption), ?_⟩ | refine ⟨_, _, _, Or.inl (by assumption), ?_⟩ | refine And.intro (ints_one _) ?_ | refine And.intro (by omega) ?_ | refine d1 ?_ | refine d2 ?_ | refine d3 ?_ | refine d4 ?_ | refine go G79 400 hC (by kernel_rfl) ?_); (conv => whnf)))
  have hJ0 := hJ
  obtain ⟨hsub, ⟨es, ck, F, hm, hO⟩, ⟨ces, hrow, hcp⟩, hown⟩ := hJ
  refine ⟨es, ck, _, F, ⟨.inl hm, keyA, hO.r, hka⟩, ?_⟩
  erw [hO.eq (kc (cpAt (gl pts i) (gd ex k)))]
  rw [hnum]
  have hle48 : h4.le h8 := (hle5.trans hle7).trans hle8
  have hle8' := hle48
  cases hcx : (rowC (gl pts i) (ex.take k) (cops ex (pts.take i))).contains (cpAt (gl pts i) (gd ex k)) with
  | true =>
    ((try (conv => whnf)); repeat ((first | refine And.intro ?_ True.intro | refine And.intro ⟨by omega, by omega⟩ ?_ | refine ⟨_, (by assumption : RO.c _ _ _ = _), ?_⟩ | refine ⟨_, _, _, (by assumption : (_ : Option Obj) = _), ?_⟩ | refine ⟨_, _, _, (by assumption : RO.c _ _ _ = _), ?_⟩ | refine ⟨_, (by assumption : Row _ _ _ _), ?_⟩ | refine ⟨_, (by assumption : Cell _ _ _ _ _), ?_⟩ | refine ⟨_, _, _, (by assumption : Cell _ _ _ _ _), ?_⟩ | refine ⟨_, Or.inl (by assumption), ?_⟩ | refine ⟨_, _, _, Or.inl (by assumption), ?_⟩ | refine And.intro (ints_one _) ?_ | refine And.intro (by omega) ?_ | refine d1 ?_ | refine d2 ?_ | refine d3 ?_ | refine d4 ?_ | refine go G79 400 hC (by kernel_rfl) ?_); (conv => whnf)))
    have hpos : 0 < numC (rowC (gl pts i) (ex.take k) (cops ex (pts.take i))) (cpAt (gl pts i) (gd ex k)) := by rw [numC, hcx]; exact Nat.succ_pos _
    refine ⟨fun _ => ?_, fun h => absurd hpos (by simpa using h)⟩
    ((try (conv => whnf)); repeat ((first | refine And.intro ?_ True.intro | refine And.intro ⟨by omega, by omega⟩ ?_ | refine ⟨_, (by assumption : RO.c _ _ _ = _), ?_⟩ | refine ⟨_, _, _, (by assumption : (_ : Option Obj) = _), ?_⟩ | refine ⟨_, _, _, (by assumption : RO.c _ _ _ = _), ?_⟩ | refine ⟨_, (by assumption : Row _ _ _ _), ?_⟩ | refine ⟨_, (by assumption : Cell _ _ _ _ _), ?_⟩ | refine ⟨_, _, _, (by assumption : Cell _ _ _ _ _), ?_⟩ | refine ⟨_, Or.inl (by assumption), ?_⟩ | refine ⟨_, _, _, Or.inl (by assumption), ?_⟩ | refine And.intro (ints_one _) ?_ | refine And.intro (by omega) ?_ | refine d1 ?_ | refine d2 ?_ | refine d3 ?_ | refine d4 ?_ | refine go G79 400 hC (by kernel_rfl) ?_); (conv => whnf)))
    exact halt ⟨(k + 1, vd), [(2, 2), (20, 20)], ⟨by simp [sinj], by repeat (first | exact trivial | refine ⟨rfl, ?_⟩ | refine ⟨⟨rfl, rfl⟩, ?_⟩ | refine ⟨⟨rfl, rfl, rfl⟩, ?_⟩ | refine ⟨stepI (by omega), ?_⟩ | refine ⟨by assumption, ?_⟩), by repeat (first | exact trivial | refine ⟨rfl, ?_⟩ | refine ⟨⟨rfl, rfl, rfl⟩, ?_⟩ | refine ⟨by assumption, ?_⟩)⟩, hle8', ⟨hlt2, hle4.trans hle8', by rw [hnx, addC, hcx]; exact hJ0.mono hle8'⟩, by dsimp only; omega⟩
  | false =>
    obtain ⟨va, vk, rfl⟩ := hrow.sl
    ((try (conv => whnf)); repeat ((first | refine And.intro ?_ True.intro | refine And.intro ⟨by omega, by omega⟩ ?_ | refine ⟨_, (by assumption : RO.c _ _ _ = _), ?_⟩ | refine ⟨_, _, _, (by assumption : (_ : Option Obj) = _), ?_⟩ | refine ⟨_, _, _, (by assumption : RO.c _ _ _ = _), ?_⟩ | refine ⟨_, (by assumption : Row _ _ _ _), ?_⟩ | refine ⟨_, (by assumption : Cell _ _ _ _ _), ?_⟩ | refine ⟨_, _, _, (by assumption : Cell _ _ _ _ _), ?_⟩ | refine ⟨_, Or.inl (by assumption), ?_⟩ | refine ⟨_, _, _, Or.inl (by assumption), ?_⟩ | refine And.intro (ints_one _) ?_ | refine And.intro (by omega) ?_ | refine d1 ?_ | refine d2 ?_ | refine d3 ?_ | refine d4 ?_ | refine go G79 400 hC (by kernel_rfl) ?_); (conv => whnf)))
    refine ⟨fun h => absurd hacc (by simp at h; omega), fun _ => ?_⟩
    ((try (conv => whnf)); repeat ((first | refine And.intro ?_ True.intro | refine And.intro ⟨by omega, by omega⟩ ?_ | refine ⟨_, (by assumption : RO.c _ _ _ = _), ?_⟩ | refine ⟨_, _, _, (by assumption : (_ : Option Obj) = _), ?_⟩ | refine ⟨_, _, _, (by assumption : RO.c _ _ _ = _), ?_⟩ | refine ⟨_, (by assumption : Row _ _ _ _), ?_⟩ | refine ⟨_, (by assumption : Cell _ _ _ _ _), ?_⟩ | refine ⟨_, _, _, (by assumption : Cell _ _ _ _ _), ?_⟩ | refine ⟨_, Or.inl (by assumption), ?_⟩ | refine ⟨_, _, _, Or.inl (by assumption), ?_⟩ | refine And.intro (ints_one _) ?_ | refine And.intro (by omega) ?_ | refine d1 ?_ | refine d2 ?_ | refine d3 ?_ | refine d4 ?_ | refine go G79 400 hC (by kernel_rfl) ?_); (conv => whnf)))
    have hexp : (ces ++ [Value.int .i64 (gd ex k).1, Value.slice sa (wit (gl pts i) (gd ex k).2).length sc]).length = ((rowC (gl pts i) (ex.take k) (cops ex (pts.take i))).length + 1) * 2 := by simp [hrow.1]; omega
    refine halt (sx_cutB (X := Value) [2, 6, 8, 12, 21, 22, 23, 28, 29, 30] [2, 12] (fun _ => []) (fun x => [(20, .box [u, .slice (some ⟨p2, q2, none⟩) ex.length d, w, .map (some bm), x] 147)])
      (fun x h' m' => MRow m' 72 2 x ((rowC (gl pts i) (ex.take k) (cops ex (pts.take i))).length + 1) (ces ++ [.int .i64 (gd ex k).1, .slice sa (wit (gl pts i) (gd ex k).2).length sc]) ∧
        Turned m4 m' h8 (.slice va (rowC (gl pts i) (ex.take k) (cops ex (pts.take i))).length vk) x ∧ h' = h8) (by repeat (first | exact Keep.nil | apply Keep.cons rfl | apply Keep.skip rfl)) (by repeat (first | exact KeepB.nil | apply KeepB.cons rfl)) ?_ ?_)
    · ((try (conv => whnf)); repeat ((first | refine And.intro ?_ True.intro | refine And.intro ⟨by omega, by omega⟩ ?_ | refine ⟨_, (by assumption : RO.c _ _ _ = _), ?_⟩ | refine ⟨_, _, _, (by assumption : (_ : Option Obj) = _), ?_⟩ | refine ⟨_, _, _, (by assumption : RO.c _ _ _ = _), ?_⟩ | refine ⟨_, (by assumption : Row _ _ _ _), ?_⟩ | refine ⟨_, (by assumption : Cell _ _ _ _ _), ?_⟩ | refine ⟨_, _, _, (by assumption : Cell _ _ _ _ _), ?_⟩ | refine ⟨_, Or.inl (by assumption), ?_⟩ | refine ⟨_, _, _, Or.inl (by assumption), ?_⟩ | refine And.intro (ints_one _) ?_ | refine And.intro (by omega) ?_ | refine d1 ?_ | refine d2 ?_ | refine d3 ?_ | refine d4 ?_ | refine go G79r 400 hC (by kernel_rfl) ?_); (conv => whnf)))
      refine ⟨?_, ?_⟩ <;> ((try (conv => whnf)); repeat ((first | refine And.intro ?_ True.intro | refine And.intro ⟨by omega, by omega⟩ ?_ | refine ⟨_, (by assumption : RO.c _ _ _ = _), ?_⟩ | refine ⟨_, _, _, (by assumption : (_ : Option Obj) = _), ?_⟩ | refine ⟨_, _, _, (by assumption : RO.c _ _ _ = _), ?_⟩ | refine ⟨_, (by assumption : Row _ _ _ _), ?_⟩ | refine ⟨_, (by assumption : Cell _ _ _ _ _), ?_⟩ | refine ⟨_, _, _, (by assumption : Cell _ _ _ _ _), ?_⟩ | refine ⟨_, Or.inl (by assumption), ?_⟩ | refine ⟨_, _, _, Or.inl (by assumption), ?_⟩ | refine And.intro (ints_one _) ?_ | refine And.intro (by omega) ?_ | refine d1 ?_ | refine d2 ?_ | refine d3 ?_ | refine d4 ?_ | refine go G79r 400 hC (by kernel_rfl) ?_); (conv => whnf)))
      all_goals
        refine ⟨(rowC (gl pts i) (ex.take k) (cops ex (pts.take i))).length, ces, And.intro hrow (by show ((rowC (gl pts i) (ex.take k) (cops ex (pts.take i))).length + 1) * 32 ≤ 140737488355328; omega), fun x m9 hr9 ht9 => ?_⟩
        obtain ⟨xa, xk, rfl⟩ := MRow.sl hr9
        ((try (conv => whnf)); repeat ((first | refine And.intro ?_ True.intro | refine And.intro ⟨by omega, by omega⟩ ?_ | refine ⟨_, (by assumption : RO.c _ _ _ = _), ?_⟩ | refine ⟨_, _, _, (by assumption : (_ : Option Obj) = _), ?_⟩ | refine ⟨_, _, _, (by assumption : RO.c _ _ _ = _), ?_⟩ | refine ⟨_, (by assumption : Row _ _ _ _), ?_⟩ | refine ⟨_, (by assumption : Cell _ _ _ _ _), ?_⟩ | refine ⟨_, _, _, (by assumption : Cell _ _ _ _ _), ?_⟩ | refine ⟨_, Or.inl (by assumption), ?_⟩ | refine ⟨_, _, _, Or.inl (by assumption), ?_⟩ | refine And.intro (ints_one _) ?_ | refine And.intro (by omega) ?_ | refine d1 ?_ | refine d2 ?_ | refine d3 ?_ | refine d4 ?_ | refine go G79r 400 hC (by kernel_rfl) ?_); (conv => whnf)))
        exact halt ⟨_, [(2, 2), (12, 12), (20, 20)], ⟨by simp [sinj], by repeat (first | exact trivial | refine ⟨rfl, ?_⟩ | refine ⟨⟨rfl, rfl⟩, ?_⟩ | refine ⟨⟨rfl, rfl, rfl⟩, ?_⟩ | refine ⟨stepI (by omega), ?_⟩ | refine ⟨by assumption, ?_⟩), by repeat (first | exact trivial | refine ⟨rfl, ?_⟩ | refine ⟨⟨rfl, rfl, rfl⟩, ?_⟩ | refine ⟨by assumption, ?_⟩)⟩, RO.le.refl _, ⟨hr9, ht9, rfl⟩⟩
    rintro x h9 m9 - ⟨hr9, ht9, rfl⟩
    obtain ⟨xa, xk, rfl⟩ := hr9.sl
    have hm9 := ht9.keep hrow hm rfl
    obtain ⟨hsub9, hown9⟩ := ht9.sub hsub hown
    ((try (conv => whnf)); repeat ((first | refine And.intro ?_ True.intro | refine And.intro ⟨by omega, by omega⟩ ?_ | refine ⟨_, (by assumption : RO.c _ _ _ = _), ?_⟩ | refine ⟨_, _, _, (by assumption : (_ : Option Obj) = _), ?_⟩ | refine ⟨_, _, _, (by assumption : RO.c _ _ _ = _), ?_⟩ | refine ⟨_, (by assumption : Row _ _ _ _), ?_⟩ | refine ⟨_, (by assumption : Cell _ _ _ _ _), ?_⟩ | refine ⟨_, _, _, (by assumption : Cell _ _ _ _ _), ?_⟩ | refine ⟨_, Or.inl (by assumption), ?_⟩ | refine ⟨_, _, _, Or.inl (by assumption), ?_⟩ | refine And.intro (ints_one _) ?_ | refine And.intro (by omega) ?_ | refine d1 ?_ | refine d2 ?_ | refine d3 ?_ | refine d4 ?_ | refine go G79 400 hC (by kernel_rfl) ?_); (conv => whnf)))
    refine ⟨?_, ?_⟩ <;> ((try (conv => whnf)); repeat ((first | refine And.intro ?_ True.intro | refine And.intro ⟨by omega, by omega⟩ ?_ | refine ⟨_, (by assumption : RO.c _ _ _ = _), ?_⟩ | refine ⟨_, _, _, (by assumption : (_ : Option Obj) = _), ?_⟩ | refine ⟨_, _, _, (by assumption : RO.c _ _ _ = _), ?_⟩ | refine ⟨_, (by assumption : Row _ _ _ _), ?_⟩ | refine ⟨_, (by assumption : Cell _ _ _ _ _), ?_⟩ | refine ⟨_, _, _, (by assumption : Cell _ _ _ _ _), ?_⟩ | refine ⟨_, Or.inl (by assumption), ?_⟩ | refine ⟨_, _, _, Or.inl (by assumption), ?_⟩ | refine And.intro (ints_one _) ?_ | refine And.intro (by omega) ?_ | refine d1 ?_ | refine d2 ?_ | refine d3 ?_ | refine d4 ?_ | refine go G79 400 hC (by kernel_rfl) ?_); (conv => whnf)))
    all_goals
      refine ⟨es, ck, _, F, ⟨hm9, keyA, hO.r, hka⟩, fun es' ck' hr' => ?_⟩
      have hm1 := ((hO.upd ιA_inj (x := kc (cpAt (gl pts i) (gd ex k))) hr').x (clock := ck') m9 bm).congr (fun s => numF_snoc hlit hlit0 hcx s)
      have hadd : addC (rowC (gl pts i) (ex.take k) (cops ex (pts.take i))) (cpAt (gl pts i) (gd ex k)) = rowC (gl pts i) (ex.take k) (cops ex (pts.take i)) ++ [cpAt (gl pts i) (gd ex k)] := by rw [addC, hcx]
      have hbn : ∀ b, Value.ownBlock (.slice xa ((rowC (gl pts i) (ex.take k) (cops ex (pts.take i))).length + 1) xk) = some b → b ≠ bm := fun b e e' => by
        rcases hr9.2 with ⟨_, hn⟩ | ⟨g, cap, cur, e2, e3, _⟩
        · omega
        · rw [e2] at e; simp [Value.ownBlock] at e; subst e; subst e'; rw [hm9] at e3; cases e3
      have hrow9 : MRow (m9.set bm (.map es' ck')) 72 2 (.slice xa ((rowC (gl pts i) (ex.take k) (cops ex (pts.take i))).length + 1) xk) ((rowC (gl pts i) (ex.take k) (cops ex (pts.take i))).length + 1) (ces ++ [.int .i64 (gd ex k).1, .slice sa (wit (gl pts i) (gd ex k).2).length sc]) := hr9.set hbn _
      ((try (conv => whnf)); repeat ((first | refine And.intro ?_ True.intro | refine And.intro ⟨by omega, by omega⟩ ?_ | refine ⟨_, (by assumption : RO.c _ _ _ = _), ?_⟩ | refine ⟨_, _, _, (by assumption : (_ : Option Obj) = _), ?_⟩ | refine ⟨_, _, _, (by assumption : RO.c _ _ _ = _), ?_⟩ | refine ⟨_, (by assumption : Row _ _ _ _), ?_⟩ | refine ⟨_, (by assumption : Cell _ _ _ _ _), ?_⟩ | refine ⟨_, _, _, (by assumption : Cell _ _ _ _ _), ?_⟩ | refine ⟨_, Or.inl (by assumption), ?_⟩ | refine ⟨_, _, _, Or.inl (by assumption), ?_⟩ | refine And.intro (ints_one _) ?_ | refine And.intro (by omega) ?_ | refine d1 ?_ | refine d2 ?_ | refine d3 ?_ | refine d4 ?_ | refine go G79 400 hC (by kernel_rfl) ?_); (conv => whnf)))
      refine halt ⟨(k + 1, .slice xa ((rowC (gl pts i) (ex.take k) (cops ex (pts.take i))).length + 1) xk), [(2, 2), (20, 20)], ⟨by simp [sinj], by repeat (first | exact trivial | refine ⟨rfl, ?_⟩ | refine ⟨⟨rfl, rfl⟩, ?_⟩ | refine ⟨⟨rfl, rfl, rfl⟩, ?_⟩ | refine ⟨stepI (by omega), ?_⟩ | refine ⟨by assumption, ?_⟩), by repeat (first | exact trivial | refine ⟨rfl, ?_⟩ | refine ⟨⟨rfl, rfl, rfl⟩, ?_⟩ | refine ⟨by assumption, ?_⟩)⟩, hle8', ⟨hlt2, hle4.trans hle8', ?_⟩, by dsimp only; omega⟩
      rw [hnx, hadd]
      exact ⟨hsub9.fresh f1 _, hm1, ⟨_, by rw [List.length_append]; exact hrow9, CpRow.snoc hrow.1 (hcp.mono hle8') (hs.mono hle8)⟩, hown9⟩
end Go.Proofs.YtoefoaabnjeofaaGreat
namespace Go.Proofs.YtoefoaabnjeofaaGreat
open Go.SX
set_option maxHeartbeats 4000000
set_option maxRecDepth 20000
def G28 : Gv := ⟨[], [], []⟩
theorem copies_spec {u v w r : Value} {univ : List Int} {ex : List (Int × List Int)} {cls pts : List (List Int)} {h : RO} {m : Hp} (ha : IntS h u univ) (hb : DepS h v ex) (hc : LLS h w cls) (hp : LLS h r pts)
    (hl : univ.length + ex.length ≤ 1000000000) (ht : tot cls ≤ 1000000000000) (hpt : ∀ p ∈ pts, p.length ≤ 1000000000) (hsm : pts.length * ex.length ≤ 65536) :
    Con Tryz.prog 28 [.agg #[u, v, w], r] h m fun e h' m' => (match mayA univ ex cls pts with
      | true => ∃ s, e = .returned (.tuple #[s, .int .i64 0]) ∧ DepS h' s (cops ex pts)
      | false => e = .returned (.tuple #[.slice none 0 0, .int .i64 2])) ∧ m' = m := by
  refine fn_of (nt := 21) T Tryz.func28 rfl (by kernel_rfl) Tryz.ntmps28 (by simp) T_ok T_mixed fun C hC => ?_
  simp only [Tryz.f28, argFr, Nat.zero_add, Nat.reduceAdd] at hC ⊢
  ((try (conv => whnf)); repeat ((first | refine And.intro ?_ True.intro | refine And.intro ⟨by omega, by omega⟩ ?_ | refine ⟨_, (by assumption : RO.c _ _ _ = _), ?_⟩ | refine ⟨_, _, _, (by assumption : (_ : Option Obj) = _), ?_⟩ | refine ⟨_, _, _, (by assumption : RO.c _ _ _ = _), ?_⟩ | refine ⟨_, (by assumption : Row _ _ _ _), ?_⟩ | refine ⟨_, (by assumption : Cell _ _ _ _ _), ?_⟩ | refine ⟨_, _, _, (by assumption : Cell _ _ _ _ _), ?_⟩ | refine ⟨_, Or.inl (by assumption), ?_⟩ | refine ⟨_, _, _, Or.inl (by assumption), ?_⟩ | refine And.intro (ints_one _) ?_ | refine And.intro (by omega) ?_ | refine d1 ?_ | refine d2 ?_ | refine d3 ?_ | refine d4 ?_ | refine go G28 400 hC (by kernel_rfl) ?_); (conv => whnf)))
  refine Con.mono (number_spec ha hb hc hp hl ht hpt hsm) ?_
  rintro _ h2 m2 hle2 ⟨hR, rfl⟩
  cases hq : mayA univ ex cls pts with
  | false =>
    rw [hq] at hR
    subst hR
    ((try (conv => whnf)); repeat ((first | refine And.intro ?_ True.intro | refine And.intro ⟨by omega, by omega⟩ ?_ | refine ⟨_, (by assumption : RO.c _ _ _ = _), ?_⟩ | refine ⟨_, _, _, (by assumption : (_ : Option Obj) = _), ?_⟩ | refine ⟨_, _, _, (by assumption : RO.c _ _ _ = _), ?_⟩ | refine ⟨_, (by assumption : Row _ _ _ _), ?_⟩ | refine ⟨_, (by assumption : Cell _ _ _ _ _), ?_⟩ | refine ⟨_, _, _, (by assumption : Cell _ _ _ _ _), ?_⟩ | refine ⟨_, Or.inl (by assumption), ?_⟩ | refine ⟨_, _, _, Or.inl (by assumption), ?_⟩ | refine And.intro (ints_one _) ?_ | refine And.intro (by omega) ?_ | refine d1 ?_ | refine d2 ?_ | refine d3 ?_ | refine d4 ?_ | refine go G28 400 hC (by kernel_rfl) ?_); (conv => whnf)))
    exact ⟨by rw [hq]; rfl, rfl⟩
  | true =>
    rw [hq] at hR
    obtain ⟨b, rfl, ⟨bm, vc, e3, e4, hd, hm⟩⟩ := hR
    obtain ⟨xa, xk, rfl⟩ := hd.sl
    have e4' : h2.c b (0 + 4) = some (.slice xa (cops ex pts).length xk) := by rw [Nat.zero_add]; exact e4
    ((try (conv => whnf)); repeat ((first | refine And.intro ?_ True.intro | refine And.intro ⟨by omega, by omega⟩ ?_ | refine ⟨_, (by assumption : RO.c _ _ _ = _), ?_⟩ | refine ⟨_, _, _, (by assumption : (_ : Option Obj) = _), ?_⟩ | refine ⟨_, _, _, (by assumption : RO.c _ _ _ = _), ?_⟩ | refine ⟨_, (by assumption : Row _ _ _ _), ?_⟩ | refine ⟨_, (by assumption : Cell _ _ _ _ _), ?_⟩ | refine ⟨_, _, _, (by assumption : Cell _ _ _ _ _), ?_⟩ | refine ⟨_, Or.inl (by assumption), ?_⟩ | refine ⟨_, _, _, Or.inl (by assumption), ?_⟩ | refine And.intro (ints_one _) ?_ | refine And.intro (by omega) ?_ | refine d1 ?_ | refine d2 ?_ | refine d3 ?_ | refine d4 ?_ | refine go G28 400 hC (by kernel_rfl) ?_); (conv => whnf)))
    exact ⟨by rw [hq]; exact ⟨_, rfl, hd⟩, rfl⟩
end Go.Proofs.YtoefoaabnjeofaaGreat
namespace Go.Proofs.YtoefoaabnjeofaaGreat
open Go.SX
set_option maxHeartbeats 4000000
set_option maxRecDepth 20000
/-! ### slices.Index, Contains, Clone; sat.May -/
def idxI (l : List Int) (x : Int) : Int := match l.contains x with | true => (l.idxOf x : Int) | false => -1
theorem idxOf_first {l : List Int} {x : Int} {i : Nat} (hi : i < l.length) (he : g l i = x) (hn : ∀ j, j < i → g l j ≠ x) : l.idxOf x = i := by
  induction l generalizing i with
  | nil => simp at hi
  | cons a l ih =>
    cases i with
    | zero => simp [g] at he; simp [he]
    | succ i =>
      have h0 : a ≠ x := by have := hn 0 (by omega); simpa [g] using this
      rw [List.idxOf_cons]
      rw [show (a == x) = false by simpa using h0]
      simp only [cond_false]
      rw [ih (i := i) (by simpa using hi) (by simpa [g] using he) (fun j hj => by have := hn (j + 1) (by omega); simpa [g] using this)]
def G182 : Gv := ⟨[], [], []⟩
theorem index_spec {u : Value} {l : List Int} {x : Int} {h : RO} {m : Hp} (ha : IntS h u l) :
    Con Tryz.prog 182 [u, .int .i64 x] h m fun e h' m' => e = .returned (.int .i64 (idxI l x)) ∧ h' = h ∧ m' = m := by
  obtain ⟨a, c, rfl, hr⟩ := ha.s
  have hla := ha.len
  refine fn_of (nt := 19) T Tryz.func182 rfl (by kernel_rfl) Tryz.ntmps182 (by simp) T_ok T_mixed fun C hC => ?_
  simp only [Tryz.f182, argFr, Nat.zero_add, Nat.reduceAdd] at hC ⊢
  ((try (conv => whnf)); repeat ((first | refine And.intro ?_ True.intro | refine And.intro ⟨by omega, by omega⟩ ?_ | refine ⟨_, (by assumption : RO.c _ _ _ = _), ?_⟩ | refine ⟨_, _, _, (by assumption : (_ : Option Obj) = _), ?_⟩ | refine ⟨_, _, _, (by assumption : RO.c _ _ _ = _), ?_⟩ | refine ⟨_, (by assumption : Row _ _ _ _), ?_⟩ | refine ⟨_, (by assumption : Cell _ _ _ _ _), ?_⟩ | refine ⟨_, _, _, (by assumption : Cell _ _ _ _ _), ?_⟩ | refine ⟨_, Or.inl (by assumption), ?_⟩ | refine ⟨_, _, _, Or.inl (by assumption), ?_⟩ | refine And.intro (ints_one _) ?_ | refine And.intro (by omega) ?_ | refine d1 ?_ | refine d2 ?_ | refine d3 ?_ | refine d4 ?_ | refine go G182 400 hC (by kernel_rfl) ?_); (conv => whnf)))
  refine halt (sx_loopK (X := Nat) [0, 1, 7] (fun i => [(8, .v (.int .i64 i))]) (fun _ => [])
    (fun i h' m' => i ≤ l.length ∧ (∀ j, j < i → g l j ≠ x) ∧ h' = h ∧ m' = m) (fun i => l.length - i) 0 (by repeat (first | exact Keep.nil | apply Keep.cons rfl | apply Keep.skip rfl)) ⟨[], ⟨by simp [sinj], by repeat (first | exact trivial | refine ⟨rfl, ?_⟩ | refine ⟨⟨rfl, rfl⟩, ?_⟩ | refine ⟨⟨rfl, rfl, rfl⟩, ?_⟩ | refine ⟨stepI (by omega), ?_⟩ | refine ⟨by assumption, ?_⟩), by repeat (first | exact trivial | refine ⟨rfl, ?_⟩ | refine ⟨⟨rfl, rfl, rfl⟩, ?_⟩ | refine ⟨by assumption, ?_⟩)⟩⟩ ⟨by omega, by simp, rfl, rfl⟩ ?_)
  rintro i h' m' - ⟨hi, hn, rfl, rfl⟩
  ((try (conv => whnf)); repeat ((first | refine And.intro ?_ True.intro | refine And.intro ⟨by omega, by omega⟩ ?_ | refine ⟨_, (by assumption : RO.c _ _ _ = _), ?_⟩ | refine ⟨_, _, _, (by assumption : (_ : Option Obj) = _), ?_⟩ | refine ⟨_, _, _, (by assumption : RO.c _ _ _ = _), ?_⟩ | refine ⟨_, (by assumption : Row _ _ _ _), ?_⟩ | refine ⟨_, (by assumption : Cell _ _ _ _ _), ?_⟩ | refine ⟨_, _, _, (by assumption : Cell _ _ _ _ _), ?_⟩ | refine ⟨_, Or.inl (by assumption), ?_⟩ | refine ⟨_, _, _, Or.inl (by assumption), ?_⟩ | refine And.intro (ints_one _) ?_ | refine And.intro (by omega) ?_ | refine d1 ?_ | refine d2 ?_ | refine d3 ?_ | refine d4 ?_ | refine go G182 400 hC (by kernel_rfl) ?_); (conv => whnf)))
  refine ⟨fun hlt => ?_, fun hge => ?_⟩
  · have hlt : i < l.length := by simpa using hlt
    obtain ⟨p, q, rfl, hc⟩ := ha.get hlt
    have c1 := hc i hlt
    ((try (conv => whnf)); repeat ((first | refine And.intro ?_ True.intro | refine And.intro ⟨by omega, by omega⟩ ?_ | refine ⟨_, (by assumption : RO.c _ _ _ = _), ?_⟩ | refine ⟨_, _, _, (by assumption : (_ : Option Obj) = _), ?_⟩ | refine ⟨_, _, _, (by assumption : RO.c _ _ _ = _), ?_⟩ | refine ⟨_, (by assumption : Row _ _ _ _), ?_⟩ | refine ⟨_, (by assumption : Cell _ _ _ _ _), ?_⟩ | refine ⟨_, _, _, (by assumption : Cell _ _ _ _ _), ?_⟩ | refine ⟨_, Or.inl (by assumption), ?_⟩ | refine ⟨_, _, _, Or.inl (by assumption), ?_⟩ | refine And.intro (ints_one _) ?_ | refine And.intro (by omega) ?_ | refine d1 ?_ | refine d2 ?_ | refine d3 ?_ | refine d4 ?_ | refine go G182 400 hC (by kernel_rfl) ?_); (conv => whnf)))
    refine ⟨fun he => ?_, fun he => ?_⟩ <;> ((try (conv => whnf)); repeat ((first | refine And.intro ?_ True.intro | refine And.intro ⟨by omega, by omega⟩ ?_ | refine ⟨_, (by assumption : RO.c _ _ _ = _), ?_⟩ | refine ⟨_, _, _, (by assumption : (_ : Option Obj) = _), ?_⟩ | refine ⟨_, _, _, (by assumption : RO.c _ _ _ = _), ?_⟩ | refine ⟨_, (by assumption : Row _ _ _ _), ?_⟩ | refine ⟨_, (by assumption : Cell _ _ _ _ _), ?_⟩ | refine ⟨_, _, _, (by assumption : Cell _ _ _ _ _), ?_⟩ | refine ⟨_, Or.inl (by assumption), ?_⟩ | refine ⟨_, _, _, Or.inl (by assumption), ?_⟩ | refine And.intro (ints_one _) ?_ | refine And.intro (by omega) ?_ | refine d1 ?_ | refine d2 ?_ | refine d3 ?_ | refine d4 ?_ | refine go G182 400 hC (by kernel_rfl) ?_); (conv => whnf)))
    · have he : g l i = x := by have : x = g l i := by simpa using he
                                exact this.symm
      refine ⟨?_, rfl, rfl⟩
      have h1 : l.contains x = true := by simpa using he ▸ g_mem hlt
      have h2 : idxI l x = i := by rw [idxI, h1, idxOf_first hlt he hn]
      rw [h2]; rfl
    · have he : g l i ≠ x := by have : x ≠ g l i := by simpa using he
                                exact this.symm
      exact halt ⟨i + 1, [], ⟨by simp [sinj], by repeat (first | exact trivial | refine ⟨rfl, ?_⟩ | refine ⟨⟨rfl, rfl⟩, ?_⟩ | refine ⟨⟨rfl, rfl, rfl⟩, ?_⟩ | refine ⟨stepI (by omega), ?_⟩ | refine ⟨by assumption, ?_⟩), by repeat (first | exact trivial | refine ⟨rfl, ?_⟩ | refine ⟨⟨rfl, rfl, rfl⟩, ?_⟩ | refine ⟨by assumption, ?_⟩)⟩, RO.le.refl _, ⟨hlt, fun j hj => by
        by_cases e : j = i
        · exact e ▸ he
        · exact hn j (by omega), rfl, rfl⟩, by omega⟩
  · have hge : i = l.length := by simp at hge; omega
    ((try (conv => whnf)); repeat ((first | refine And.intro ?_ True.intro | refine And.intro ⟨by omega, by omega⟩ ?_ | refine ⟨_, (by assumption : RO.c _ _ _ = _), ?_⟩ | refine ⟨_, _, _, (by assumption : (_ : Option Obj) = _), ?_⟩ | refine ⟨_, _, _, (by assumption : RO.c _ _ _ = _), ?_⟩ | refine ⟨_, (by assumption : Row _ _ _ _), ?_⟩ | refine ⟨_, (by assumption : Cell _ _ _ _ _), ?_⟩ | refine ⟨_, _, _, (by assumption : Cell _ _ _ _ _), ?_⟩ | refine ⟨_, Or.inl (by assumption), ?_⟩ | refine ⟨_, _, _, Or.inl (by assumption), ?_⟩ | refine And.intro (ints_one _) ?_ | refine And.intro (by omega) ?_ | refine d1 ?_ | refine d2 ?_ | refine d3 ?_ | refine d4 ?_ | refine go G182 400 hC (by kernel_rfl) ?_); (conv => whnf)))
    refine ⟨?_, rfl, rfl⟩
    have h1 : l.contains x = false := notMem fun k hk => hn k (by omega)
    rw [idxI, h1]; rfl
def G97 : Gv := ⟨[], [], []⟩
theorem contains_spec {u : Value} {l : List Int} {x : Int} {h : RO} {m : Hp} (ha : IntS h u l) :
    Con Tryz.prog 97 [u, .int .i64 x] h m fun e h' m' => e = .returned (.bool (l.contains x)) ∧ h' = h ∧ m' = m := by
  refine fn_of (nt := 9) T Tryz.func97 rfl (by kernel_rfl) Tryz.ntmps97 (by simp) T_ok T_mixed fun C hC => ?_
  simp only [Tryz.f97, argFr, Nat.zero_add, Nat.reduceAdd] at hC ⊢
  ((try (conv => whnf)); repeat ((first | refine And.intro ?_ True.intro | refine And.intro ⟨by omega, by omega⟩ ?_ | refine ⟨_, (by assumption : RO.c _ _ _ = _), ?_⟩ | refine ⟨_, _, _, (by assumption : (_ : Option Obj) = _), ?_⟩ | refine ⟨_, _, _, (by assumption : RO.c _ _ _ = _), ?_⟩ | refine ⟨_, (by assumption : Row _ _ _ _), ?_⟩ | refine ⟨_, (by assumption : Cell _ _ _ _ _), ?_⟩ | refine ⟨_, _, _, (by assumption : Cell _ _ _ _ _), ?_⟩ | refine ⟨_, Or.inl (by assumption), ?_⟩ | refine ⟨_, _, _, Or.inl (by assumption), ?_⟩ | refine And.intro (ints_one _) ?_ | refine And.intro (by omega) ?_ | refine d1 ?_ | refine d2 ?_ | refine d3 ?_ | refine d4 ?_ | refine go G97 400 hC (by kernel_rfl) ?_); (conv => whnf)))
  (refine Con.mono (index_spec ha) ?_; rintro _ _ _ - ⟨rfl, rfl, rfl⟩; ((try (conv => whnf)); repeat ((first | refine And.intro ?_ True.intro | refine And.intro ⟨by omega, by omega⟩ ?_ | refine ⟨_, (by assumption : RO.c _ _ _ = _), ?_⟩ | refine ⟨_, _, _, (by assumption : (_ : Option Obj) = _), ?_⟩ | refine ⟨_, _, _, (by assumption : RO.c _ _ _ = _), ?_⟩ | refine ⟨_, (by assumption : Row _ _ _ _), ?_⟩ | refine ⟨_, (by assumption : Cell _ _ _ _ _), ?_⟩ | refine ⟨_, _, _, (by assumption : Cell _ _ _ _ _), ?_⟩ | refine ⟨_, Or.inl (by assumption), ?_⟩ | refine ⟨_, _, _, Or.inl (by assumption), ?_⟩ | refine And.intro (ints_one _) ?_ | refine And.intro (by omega) ?_ | refine d1 ?_ | refine d2 ?_ | refine d3 ?_ | refine d4 ?_ | refine go G97 400 hC (by kernel_rfl) ?_); (conv => whnf))))
  refine ⟨?_, rfl, rfl⟩
  have : decide (idxI l x ≥ 0) = l.contains x := by
    unfold idxI
    cases l.contains x <;> simp <;> omega
  rw [← this]; rfl
def G135 : Gv := ⟨[], [], []⟩
theorem clone_spec {u : Value} {l : List Int} {h : RO} {m : Hp} (ha : IntS h u l) :
    Con Tryz.prog 135 [u] h m fun e h' m' => (∃ s, e = .returned s ∧ IntS h' s l) ∧ m' = m := by
  obtain ⟨a, c, rfl, hr⟩ := ha.s
  have hla := ha.len
  refine fn_of (nt := 8) T Tryz.func135 rfl (by kernel_rfl) Tryz.ntmps135 (by simp) T_ok T_mixed fun C hC => ?_
  simp only [Tryz.f135, argFr, Nat.zero_add, Nat.reduceAdd] at hC ⊢
  ((try (conv => whnf)); repeat ((first | refine And.intro ?_ True.intro | refine And.intro ⟨by omega, by omega⟩ ?_ | refine ⟨_, (by assumption : RO.c _ _ _ = _), ?_⟩ | refine ⟨_, _, _, (by assumption : (_ : Option Obj) = _), ?_⟩ | refine ⟨_, _, _, (by assumption : RO.c _ _ _ = _), ?_⟩ | refine ⟨_, (by assumption : Row _ _ _ _), ?_⟩ | refine ⟨_, (by assumption : Cell _ _ _ _ _), ?_⟩ | refine ⟨_, _, _, (by assumption : Cell _ _ _ _ _), ?_⟩ | refine ⟨_, Or.inl (by assumption), ?_⟩ | refine ⟨_, _, _, Or.inl (by assumption), ?_⟩ | refine And.intro (ints_one _) ?_ | refine And.intro (by omega) ?_ | refine d1 ?_ | refine d2 ?_ | refine d3 ?_ | refine d4 ?_ | refine go G135 400 hC (by kernel_rfl) ?_); (conv => whnf)))
  cases a with
  | none =>
    have h0 : l = [] := by
      obtain ⟨a', n', c', e, e1, e2, e3⟩ := hr
      cases e
      rcases e3 with ⟨e3, _⟩ | ⟨b, off, e, _⟩
      · simpa using e3
      · cases e
    subst h0
    ((try (conv => whnf)); repeat ((first | refine And.intro ?_ True.intro | refine And.intro ⟨by omega, by omega⟩ ?_ | refine ⟨_, (by assumption : RO.c _ _ _ = _), ?_⟩ | refine ⟨_, _, _, (by assumption : (_ : Option Obj) = _), ?_⟩ | refine ⟨_, _, _, (by assumption : RO.c _ _ _ = _), ?_⟩ | refine ⟨_, (by assumption : Row _ _ _ _), ?_⟩ | refine ⟨_, (by assumption : Cell _ _ _ _ _), ?_⟩ | refine ⟨_, _, _, (by assumption : Cell _ _ _ _ _), ?_⟩ | refine ⟨_, Or.inl (by assumption), ?_⟩ | refine ⟨_, _, _, Or.inl (by assumption), ?_⟩ | refine And.intro (ints_one _) ?_ | refine And.intro (by omega) ?_ | refine d1 ?_ | refine d2 ?_ | refine d3 ?_ | refine d4 ?_ | refine go G135 400 hC (by kernel_rfl) ?_); (conv => whnf)))
    exact ⟨⟨_, rfl, IntS.nil _⟩, rfl⟩
  | some a =>
    ((try (conv => whnf)); repeat ((first | refine And.intro ?_ True.intro | refine And.intro ⟨by omega, by omega⟩ ?_ | refine ⟨_, (by assumption : RO.c _ _ _ = _), ?_⟩ | refine ⟨_, _, _, (by assumption : (_ : Option Obj) = _), ?_⟩ | refine ⟨_, _, _, (by assumption : RO.c _ _ _ = _), ?_⟩ | refine ⟨_, (by assumption : Row _ _ _ _), ?_⟩ | refine ⟨_, (by assumption : Cell _ _ _ _ _), ?_⟩ | refine ⟨_, _, _, (by assumption : Cell _ _ _ _ _), ?_⟩ | refine ⟨_, Or.inl (by assumption), ?_⟩ | refine ⟨_, _, _, Or.inl (by assumption), ?_⟩ | refine And.intro (ints_one _) ?_ | refine And.intro (by omega) ?_ | refine d1 ?_ | refine d2 ?_ | refine d3 ?_ | refine d4 ?_ | refine go G135 400 hC (by kernel_rfl) ?_); (conv => whnf)))
    refine ⟨by show (0 + l.length) * 8 ≤ 140737488355328; omega, fun a1 c1 h1 hle1 hr1 => ?_⟩
    change Row h1 1 (.slice a1 (0 + l.length) c1) ([] ++ ints l) at hr1
    rw [List.nil_append, Nat.zero_add] at hr1
    ((try (conv => whnf)); repeat ((first | refine And.intro ?_ True.intro | refine And.intro ⟨by omega, by omega⟩ ?_ | refine ⟨_, (by assumption : RO.c _ _ _ = _), ?_⟩ | refine ⟨_, _, _, (by assumption : (_ : Option Obj) = _), ?_⟩ | refine ⟨_, _, _, (by assumption : RO.c _ _ _ = _), ?_⟩ | refine ⟨_, (by assumption : Row _ _ _ _), ?_⟩ | refine ⟨_, (by assumption : Cell _ _ _ _ _), ?_⟩ | refine ⟨_, _, _, (by assumption : Cell _ _ _ _ _), ?_⟩ | refine ⟨_, Or.inl (by assumption), ?_⟩ | refine ⟨_, _, _, Or.inl (by assumption), ?_⟩ | refine And.intro (ints_one _) ?_ | refine And.intro (by omega) ?_ | refine d1 ?_ | refine d2 ?_ | refine d3 ?_ | refine d4 ?_ | refine go G135 400 hC (by kernel_rfl) ?_); (conv => whnf)))
    exact ⟨⟨_, rfl, ⟨⟨a1, c1, by rw [Nat.zero_add]; rfl, hr1⟩, ha.len, ha.rng⟩⟩, rfl⟩
def G199 : Gv := ⟨[], [], []⟩
theorem svar_spec {x : Int} {h : RO} {m : Hp} : Con Tryz.prog 199 [.int .i64 x] h m fun e h' m' => e = .returned (.int .i64 (pabs x)) ∧ h' = h ∧ m' = m := by
  refine fn_of (nt := 7) T Tryz.func199 rfl (by kernel_rfl) Tryz.ntmps199 (by simp) T_ok T_mixed fun C hC => ?_
  simp only [Tryz.f199, argFr, Nat.zero_add, Nat.reduceAdd] at hC ⊢
  ((try (conv => whnf)); repeat ((first | refine And.intro ?_ True.intro | refine And.intro ⟨by omega, by omega⟩ ?_ | refine ⟨_, (by assumption : RO.c _ _ _ = _), ?_⟩ | refine ⟨_, _, _, (by assumption : (_ : Option Obj) = _), ?_⟩ | refine ⟨_, _, _, (by assumption : RO.c _ _ _ = _), ?_⟩ | refine ⟨_, (by assumption : Row _ _ _ _), ?_⟩ | refine ⟨_, (by assumption : Cell _ _ _ _ _), ?_⟩ | refine ⟨_, _, _, (by assumption : Cell _ _ _ _ _), ?_⟩ | refine ⟨_, Or.inl (by assumption), ?_⟩ | refine ⟨_, _, _, Or.inl (by assumption), ?_⟩ | refine And.intro (ints_one _) ?_ | refine And.intro (by omega) ?_ | refine d1 ?_ | refine d2 ?_ | refine d3 ?_ | refine d4 ?_ | refine go G199 400 hC (by kernel_rfl) ?_); (conv => whnf)))
  exact ⟨rfl, rfl, rfl⟩
def okV (l : List Int) (i : Nat) : Bool := !(decide (pabs (g l i) ≤ lastA l i) || decide (pabs (g l i) > 65536))
def pnormal (l : List Int) : Bool := allN l.length (okV l)
def G169 : Gv := ⟨[], [], []⟩
theorem snormal_spec {u : Value} {l : List Int} {h : RO} {m : Hp} (ha : IntS h u l) :
    Con Tryz.prog 169 [u] h m fun e h' m' => e = .returned (.bool (pnormal l)) ∧ h' = h ∧ m' = m := by
  obtain ⟨a, c, rfl, hr⟩ := ha.s
  have hla := ha.len
  refine fn_of (nt := 24) T Tryz.func169 rfl (by kernel_rfl) Tryz.ntmps169 (by simp) T_ok T_mixed fun C hC => ?_
  simp only [Tryz.f169, argFr, Nat.zero_add, Nat.reduceAdd] at hC ⊢
  ((try (conv => whnf)); repeat ((first | refine And.intro ?_ True.intro | refine And.intro ⟨by omega, by omega⟩ ?_ | refine ⟨_, (by assumption : RO.c _ _ _ = _), ?_⟩ | refine ⟨_, _, _, (by assumption : (_ : Option Obj) = _), ?_⟩ | refine ⟨_, _, _, (by assumption : RO.c _ _ _ = _), ?_⟩ | refine ⟨_, (by assumption : Row _ _ _ _), ?_⟩ | refine ⟨_, (by assumption : Cell _ _ _ _ _), ?_⟩ | refine ⟨_, _, _, (by assumption : Cell _ _ _ _ _), ?_⟩ | refine ⟨_, Or.inl (by assumption), ?_⟩ | refine ⟨_, _, _, Or.inl (by assumption), ?_⟩ | refine And.intro (ints_one _) ?_ | refine And.intro (by omega) ?_ | refine d1 ?_ | refine d2 ?_ | refine d3 ?_ | refine d4 ?_ | refine go G169 400 hC (by kernel_rfl) ?_); (conv => whnf)))
  refine halt (sx_loopK (X := Nat) [7, 8] (fun i => [(9, .v (.int .i64 i)), (3, .v (.int .i64 (lastA l i)))]) (fun _ => [])
    (fun i h' m' => i ≤ l.length ∧ (∀ j, j < i → okV l j = true) ∧ h' = h ∧ m' = m) (fun i => l.length - i) 0 (by repeat (first | exact Keep.nil | apply Keep.cons rfl | apply Keep.skip rfl)) ⟨[], ⟨by simp [sinj], by repeat (first | exact trivial | refine ⟨rfl, ?_⟩ | refine ⟨⟨rfl, rfl⟩, ?_⟩ | refine ⟨⟨rfl, rfl, rfl⟩, ?_⟩ | refine ⟨stepI (by omega), ?_⟩ | refine ⟨by assumption, ?_⟩), by repeat (first | exact trivial | refine ⟨rfl, ?_⟩ | refine ⟨⟨rfl, rfl, rfl⟩, ?_⟩ | refine ⟨by assumption, ?_⟩)⟩⟩ ⟨by omega, by simp, rfl, rfl⟩ ?_)
  rintro i h' m' - ⟨hi, hn, rfl, rfl⟩
  ((try (conv => whnf)); repeat ((first | refine And.intro ?_ True.intro | refine And.intro ⟨by omega, by omega⟩ ?_ | refine ⟨_, (by assumption : RO.c _ _ _ = _), ?_⟩ | refine ⟨_, _, _, (by assumption : (_ : Option Obj) = _), ?_⟩ | refine ⟨_, _, _, (by assumption : RO.c _ _ _ = _), ?_⟩ | refine ⟨_, (by assumption : Row _ _ _ _), ?_⟩ | refine ⟨_, (by assumption : Cell _ _ _ _ _), ?_⟩ | refine ⟨_, _, _, (by assumption : Cell _ _ _ _ _), ?_⟩ | refine ⟨_, Or.inl (by assumption), ?_⟩ | refine ⟨_, _, _, Or.inl (by assumption), ?_⟩ | refine And.intro (ints_one _) ?_ | refine And.intro (by omega) ?_ | refine d1 ?_ | refine d2 ?_ | refine d3 ?_ | refine d4 ?_ | refine go G169 400 hC (by kernel_rfl) ?_); (conv => whnf)))
  refine ⟨fun hlt => ?_, fun hge => ?_⟩
  · have hlt : i < l.length := by simpa using hlt
    obtain ⟨p, q, rfl, hc⟩ := ha.get hlt
    have c1 := hc i hlt
    have bad : okV l i = false → Ending.returned (.bool false) = Ending.returned (.bool (pnormal l)) := fun hb => by rw [pnormal, allN_false hlt hb]
    ((try (conv => whnf)); repeat ((first | refine And.intro ?_ True.intro | refine And.intro ⟨by omega, by omega⟩ ?_ | refine ⟨_, (by assumption : RO.c _ _ _ = _), ?_⟩ | refine ⟨_, _, _, (by assumption : (_ : Option Obj) = _), ?_⟩ | refine ⟨_, _, _, (by assumption : RO.c _ _ _ = _), ?_⟩ | refine ⟨_, (by assumption : Row _ _ _ _), ?_⟩ | refine ⟨_, (by assumption : Cell _ _ _ _ _), ?_⟩ | refine ⟨_, _, _, (by assumption : Cell _ _ _ _ _), ?_⟩ | refine ⟨_, Or.inl (by assumption), ?_⟩ | refine ⟨_, _, _, Or.inl (by assumption), ?_⟩ | refine And.intro (ints_one _) ?_ | refine And.intro (by omega) ?_ | refine d1 ?_ | refine d2 ?_ | refine d3 ?_ | refine d4 ?_ | refine go G169 400 hC (by kernel_rfl) ?_); (conv => whnf)))
    (refine Con.mono (svar_spec) ?_; rintro _ _ _ - ⟨rfl, rfl, rfl⟩; ((try (conv => whnf)); repeat ((first | refine And.intro ?_ True.intro | refine And.intro ⟨by omega, by omega⟩ ?_ | refine ⟨_, (by assumption : RO.c _ _ _ = _), ?_⟩ | refine ⟨_, _, _, (by assumption : (_ : Option Obj) = _), ?_⟩ | refine ⟨_, _, _, (by assumption : RO.c _ _ _ = _), ?_⟩ | refine ⟨_, (by assumption : Row _ _ _ _), ?_⟩ | refine ⟨_, (by assumption : Cell _ _ _ _ _), ?_⟩ | refine ⟨_, _, _, (by assumption : Cell _ _ _ _ _), ?_⟩ | refine ⟨_, Or.inl (by assumption), ?_⟩ | refine ⟨_, _, _, Or.inl (by assumption), ?_⟩ | refine And.intro (ints_one _) ?_ | refine And.intro (by omega) ?_ | refine d1 ?_ | refine d2 ?_ | refine d3 ?_ | refine d4 ?_ | refine go G169 400 hC (by kernel_rfl) ?_); (conv => whnf))))
    iterate 2 (all_goals try ((refine ⟨fun _ => ?_, fun _ => ?_⟩) <;> ((try (conv => whnf)); repeat ((first | refine And.intro ?_ True.intro | refine And.intro ⟨by omega, by omega⟩ ?_ | refine ⟨_, (by assumption : RO.c _ _ _ = _), ?_⟩ | refine ⟨_, _, _, (by assumption : (_ : Option Obj) = _), ?_⟩ | refine ⟨_, _, _, (by assumption : RO.c _ _ _ = _), ?_⟩ | refine ⟨_, (by assumption : Row _ _ _ _), ?_⟩ | refine ⟨_, (by assumption : Cell _ _ _ _ _), ?_⟩ | refine ⟨_, _, _, (by assumption : Cell _ _ _ _ _), ?_⟩ | refine ⟨_, Or.inl (by assumption), ?_⟩ | refine ⟨_, _, _, Or.inl (by assumption), ?_⟩ | refine And.intro (ints_one _) ?_ | refine And.intro (by omega) ?_ | refine d1 ?_ | refine d2 ?_ | refine d3 ?_ | refine d4 ?_ | refine go G169 400 hC (by kernel_rfl) ?_); (conv => whnf)))))
    all_goals first
      | exact ⟨bad (by clear hC hn bad hc ha hr c1; simp_all [okV]), rfl, rfl⟩
      | exact halt ⟨i + 1, [], ⟨by simp [sinj], by repeat (first | exact trivial | refine ⟨rfl, ?_⟩ | refine ⟨⟨rfl, rfl⟩, ?_⟩ | refine ⟨⟨rfl, rfl, rfl⟩, ?_⟩ | refine ⟨stepI (by omega), ?_⟩ | refine ⟨by assumption, ?_⟩), by repeat (first | exact trivial | refine ⟨rfl, ?_⟩ | refine ⟨⟨rfl, rfl, rfl⟩, ?_⟩ | refine ⟨by assumption, ?_⟩)⟩, RO.le.refl _, ⟨hlt, allS hn (by clear hC hn bad hc ha hr c1; simp_all [okV]), rfl, rfl⟩, by omega⟩
  · have hge : i = l.length := by simp at hge; omega
    ((try (conv => whnf)); repeat ((first | refine And.intro ?_ True.intro | refine And.intro ⟨by omega, by omega⟩ ?_ | refine ⟨_, (by assumption : RO.c _ _ _ = _), ?_⟩ | refine ⟨_, _, _, (by assumption : (_ : Option Obj) = _), ?_⟩ | refine ⟨_, _, _, (by assumption : RO.c _ _ _ = _), ?_⟩ | refine ⟨_, (by assumption : Row _ _ _ _), ?_⟩ | refine ⟨_, (by assumption : Cell _ _ _ _ _), ?_⟩ | refine ⟨_, _, _, (by assumption : Cell _ _ _ _ _), ?_⟩ | refine ⟨_, Or.inl (by assumption), ?_⟩ | refine ⟨_, _, _, Or.inl (by assumption), ?_⟩ | refine And.intro (ints_one _) ?_ | refine And.intro (by omega) ?_ | refine d1 ?_ | refine d2 ?_ | refine d3 ?_ | refine d4 ?_ | refine go G169 400 hC (by kernel_rfl) ?_); (conv => whnf)))
    exact ⟨by rw [pnormal, allN_true (hge ▸ hn)]; rfl, rfl, rfl⟩
end Go.Proofs.YtoefoaabnjeofaaGreat
namespace Go.Proofs.YtoefoaabnjeofaaGreat
open Go.SX
set_option maxHeartbeats 4000000
set_option maxRecDepth 20000
/-! ### graphs -/
abbrev Pr := Int × Int
def pairs (l : List Pr) : List Value := l.flatMap fun p => [.int .i64 p.1, .int .i64 p.2]
def gp (l : List Pr) (i : Nat) : Pr := l.getD i (0, 0)
theorem gp_get {l : List Pr} {i : Nat} (h : i < l.length) : l[i]? = some (gp l i) := by simp [gp, h]
theorem gp_mem {l : List Pr} {i : Nat} (h : i < l.length) : gp l i ∈ l := List.mem_of_getElem? (gp_get h)
theorem mem_gp {l : List Pr} {x : Pr} (h : x ∈ l) : ∃ i, i < l.length ∧ gp l i = x := by
  obtain ⟨i, hi, e⟩ := List.getElem_of_mem h
  exact ⟨i, hi, by simp [gp, hi, e]⟩
theorem pairs_length (l : List Pr) : (pairs l).length = l.length * 2 := by
  induction l with
  | nil => rfl
  | cons a l ih => simp only [pairs, List.flatMap_cons, List.length_append] at ih ⊢; rw [ih]; simp; omega
theorem pairs_get : ∀ {l : List Pr} {i : Nat}, i < l.length → (pairs l)[i * 2]? = some (.int .i64 (gp l i).1) ∧ (pairs l)[i * 2 + 1]? = some (.int .i64 (gp l i).2)
  | [], i, h => by simp at h
  | a :: l, 0, _ => by simp [pairs, gp]
  | a :: l, i + 1, h => by
    have := pairs_get (l := l) (i := i) (by simpa using h)
    have e1 : (i + 1) * 2 = i * 2 + 2 := by omega
    have e2 : (i + 1) * 2 + 1 = i * 2 + 1 + 2 := by omega
    have e3 : gp (a :: l) (i + 1) = gp l i := by simp [gp]
    have e4 : ∀ j, (pairs (a :: l))[j + 2]? = (pairs l)[j]? := fun j => by simp [pairs]
    rw [e3]; exact ⟨by rw [e1, e4]; exact this.1, by rw [e2, e4]; exact this.2⟩
theorem pairs_append (a b : List Pr) : pairs (a ++ b) = pairs a ++ pairs b := by simp [pairs]
theorem pairs_one (l : List Pr) : ∀ u ∈ pairs l, u.oneCell' = true := by
  intro u hu; simp only [pairs, List.mem_flatMap] at hu; obtain ⟨p, _, hp⟩ := hu; simp at hp; rcases hp with rfl | rfl <;> rfl
/-- A slice of pairs. -/
structure PrS (h : RO) (v : Value) (l : List Pr) : Prop where
  s : ∃ a c, v = .slice a l.length c ∧ Row h 2 (.slice a l.length c) (pairs l)
  len : l.length ≤ 17592186044416
  rng : ∀ p ∈ l, R64 p.1 ∧ R64 p.2
theorem PrS.mono {h h' : RO} {v : Value} {l : List Pr} (r : PrS h v l) (hl : h.le h') : PrS h' v l := ⟨let ⟨a, c, e, q⟩ := r.s; ⟨a, c, e, q.mono' hl⟩, r.len, r.rng⟩
theorem PrS.get {h : RO} {a : Option Addr} {n c : Nat} {l : List Pr} (r : PrS h (.slice a n c) l) {i : Nat} (hi : i < l.length) :
    ∃ b off, a = some ⟨b, off, none⟩ ∧ ∀ j, j < l.length → h.c b (off + j * 2) = some (.int .i64 (gp l j).1) ∧ h.c b (off + j * 2 + 1) = some (.int .i64 (gp l j).2) := by
  obtain ⟨⟨a', c', e, q⟩, _, _⟩ := r
  cases e
  obtain ⟨b, off, e2, hc⟩ := q.cells (by omega)
  exact ⟨b, off, e2, fun j hj => ⟨hc _ _ (pairs_get hj).1, by rw [Nat.add_assoc]; exact hc _ _ (pairs_get hj).2⟩⟩
theorem PrS.sl {h : RO} {v : Value} {l : List Pr} (r : PrS h v l) : ∃ a c, v = .slice a l.length c := let ⟨a, c, e, _⟩ := r.s; ⟨a, c, e⟩
theorem PrS.nil (h : RO) : PrS h (.slice none 0 0) [] := ⟨⟨none, 0, rfl, ⟨none, 0, 0, rfl, rfl, Nat.le_refl _, .inl ⟨rfl, rfl⟩⟩⟩, by simp, by simp⟩

def G230 : Gv := ⟨[], [], []⟩
theorem nodes_spec {a b : Option Addr} {n k c d : Nat} {h : RO} {m : Hp} (hn : n ≤ 17592186044416) (hk : k ≤ 17592186044416) :
    Con Tryz.prog 230 [.agg #[.slice a n c, .slice b k d]] h m fun e h' m' => e = .returned (.int .i64 ((1 + n + k : Nat) : Int)) ∧ h' = h ∧ m' = m := by
  refine fn_of (nt := 11) T Tryz.func230 rfl (by kernel_rfl) Tryz.ntmps230 (by simp) T_ok T_mixed fun C hC => ?_
  simp only [Tryz.f230, argFr, Nat.zero_add, Nat.reduceAdd] at hC ⊢
  ((try (conv => whnf)); repeat ((first | refine And.intro ?_ True.intro | refine And.intro ⟨by omega, by omega⟩ ?_ | refine ⟨_, (by assumption : RO.c _ _ _ = _), ?_⟩ | refine ⟨_, _, _, (by assumption : (_ : Option Obj) = _), ?_⟩ | refine ⟨_, _, _, (by assumption : RO.c _ _ _ = _), ?_⟩ | refine ⟨_, (by assumption : Row _ _ _ _), ?_⟩ | refine ⟨_, (by assumption : Cell _ _ _ _ _), ?_⟩ | refine ⟨_, _, _, (by assumption : Cell _ _ _ _ _), ?_⟩ | refine ⟨_, Or.inl (by assumption), ?_⟩ | refine ⟨_, _, _, Or.inl (by assumption), ?_⟩ | refine And.intro (ints_one _) ?_ | refine And.intro (by omega) ?_ | refine d1 ?_ | refine d2 ?_ | refine d3 ?_ | refine d4 ?_ | refine go G230 400 hC (by kernel_rfl) ?_); (conv => whnf)))
  refine ⟨?_, rfl, rfl⟩
  have : IntKind.i64.wrap (IntKind.i64.wrap (1 + (n : Int)) + (k : Int)) = ((1 + n + k : Nat) : Int) := by
    rw [w64 (x := 1 + (n : Int)) (by omega) (by omega), w64 (by omega) (by omega)]; omega
  rw [← this]; rfl
def isVar (x : Int) : Bool := decide (x ≥ 1) && decide (x ≤ 65536)
def G228 : Gv := ⟨[], [], []⟩
theorem avar_spec {x : Int} {h : RO} {m : Hp} : Con Tryz.prog 228 [.int .i64 x] h m fun e h' m' => e = .returned (.bool (isVar x)) ∧ h' = h ∧ m' = m := by
  refine fn_of (nt := 9) T Tryz.func228 rfl (by kernel_rfl) Tryz.ntmps228 (by simp) T_ok T_mixed fun C hC => ?_
  simp only [Tryz.f228, argFr, Nat.zero_add, Nat.reduceAdd] at hC ⊢
  ((try (conv => whnf)); repeat ((first | refine And.intro ?_ True.intro | refine And.intro ⟨by omega, by omega⟩ ?_ | refine ⟨_, (by assumption : RO.c _ _ _ = _), ?_⟩ | refine ⟨_, _, _, (by assumption : (_ : Option Obj) = _), ?_⟩ | refine ⟨_, _, _, (by assumption : RO.c _ _ _ = _), ?_⟩ | refine ⟨_, (by assumption : Row _ _ _ _), ?_⟩ | refine ⟨_, (by assumption : Cell _ _ _ _ _), ?_⟩ | refine ⟨_, _, _, (by assumption : Cell _ _ _ _ _), ?_⟩ | refine ⟨_, Or.inl (by assumption), ?_⟩ | refine ⟨_, _, _, Or.inl (by assumption), ?_⟩ | refine And.intro (ints_one _) ?_ | refine And.intro (by omega) ?_ | refine d1 ?_ | refine d2 ?_ | refine d3 ?_ | refine d4 ?_ | refine go G228 400 hC (by kernel_rfl) ?_); (conv => whnf)))
  refine ⟨fun hq => ?_, fun hq => ?_⟩ <;> ((try (conv => whnf)); repeat ((first | refine And.intro ?_ True.intro | refine And.intro ⟨by omega, by omega⟩ ?_ | refine ⟨_, (by assumption : RO.c _ _ _ = _), ?_⟩ | refine ⟨_, _, _, (by assumption : (_ : Option Obj) = _), ?_⟩ | refine ⟨_, _, _, (by assumption : RO.c _ _ _ = _), ?_⟩ | refine ⟨_, (by assumption : Row _ _ _ _), ?_⟩ | refine ⟨_, (by assumption : Cell _ _ _ _ _), ?_⟩ | refine ⟨_, _, _, (by assumption : Cell _ _ _ _ _), ?_⟩ | refine ⟨_, Or.inl (by assumption), ?_⟩ | refine ⟨_, _, _, Or.inl (by assumption), ?_⟩ | refine And.intro (ints_one _) ?_ | refine And.intro (by omega) ?_ | refine d1 ?_ | refine d2 ?_ | refine d3 ?_ | refine d4 ?_ | refine go G228 400 hC (by kernel_rfl) ?_); (conv => whnf)))
  · exact ⟨by rw [isVar, hq]; rfl, rfl, rfl⟩
  · exact ⟨by rw [isVar, hq]; rfl, rfl, rfl⟩
def prevI (l : List Int) (k : Nat) : Int := if k = 0 then 0 else g l (k - 1)
def okIn (l : List Int) (i : Nat) : Bool := isVar (g l i) && !decide (g l i ≤ prevI l i)
def ainputs (l : List Int) : Bool := allN l.length (okIn l)
def G286 : Gv := ⟨[], [], []⟩
theorem ainputs_spec {u : Value} {l : List Int} {h : RO} {m : Hp} (ha : IntS h u l) :
    Con Tryz.prog 286 [u] h m fun e h' m' => e = .returned (.bool (ainputs l)) ∧ h' = h ∧ m' = m := by
  obtain ⟨a, c, rfl, hr⟩ := ha.s
  have hla := ha.len
  refine fn_of (nt := 22) T Tryz.func286 rfl (by kernel_rfl) Tryz.ntmps286 (by simp) T_ok T_mixed fun C hC => ?_
  simp only [Tryz.f286, argFr, Nat.zero_add, Nat.reduceAdd] at hC ⊢
  ((try (conv => whnf)); repeat ((first | refine And.intro ?_ True.intro | refine And.intro ⟨by omega, by omega⟩ ?_ | refine ⟨_, (by assumption : RO.c _ _ _ = _), ?_⟩ | refine ⟨_, _, _, (by assumption : (_ : Option Obj) = _), ?_⟩ | refine ⟨_, _, _, (by assumption : RO.c _ _ _ = _), ?_⟩ | refine ⟨_, (by assumption : Row _ _ _ _), ?_⟩ | refine ⟨_, (by assumption : Cell _ _ _ _ _), ?_⟩ | refine ⟨_, _, _, (by assumption : Cell _ _ _ _ _), ?_⟩ | refine ⟨_, Or.inl (by assumption), ?_⟩ | refine ⟨_, _, _, Or.inl (by assumption), ?_⟩ | refine And.intro (ints_one _) ?_ | refine And.intro (by omega) ?_ | refine d1 ?_ | refine d2 ?_ | refine d3 ?_ | refine d4 ?_ | refine go G286 400 hC (by kernel_rfl) ?_); (conv => whnf)))
  refine halt (sx_loopK (X := Nat) [6, 7] (fun i => [(8, .v (.int .i64 i)), (3, .v (.int .i64 (prevI l i)))]) (fun _ => [])
    (fun i h' m' => i ≤ l.length ∧ (∀ j, j < i → okIn l j = true) ∧ h' = h ∧ m' = m) (fun i => l.length - i) 0 (by repeat (first | exact Keep.nil | apply Keep.cons rfl | apply Keep.skip rfl)) ⟨[], ⟨by simp [sinj], by repeat (first | exact trivial | refine ⟨rfl, ?_⟩ | refine ⟨⟨rfl, rfl⟩, ?_⟩ | refine ⟨⟨rfl, rfl, rfl⟩, ?_⟩ | refine ⟨stepI (by omega), ?_⟩ | refine ⟨by assumption, ?_⟩), by repeat (first | exact trivial | refine ⟨rfl, ?_⟩ | refine ⟨⟨rfl, rfl, rfl⟩, ?_⟩ | refine ⟨by assumption, ?_⟩)⟩⟩ ⟨by omega, by simp, rfl, rfl⟩ ?_)
  rintro i h' m' - ⟨hi, hn, rfl, rfl⟩
  ((try (conv => whnf)); repeat ((first | refine And.intro ?_ True.intro | refine And.intro ⟨by omega, by omega⟩ ?_ | refine ⟨_, (by assumption : RO.c _ _ _ = _), ?_⟩ | refine ⟨_, _, _, (by assumption : (_ : Option Obj) = _), ?_⟩ | refine ⟨_, _, _, (by assumption : RO.c _ _ _ = _), ?_⟩ | refine ⟨_, (by assumption : Row _ _ _ _), ?_⟩ | refine ⟨_, (by assumption : Cell _ _ _ _ _), ?_⟩ | refine ⟨_, _, _, (by assumption : Cell _ _ _ _ _), ?_⟩ | refine ⟨_, Or.inl (by assumption), ?_⟩ | refine ⟨_, _, _, Or.inl (by assumption), ?_⟩ | refine And.intro (ints_one _) ?_ | refine And.intro (by omega) ?_ | refine d1 ?_ | refine d2 ?_ | refine d3 ?_ | refine d4 ?_ | refine go G286 400 hC (by kernel_rfl) ?_); (conv => whnf)))
  refine ⟨fun hlt => ?_, fun hge => ?_⟩
  · have hlt : i < l.length := by simpa using hlt
    obtain ⟨p, q, rfl, hc⟩ := ha.get hlt
    have c1 := hc i hlt
    have bad : okIn l i = false → Ending.returned (.bool false) = Ending.returned (.bool (ainputs l)) := fun hb => by rw [ainputs, allN_false hlt hb]
    ((try (conv => whnf)); repeat ((first | refine And.intro ?_ True.intro | refine And.intro ⟨by omega, by omega⟩ ?_ | refine ⟨_, (by assumption : RO.c _ _ _ = _), ?_⟩ | refine ⟨_, _, _, (by assumption : (_ : Option Obj) = _), ?_⟩ | refine ⟨_, _, _, (by assumption : RO.c _ _ _ = _), ?_⟩ | refine ⟨_, (by assumption : Row _ _ _ _), ?_⟩ | refine ⟨_, (by assumption : Cell _ _ _ _ _), ?_⟩ | refine ⟨_, _, _, (by assumption : Cell _ _ _ _ _), ?_⟩ | refine ⟨_, Or.inl (by assumption), ?_⟩ | refine ⟨_, _, _, Or.inl (by assumption), ?_⟩ | refine And.intro (ints_one _) ?_ | refine And.intro (by omega) ?_ | refine d1 ?_ | refine d2 ?_ | refine d3 ?_ | refine d4 ?_ | refine go G286 400 hC (by kernel_rfl) ?_); (conv => whnf)))
    (refine Con.mono (avar_spec) ?_; rintro _ _ _ - ⟨rfl, rfl, rfl⟩; ((try (conv => whnf)); repeat ((first | refine And.intro ?_ True.intro | refine And.intro ⟨by omega, by omega⟩ ?_ | refine ⟨_, (by assumption : RO.c _ _ _ = _), ?_⟩ | refine ⟨_, _, _, (by assumption : (_ : Option Obj) = _), ?_⟩ | refine ⟨_, _, _, (by assumption : RO.c _ _ _ = _), ?_⟩ | refine ⟨_, (by assumption : Row _ _ _ _), ?_⟩ | refine ⟨_, (by assumption : Cell _ _ _ _ _), ?_⟩ | refine ⟨_, _, _, (by assumption : Cell _ _ _ _ _), ?_⟩ | refine ⟨_, Or.inl (by assumption), ?_⟩ | refine ⟨_, _, _, Or.inl (by assumption), ?_⟩ | refine And.intro (ints_one _) ?_ | refine And.intro (by omega) ?_ | refine d1 ?_ | refine d2 ?_ | refine d3 ?_ | refine d4 ?_ | refine go G286 400 hC (by kernel_rfl) ?_); (conv => whnf))))
    iterate 2 (all_goals try ((refine ⟨fun _ => ?_, fun _ => ?_⟩) <;> ((try (conv => whnf)); repeat ((first | refine And.intro ?_ True.intro | refine And.intro ⟨by omega, by omega⟩ ?_ | refine ⟨_, (by assumption : RO.c _ _ _ = _), ?_⟩ | refine ⟨_, _, _, (by assumption : (_ : Option Obj) = _), ?_⟩ | refine ⟨_, _, _, (by assumption : RO.c _ _ _ = _), ?_⟩ | refine ⟨_, (by assumption : Row _ _ _ _), ?_⟩ | refine ⟨_, (by assumption : Cell _ _ _ _ _), ?_⟩ | refine ⟨_, _, _, (by assumption : Cell _ _ _ _ _), ?_⟩ | refine ⟨_, Or.inl (by assumption), ?_⟩ | refine ⟨_, _, _, Or.inl (by assumption), ?_⟩ | refine And.intro (ints_one _) ?_ | refine And.intro (by omega) ?_ | refine d1 ?_ | refine d2 ?_ | refine d3 ?_ | refine d4 ?_ | refine go G286 400 hC (by kernel_rfl) ?_); (conv => whnf)))))
    all_goals first
      | exact ⟨bad (by clear hC hn bad hc ha hr c1; simp_all [okIn]), rfl, rfl⟩
      | exact halt ⟨i + 1, [], ⟨by simp [sinj], by repeat (first | exact trivial | refine ⟨rfl, ?_⟩ | refine ⟨⟨rfl, rfl⟩, ?_⟩ | refine ⟨⟨rfl, rfl, rfl⟩, ?_⟩ | refine ⟨stepI (by omega), ?_⟩ | refine ⟨by assumption, ?_⟩), by repeat (first | exact trivial | refine ⟨rfl, ?_⟩ | refine ⟨⟨rfl, rfl, rfl⟩, ?_⟩ | refine ⟨by assumption, ?_⟩)⟩, RO.le.refl _, ⟨hlt, allS hn (by clear hC hn bad hc ha hr c1; simp_all [okIn]), rfl, rfl⟩, by omega⟩
  · have hge : i = l.length := by simp at hge; omega
    ((try (conv => whnf)); repeat ((first | refine And.intro ?_ True.intro | refine And.intro ⟨by omega, by omega⟩ ?_ | refine ⟨_, (by assumption : RO.c _ _ _ = _), ?_⟩ | refine ⟨_, _, _, (by assumption : (_ : Option Obj) = _), ?_⟩ | refine ⟨_, _, _, (by assumption : RO.c _ _ _ = _), ?_⟩ | refine ⟨_, (by assumption : Row _ _ _ _), ?_⟩ | refine ⟨_, (by assumption : Cell _ _ _ _ _), ?_⟩ | refine ⟨_, _, _, (by assumption : Cell _ _ _ _ _), ?_⟩ | refine ⟨_, Or.inl (by assumption), ?_⟩ | refine ⟨_, _, _, Or.inl (by assumption), ?_⟩ | refine And.intro (ints_one _) ?_ | refine And.intro (by omega) ?_ | refine d1 ?_ | refine d2 ?_ | refine d3 ?_ | refine d4 ?_ | refine go G286 400 hC (by kernel_rfl) ?_); (conv => whnf)))
    exact ⟨by rw [ainputs, allN_true (hge ▸ hn)]; rfl, rfl, rfl⟩
def okAnd (n : Nat) (l : List Pr) (i : Nat) : Bool := !(decide (min (gp l i).1 (gp l i).2 < 0) || decide (max (gp l i).1 (gp l i).2 ≥ ((2 * (1 + n + i) : Nat) : Int)))
/-- What aig.May says. -/
def aigMay (ins : List Int) (ands : List Pr) : Bool := ainputs ins && (!decide (((1 + ins.length + ands.length : Nat) : Int) > 200000) && allN ands.length (okAnd ins.length ands))
def G221 : Gv := ⟨[], [], []⟩
theorem aigMay_spec {u v : Value} {ins : List Int} {ands : List Pr} {h : RO} {m : Hp} (ha : IntS h u ins) (hb : PrS h v ands) :
    Con Tryz.prog 221 [.agg #[u, v]] h m fun e h' m' => e = .returned (.bool (aigMay ins ands)) ∧ m' = m := by
  obtain ⟨a, c, rfl, hr⟩ := ha.s
  obtain ⟨b, d, rfl⟩ := hb.sl
  have hla := ha.len
  have hlb := hb.len
  refine fn_of (nt := 46) T Tryz.func221 rfl (by kernel_rfl) Tryz.ntmps221 (by simp) T_ok T_mixed fun C hC => ?_
  simp only [Tryz.f221, argFr, Nat.zero_add, Nat.reduceAdd] at hC ⊢
  ((try (conv => whnf)); repeat ((first | refine And.intro ?_ True.intro | refine And.intro ⟨by omega, by omega⟩ ?_ | refine ⟨_, (by assumption : RO.c _ _ _ = _), ?_⟩ | refine ⟨_, _, _, (by assumption : (_ : Option Obj) = _), ?_⟩ | refine ⟨_, _, _, (by assumption : RO.c _ _ _ = _), ?_⟩ | refine ⟨_, (by assumption : Row _ _ _ _), ?_⟩ | refine ⟨_, (by assumption : Cell _ _ _ _ _), ?_⟩ | refine ⟨_, _, _, (by assumption : Cell _ _ _ _ _), ?_⟩ | refine ⟨_, Or.inl (by assumption), ?_⟩ | refine ⟨_, _, _, Or.inl (by assumption), ?_⟩ | refine And.intro (ints_one _) ?_ | refine And.intro (by omega) ?_ | refine d1 ?_ | refine d2 ?_ | refine d3 ?_ | refine d4 ?_ | refine go G221 400 hC (by kernel_rfl) ?_); (conv => whnf)))
  (refine Con.mono (ainputs_spec ha) ?_; rintro _ _ _ - ⟨rfl, rfl, rfl⟩; ((try (conv => whnf)); repeat ((first | refine And.intro ?_ True.intro | refine And.intro ⟨by omega, by omega⟩ ?_ | refine ⟨_, (by assumption : RO.c _ _ _ = _), ?_⟩ | refine ⟨_, _, _, (by assumption : (_ : Option Obj) = _), ?_⟩ | refine ⟨_, _, _, (by assumption : RO.c _ _ _ = _), ?_⟩ | refine ⟨_, (by assumption : Row _ _ _ _), ?_⟩ | refine ⟨_, (by assumption : Cell _ _ _ _ _), ?_⟩ | refine ⟨_, _, _, (by assumption : Cell _ _ _ _ _), ?_⟩ | refine ⟨_, Or.inl (by assumption), ?_⟩ | refine ⟨_, _, _, Or.inl (by assumption), ?_⟩ | refine And.intro (ints_one _) ?_ | refine And.intro (by omega) ?_ | refine d1 ?_ | refine d2 ?_ | refine d3 ?_ | refine d4 ?_ | refine go G221 400 hC (by kernel_rfl) ?_); (conv => whnf))))
  refine ⟨fun hq => ?_, fun hq => ?_⟩ <;> ((try (conv => whnf)); repeat ((first | refine And.intro ?_ True.intro | refine And.intro ⟨by omega, by omega⟩ ?_ | refine ⟨_, (by assumption : RO.c _ _ _ = _), ?_⟩ | refine ⟨_, _, _, (by assumption : (_ : Option Obj) = _), ?_⟩ | refine ⟨_, _, _, (by assumption : RO.c _ _ _ = _), ?_⟩ | refine ⟨_, (by assumption : Row _ _ _ _), ?_⟩ | refine ⟨_, (by assumption : Cell _ _ _ _ _), ?_⟩ | refine ⟨_, _, _, (by assumption : Cell _ _ _ _ _), ?_⟩ | refine ⟨_, Or.inl (by assumption), ?_⟩ | refine ⟨_, _, _, Or.inl (by assumption), ?_⟩ | refine And.intro (ints_one _) ?_ | refine And.intro (by omega) ?_ | refine d1 ?_ | refine d2 ?_ | refine d3 ?_ | refine d4 ?_ | refine go G221 400 hC (by kernel_rfl) ?_); (conv => whnf)))
  · refine Con.mono (nodes_spec hla hlb) ?_
    rintro _ h1 m1 - ⟨rfl, rfl, rfl⟩
    ((try (conv => whnf)); repeat ((first | refine And.intro ?_ True.intro | refine And.intro ⟨by omega, by omega⟩ ?_ | refine ⟨_, (by assumption : RO.c _ _ _ = _), ?_⟩ | refine ⟨_, _, _, (by assumption : (_ : Option Obj) = _), ?_⟩ | refine ⟨_, _, _, (by assumption : RO.c _ _ _ = _), ?_⟩ | refine ⟨_, (by assumption : Row _ _ _ _), ?_⟩ | refine ⟨_, (by assumption : Cell _ _ _ _ _), ?_⟩ | refine ⟨_, _, _, (by assumption : Cell _ _ _ _ _), ?_⟩ | refine ⟨_, Or.inl (by assumption), ?_⟩ | refine ⟨_, _, _, Or.inl (by assumption), ?_⟩ | refine And.intro (ints_one _) ?_ | refine And.intro (by omega) ?_ | refine d1 ?_ | refine d2 ?_ | refine d3 ?_ | refine d4 ?_ | refine go G221 400 hC (by kernel_rfl) ?_); (conv => whnf)))
    refine ⟨fun hq2 => ?_, fun hq2 => ?_⟩ <;> ((try (conv => whnf)); repeat ((first | refine And.intro ?_ True.intro | refine And.intro ⟨by omega, by omega⟩ ?_ | refine ⟨_, (by assumption : RO.c _ _ _ = _), ?_⟩ | refine ⟨_, _, _, (by assumption : (_ : Option Obj) = _), ?_⟩ | refine ⟨_, _, _, (by assumption : RO.c _ _ _ = _), ?_⟩ | refine ⟨_, (by assumption : Row _ _ _ _), ?_⟩ | refine ⟨_, (by assumption : Cell _ _ _ _ _), ?_⟩ | refine ⟨_, _, _, (by assumption : Cell _ _ _ _ _), ?_⟩ | refine ⟨_, Or.inl (by assumption), ?_⟩ | refine ⟨_, _, _, Or.inl (by assumption), ?_⟩ | refine And.intro (ints_one _) ?_ | refine And.intro (by omega) ?_ | refine d1 ?_ | refine d2 ?_ | refine d3 ?_ | refine d4 ?_ | refine go G221 400 hC (by kernel_rfl) ?_); (conv => whnf)))
    · exact ⟨by simp only [aigMay, hq2]; simp; rfl, rfl⟩
    have hq : ainputs ins = true := by simpa using hq
    have hgood : (ainputs ins && !decide (((1 + ins.length + ands.length : Nat) : Int) > 200000)) = true := by rw [hq, hq2]; rfl
    have hsz : 1 + ins.length + ands.length ≤ 200000 := by simp at hq2; omega
    refine halt (sx_loopB (X := Nat) [1, 16, 17] [1] (fun i => [(18, .v (.int .i64 i))]) (fun _ => [])
      (fun i h' m' => i ≤ ands.length ∧ (∀ j, j < i → okAnd ins.length ands j = true) ∧ h' = h1 ∧ m' = m1) (fun i => ands.length - i) 0 (by repeat (first | exact Keep.nil | apply Keep.cons rfl | apply Keep.skip rfl)) (by repeat (first | exact KeepB.nil | apply KeepB.cons rfl)) ⟨[(1, 1)], ⟨by simp [sinj], by repeat (first | exact trivial | refine ⟨rfl, ?_⟩ | refine ⟨⟨rfl, rfl⟩, ?_⟩ | refine ⟨⟨rfl, rfl, rfl⟩, ?_⟩ | refine ⟨stepI (by omega), ?_⟩ | refine ⟨by assumption, ?_⟩), by repeat (first | exact trivial | refine ⟨rfl, ?_⟩ | refine ⟨⟨rfl, rfl, rfl⟩, ?_⟩ | refine ⟨by assumption, ?_⟩)⟩⟩ ⟨by omega, by simp, rfl, rfl⟩ ?_)
    rintro i h1 m1 - ⟨hi, hn, rfl, rfl⟩
    ((try (conv => whnf)); repeat ((first | refine And.intro ?_ True.intro | refine And.intro ⟨by omega, by omega⟩ ?_ | refine ⟨_, (by assumption : RO.c _ _ _ = _), ?_⟩ | refine ⟨_, _, _, (by assumption : (_ : Option Obj) = _), ?_⟩ | refine ⟨_, _, _, (by assumption : RO.c _ _ _ = _), ?_⟩ | refine ⟨_, (by assumption : Row _ _ _ _), ?_⟩ | refine ⟨_, (by assumption : Cell _ _ _ _ _), ?_⟩ | refine ⟨_, _, _, (by assumption : Cell _ _ _ _ _), ?_⟩ | refine ⟨_, Or.inl (by assumption), ?_⟩ | refine ⟨_, _, _, Or.inl (by assumption), ?_⟩ | refine And.intro (ints_one _) ?_ | refine And.intro (by omega) ?_ | refine d1 ?_ | refine d2 ?_ | refine d3 ?_ | refine d4 ?_ | refine go G221 400 hC (by kernel_rfl) ?_); (conv => whnf)))
    refine ⟨fun hlt => ?_, fun hge => ?_⟩
    · have hlt : i < ands.length := by simpa using hlt
      obtain ⟨p, q, rfl, hc⟩ := hb.get hlt
      obtain ⟨c1, c2⟩ := hc i hlt
      have hw : IntKind.i64.wrap (2 * IntKind.i64.wrap (IntKind.i64.wrap (1 + (ins.length : Int)) + (i : Int))) = ((2 * (1 + ins.length + i) : Nat) : Int) := by
        rw [w64 (x := 1 + (ins.length : Int)) (by omega) (by omega), w64 (x := 1 + (ins.length : Int) + i) (by omega) (by omega), w64 (by omega) (by omega)]; omega
      have bad : okAnd ins.length ands i = false → Ending.returned (.bool false) = Ending.returned (.bool (aigMay ins ands)) := fun hb => by rw [aigMay, allN_false hlt hb, Bool.and_false, Bool.and_false]
      ((try (conv => whnf)); repeat ((first | refine And.intro ?_ True.intro | refine And.intro ⟨by omega, by omega⟩ ?_ | refine ⟨_, (by assumption : RO.c _ _ _ = _), ?_⟩ | refine ⟨_, _, _, (by assumption : (_ : Option Obj) = _), ?_⟩ | refine ⟨_, _, _, (by assumption : RO.c _ _ _ = _), ?_⟩ | refine ⟨_, (by assumption : Row _ _ _ _), ?_⟩ | refine ⟨_, (by assumption : Cell _ _ _ _ _), ?_⟩ | refine ⟨_, _, _, (by assumption : Cell _ _ _ _ _), ?_⟩ | refine ⟨_, Or.inl (by assumption), ?_⟩ | refine ⟨_, _, _, Or.inl (by assumption), ?_⟩ | refine And.intro (ints_one _) ?_ | refine And.intro (by omega) ?_ | refine d1 ?_ | refine d2 ?_ | refine d3 ?_ | refine d4 ?_ | refine go G221 400 hC (by kernel_rfl) ?_); (conv => whnf)))
      iterate 2 (all_goals try ((refine ⟨fun _ => ?_, fun _ => ?_⟩) <;> ((try (conv => whnf)); repeat ((first | refine And.intro ?_ True.intro | refine And.intro ⟨by omega, by omega⟩ ?_ | refine ⟨_, (by assumption : RO.c _ _ _ = _), ?_⟩ | refine ⟨_, _, _, (by assumption : (_ : Option Obj) = _), ?_⟩ | refine ⟨_, _, _, (by assumption : RO.c _ _ _ = _), ?_⟩ | refine ⟨_, (by assumption : Row _ _ _ _), ?_⟩ | refine ⟨_, (by assumption : Cell _ _ _ _ _), ?_⟩ | refine ⟨_, _, _, (by assumption : Cell _ _ _ _ _), ?_⟩ | refine ⟨_, Or.inl (by assumption), ?_⟩ | refine ⟨_, _, _, Or.inl (by assumption), ?_⟩ | refine And.intro (ints_one _) ?_ | refine And.intro (by omega) ?_ | refine d1 ?_ | refine d2 ?_ | refine d3 ?_ | refine d4 ?_ | refine go G221 400 hC (by kernel_rfl) ?_); (conv => whnf)))))
      all_goals (try rw [hw] at *)
      all_goals first
        | exact ⟨bad (by clear hC hn bad hc ha hr hb c1 c2 hgood; simp_all [okAnd]), rfl⟩
        | exact halt ⟨i + 1, [(1, 1)], ⟨by simp [sinj], by repeat (first | exact trivial | refine ⟨rfl, ?_⟩ | refine ⟨⟨rfl, rfl⟩, ?_⟩ | refine ⟨⟨rfl, rfl, rfl⟩, ?_⟩ | refine ⟨stepI (by omega), ?_⟩ | refine ⟨by assumption, ?_⟩), by repeat (first | exact trivial | refine ⟨rfl, ?_⟩ | refine ⟨⟨rfl, rfl, rfl⟩, ?_⟩ | refine ⟨by assumption, ?_⟩)⟩, RO.le.refl _, ⟨hlt, allS hn (by clear hC hn bad hc ha hr hb c1 c2 hgood; simp_all [okAnd]), rfl, rfl⟩, by omega⟩
    · have hge : i = ands.length := by simp at hge; omega
      ((try (conv => whnf)); repeat ((first | refine And.intro ?_ True.intro | refine And.intro ⟨by omega, by omega⟩ ?_ | refine ⟨_, (by assumption : RO.c _ _ _ = _), ?_⟩ | refine ⟨_, _, _, (by assumption : (_ : Option Obj) = _), ?_⟩ | refine ⟨_, _, _, (by assumption : RO.c _ _ _ = _), ?_⟩ | refine ⟨_, (by assumption : Row _ _ _ _), ?_⟩ | refine ⟨_, (by assumption : Cell _ _ _ _ _), ?_⟩ | refine ⟨_, _, _, (by assumption : Cell _ _ _ _ _), ?_⟩ | refine ⟨_, Or.inl (by assumption), ?_⟩ | refine ⟨_, _, _, Or.inl (by assumption), ?_⟩ | refine And.intro (ints_one _) ?_ | refine And.intro (by omega) ?_ | refine d1 ?_ | refine d2 ?_ | refine d3 ?_ | refine d4 ?_ | refine go G221 400 hC (by kernel_rfl) ?_); (conv => whnf)))
      exact ⟨by rw [aigMay, allN_true (hge ▸ hn), Bool.and_true, hgood]; rfl, rfl⟩
  · exact ⟨by simp at hq; simp [aigMay, hq]; rfl, rfl⟩
end Go.Proofs.YtoefoaabnjeofaaGreat
namespace Go.Proofs.YtoefoaabnjeofaaGreat
open Go.SX
set_option maxHeartbeats 4000000
set_option maxRecDepth 20000
/-! ### makers -/
def G175 : Gv := ⟨[5,7], [], []⟩
theorem clone2m_spec {u : Value} {l : List Pr} {h : RO} {m : Hp} (ha : PrS h u l) (hl : l.length ≤ 1000000000) :
    Con Tryz.prog 175 [u] h m fun e h' m' => ∃ v, e = .returned v ∧ MRow m' 158 2 v l.length (pairs l) ∧ m.sub m' ∧ (∀ g, v.ownBlock = some g → m g = none) ∧ h' = h := by
  obtain ⟨a, c, rfl, hr⟩ := ha.s
  have hla := ha.len
  refine fn_of (nt := 8) T Tryz.func175 rfl (by kernel_rfl) Tryz.ntmps175 (by simp) T_ok T_mixed fun C hC => ?_
  simp only [Tryz.f175, argFr, Nat.zero_add, Nat.reduceAdd] at hC ⊢
  ((try (conv => whnf)); repeat ((first | refine And.intro ?_ True.intro | refine And.intro ⟨by omega, by omega⟩ ?_ | refine ⟨_, (by assumption : RO.c _ _ _ = _), ?_⟩ | refine ⟨_, _, _, (by assumption : (_ : Option Obj) = _), ?_⟩ | refine ⟨_, _, _, (by assumption : RO.c _ _ _ = _), ?_⟩ | refine ⟨_, (by assumption : Row _ _ _ _), ?_⟩ | refine ⟨_, (by assumption : Cell _ _ _ _ _), ?_⟩ | refine ⟨_, _, _, (by assumption : Cell _ _ _ _ _), ?_⟩ | refine ⟨_, Or.inl (by assumption), ?_⟩ | refine ⟨_, _, _, Or.inl (by assumption), ?_⟩ | refine And.intro (ints_one _) ?_ | refine And.intro (by omega) ?_ | refine d1 ?_ | refine d2 ?_ | refine d3 ?_ | refine d4 ?_ | refine go G175 400 hC (by kernel_rfl) ?_); (conv => whnf)))
  cases a with
  | none =>
    have h0 : l = [] := by
      obtain ⟨a', n', c', e, e1, e2, e3⟩ := hr
      cases e
      rcases e3 with ⟨e3, _⟩ | ⟨b, off, e, _⟩
      · simpa using e3
      · cases e
    subst h0
    ((try (conv => whnf)); repeat ((first | refine And.intro ?_ True.intro | refine And.intro ⟨by omega, by omega⟩ ?_ | refine ⟨_, (by assumption : RO.c _ _ _ = _), ?_⟩ | refine ⟨_, _, _, (by assumption : (_ : Option Obj) = _), ?_⟩ | refine ⟨_, _, _, (by assumption : RO.c _ _ _ = _), ?_⟩ | refine ⟨_, (by assumption : Row _ _ _ _), ?_⟩ | refine ⟨_, (by assumption : Cell _ _ _ _ _), ?_⟩ | refine ⟨_, _, _, (by assumption : Cell _ _ _ _ _), ?_⟩ | refine ⟨_, Or.inl (by assumption), ?_⟩ | refine ⟨_, _, _, Or.inl (by assumption), ?_⟩ | refine And.intro (ints_one _) ?_ | refine And.intro (by omega) ?_ | refine d1 ?_ | refine d2 ?_ | refine d3 ?_ | refine d4 ?_ | refine go G175 400 hC (by kernel_rfl) ?_); (conv => whnf)))
    exact ⟨_, rfl, MRow.nil _ _ _, Hp.sub.refl _, (fun g e => (by cases e)), rfl⟩
  | some a =>
    ((try (conv => whnf)); repeat ((first | refine And.intro ?_ True.intro | refine And.intro ⟨by omega, by omega⟩ ?_ | refine ⟨_, (by assumption : RO.c _ _ _ = _), ?_⟩ | refine ⟨_, _, _, (by assumption : (_ : Option Obj) = _), ?_⟩ | refine ⟨_, _, _, (by assumption : RO.c _ _ _ = _), ?_⟩ | refine ⟨_, (by assumption : Row _ _ _ _), ?_⟩ | refine ⟨_, (by assumption : Cell _ _ _ _ _), ?_⟩ | refine ⟨_, _, _, (by assumption : Cell _ _ _ _ _), ?_⟩ | refine ⟨_, Or.inl (by assumption), ?_⟩ | refine ⟨_, _, _, Or.inl (by assumption), ?_⟩ | refine And.intro (ints_one _) ?_ | refine And.intro (by omega) ?_ | refine d1 ?_ | refine d2 ?_ | refine d3 ?_ | refine d4 ?_ | refine go G175 400 hC (by kernel_rfl) ?_); (conv => whnf)))
    intro b f1 f2 f3
    have hr0 : MRow (m.set b (.cells #[] 158)) 158 2 (.slice (some ⟨b, 0, none⟩) 0 0) 0 [] := ⟨rfl, .inr ⟨b, 0, #[], rfl, by simp [Hp.set], Nat.le_refl _, by decide, rfl, rfl⟩⟩
    ((try (conv => whnf)); repeat ((first | refine And.intro ?_ True.intro | refine And.intro ⟨by omega, by omega⟩ ?_ | refine ⟨_, (by assumption : RO.c _ _ _ = _), ?_⟩ | refine ⟨_, _, _, (by assumption : (_ : Option Obj) = _), ?_⟩ | refine ⟨_, _, _, (by assumption : RO.c _ _ _ = _), ?_⟩ | refine ⟨_, (by assumption : Row _ _ _ _), ?_⟩ | refine ⟨_, (by assumption : Cell _ _ _ _ _), ?_⟩ | refine ⟨_, _, _, (by assumption : Cell _ _ _ _ _), ?_⟩ | refine ⟨_, Or.inl (by assumption), ?_⟩ | refine ⟨_, _, _, Or.inl (by assumption), ?_⟩ | refine And.intro (ints_one _) ?_ | refine And.intro (by omega) ?_ | refine d1 ?_ | refine d2 ?_ | refine d3 ?_ | refine d4 ?_ | refine go G175 400 hC (by kernel_rfl) ?_); (conv => whnf)))
    refine ⟨pairs_one l, 0, [], And.intro hr0 (by show (0 + l.length) * 16 ≤ 140737488355328; omega), fun v' m' hr' ht' => ?_⟩
    have hs := ht'.sub (m0 := m) ((Hp.sub.refl m).fresh f1 _) (fun g e => by simp [Value.ownBlock] at e; subst e; exact f1)
    obtain ⟨va, vk, rfl⟩ := MRow.sl hr'
    ((try (conv => whnf)); repeat ((first | refine And.intro ?_ True.intro | refine And.intro ⟨by omega, by omega⟩ ?_ | refine ⟨_, (by assumption : RO.c _ _ _ = _), ?_⟩ | refine ⟨_, _, _, (by assumption : (_ : Option Obj) = _), ?_⟩ | refine ⟨_, _, _, (by assumption : RO.c _ _ _ = _), ?_⟩ | refine ⟨_, (by assumption : Row _ _ _ _), ?_⟩ | refine ⟨_, (by assumption : Cell _ _ _ _ _), ?_⟩ | refine ⟨_, _, _, (by assumption : Cell _ _ _ _ _), ?_⟩ | refine ⟨_, Or.inl (by assumption), ?_⟩ | refine ⟨_, _, _, Or.inl (by assumption), ?_⟩ | refine And.intro (ints_one _) ?_ | refine And.intro (by omega) ?_ | refine d1 ?_ | refine d2 ?_ | refine d3 ?_ | refine d4 ?_ | refine go G175 400 hC (by kernel_rfl) ?_); (conv => whnf)))
    exact ⟨_, rfl, (by rw [Nat.zero_add, List.nil_append] at hr'; rw [Nat.zero_add]; exact hr'), hs.1, hs.2, rfl⟩

def ιI (n : Int) : Value := .int .i64 n
theorem ιI_inj : ∀ x y, ιI x = ιI y → x = y := by intro x y h; simpa [ιI] using h
/-- The edges of inputs. -/
def inF (l : List Int) : Int → Option Value := fun v => match l.contains v with | true => some (.int .i64 ((2 * (l.idxOf v + 1) : Nat) : Int)) | false => none
/-- The edges of Ands. -/
def atF (n : Nat) (l : List Pr) : Pr → Option Value := fun p => match l.contains p with | true => some (.int .i64 ((2 * (1 + n + l.idxOf p) : Nat) : Int)) | false => none
theorem inF_nil (v : Int) : (none : Option Value) = inF [] v := rfl
theorem atF_nil (n : Nat) (p : Pr) : (none : Option Value) = atF n [] p := rfl
theorem inF_snoc {l : List Int} {x : Int} (hx : l.contains x = false) (v : Int) : updA (inF l) x (some (.int .i64 ((2 * (l.length + 1) : Nat) : Int))) v = inF (l ++ [x]) v := by
  by_cases e : v = x
  · subst e
    have h1 : (l ++ [v]).contains v = true := by simp
    have h2 : v ∉ l := by simpa using hx
    rw [updA_self, inF, h1]
    simp only [List.idxOf_append, if_neg h2]; simp
  · rw [updA_ne _ _ e]
    have h1 : (l ++ [x]).contains v = l.contains v := by simp [e]
    simp only [inF, h1]
    cases h : l.contains v with
    | false => rfl
    | true => simp only [idxOf_append_mem (by simpa using h)]
theorem atF_snoc {n : Nat} {l : List Pr} {x : Pr} (hx : l.contains x = false) (v : Pr) : updA (atF n l) x (some (.int .i64 ((2 * (1 + n + l.length) : Nat) : Int))) v = atF n (l ++ [x]) v := by
  by_cases e : v = x
  · subst e
    have h1 : (l ++ [v]).contains v = true := by simp
    have h2 : v ∉ l := by simpa using hx
    rw [updA_self, atF, h1]
    simp only [List.idxOf_append, if_neg h2]; simp
  · rw [updA_ne _ _ e]
    have h1 : (l ++ [x]).contains v = l.contains v := by
      rw [Bool.eq_iff_iff]; simp [e]
    simp only [atF, h1]
    cases h : l.contains v with
    | false => rfl
    | true => simp only [idxOf_append_mem (by simpa using h)]
theorem atF_old {n : Nat} {l : List Pr} {x : Pr} (hx : l.contains x = true) (v : Pr) : atF n l v = atF n (l ++ [x]) v := by
  have h0 : x ∈ l := by simpa using hx
  have h1 : (l ++ [x]).contains v = l.contains v := by
    rw [Bool.eq_iff_iff]; simp only [List.contains_eq_mem, List.mem_append, List.mem_singleton, decide_eq_true_eq]
    exact ⟨fun h => h.elim id fun e => e ▸ h0, .inl⟩
  simp only [atF, h1]
  cases h : l.contains v with
  | false => rfl
  | true => simp only [idxOf_append_mem (by simpa using h)]

/-- Where a maker lies. -/
structure Mk where
  b : Nat
  bat : Nat
  bin : Nat
  vI : Value
  vA : Value
def Mk.fp (K : Mk) (k : Nat) : Prop := k = K.b ∨ k = K.bat ∨ k = K.bin ∨ K.vA.ownBlock = some k
/-- A maker in memory. -/
structure MkI (h : RO) (m : Hp) (K : Mk) (ins : List Int) (ands : List Pr) (full : Bool) : Prop where
  cell : m K.b = some (.cells #[.bool true, K.vI, K.vA, .map (some K.bat), .map (some K.bin), .bool full] 243)
  hins : IntS h K.vI ins
  hands : MRow m 158 2 K.vA ands.length (pairs ands)
  mat : MapX K2 ι2 m K.bat (atF ins.length ands)
  min : MapX IK ιI m K.bin (inF ins)
  ne : K.bat ≠ K.bin
  own : ∀ g, K.vA.ownBlock = some g → g ≠ K.b
  rng : ∀ p ∈ ands, R64 p.1 ∧ R64 p.2
  small : 1 + ins.length + ands.length ≤ 200000
theorem MkI.mono {h h' : RO} {m : Hp} {K : Mk} {ins : List Int} {ands : List Pr} {full : Bool} (r : MkI h m K ins ands full) (hl : h.le h') : MkI h' m K ins ands full := { r with hins := r.hins.mono hl }
/-- What became of memory when a maker was used: K', a maker at the same place, may have another row. -/
structure MkS (K K' : Mk) (m m' : Hp) : Prop where
  keep : ∀ k o, m k = some o → ¬ K.fp k → m' k = some o
  fp : ∀ k, K'.fp k → K.fp k ∨ m k = none
  b : K'.b = K.b
theorem MkS.refl (K : Mk) (m : Hp) : MkS K K m m := ⟨fun _ _ e _ => e, fun _ e => .inl e, rfl⟩
theorem MkS.trans {K K' K'' : Mk} {m m' m'' : Hp} (a : MkS K K' m m') (b : MkS K' K'' m' m'') : MkS K K'' m m'' := by
  refine ⟨fun k o e hn => b.keep k o (a.keep k o e hn) fun hf => ?_, fun k hf => ?_, b.b.trans a.b⟩
  · rcases a.fp k hf with h | h
    · exact hn h
    · rw [h] at e; cases e
  · rcases b.fp k hf with h | h
    · exact a.fp k h
    · by_cases hk : K.fp k
      · exact .inl hk
      · refine .inr ?_
        cases e : m k with
        | none => rfl
        | some o => rw [a.keep k o e hk] at h; cases h
theorem MkS.sub {K K' : Mk} {m0 m m' : Hp} (a : MkS K K' m m') (hs : m0.sub m) (hk : ∀ k, K.fp k → m0 k = none) : m0.sub m' ∧ ∀ k, K'.fp k → m0 k = none := by
  refine ⟨fun k o e => a.keep k o (hs k o e) (fun hf => (by rw [hk k hf] at e; cases e)), fun k hf => ?_⟩
  rcases a.fp k hf with h | h
  · exact hk k h
  · exact hs.none h
def G244 : Gv := ⟨[13], [1, 7], [(2, .one 0 (.one 1 (.one 2 (.one 4 (.one 5 (.fork 3 (.fork 6 (.one 7 (.one 8 (.one 9 (.fork 10 (.nil) .stop)))) .stop) .stop))))))]⟩
def G244r : Gv := ⟨[13], [1, 7], [(2, .one 0 (.one 1 (.one 2 (.one 4 (.one 5 (.fork 3 (.fork 6 (.one 7 (.one 8 (.one 9 (.fork 10 (.nil) .stop)))) .stop) .stop)))))), (11, .one 0 (.one 1 (.one 2 (.one 4 (.fork 3 (.fork 5 (.one 6 (.one 7 (.one 8 (.one 9 (.one 10 (.nil)))))) .stop) .stop))))), (13, .one 0 (.one 1 (.one 2 (.one 4 (.one 5 (.one 6 (.one 7 (.one 8 (.one 9 (.one 10 (.one 11 (.fork 3 (.fork 12 (.nil) .stop) .stop))))))))))))]⟩
theorem maker_spec {u v : Value} {ins : List Int} {ands : List Pr} {h : RO} {m : Hp} (ha : IntS h u ins) (hb : PrS h v ands) (hi : Asc ins) (hsm : 1 + ins.length + ands.length ≤ 200000) :
    Con Tryz.prog 244 [.agg #[u, v]] h m fun e h' m' => ∃ K, e = .returned (.pointer (some ⟨K.b, 0, none⟩)) ∧ MkI h' m' K ins ands false ∧ m.sub m' ∧ ∀ k, K.fp k → m k = none := by
  obtain ⟨a, c, rfl, hr⟩ := ha.s
  obtain ⟨b, d, rfl⟩ := hb.sl
  have hla := ha.len
  have hlb := hb.len
  refine fn_of (nt := 74) T Tryz.func244 rfl (by kernel_rfl) Tryz.ntmps244 (by simp) T_ok T_mixed fun C hC => ?_
  simp only [Tryz.f244, argFr, Nat.zero_add, Nat.reduceAdd] at hC ⊢
  ((try (conv => whnf)); repeat ((first | refine And.intro ?_ True.intro | refine And.intro ⟨by omega, by omega⟩ ?_ | refine ⟨_, (by assumption : RO.c _ _ _ = _), ?_⟩ | refine ⟨_, _, _, (by assumption : (_ : Option Obj) = _), ?_⟩ | refine ⟨_, _, _, (by assumption : RO.c _ _ _ = _), ?_⟩ | refine ⟨_, (by assumption : Row _ _ _ _), ?_⟩ | refine ⟨_, (by assumption : Cell _ _ _ _ _), ?_⟩ | refine ⟨_, _, _, (by assumption : Cell _ _ _ _ _), ?_⟩ | refine ⟨_, Or.inl (by assumption), ?_⟩ | refine ⟨_, _, _, Or.inl (by assumption), ?_⟩ | refine And.intro (ints_one _) ?_ | refine And.intro (by omega) ?_ | refine d1 ?_ | refine d2 ?_ | refine d3 ?_ | refine d4 ?_ | refine go G244 400 hC (by kernel_rfl) ?_); (conv => whnf)))
  intro b0 h1 hle1 hp1
  replace ha := ha.mono hle1
  replace hb := hb.mono hle1
  ((try (conv => whnf)); repeat ((first | refine And.intro ?_ True.intro | refine And.intro ⟨by omega, by omega⟩ ?_ | refine ⟨_, (by assumption : RO.c _ _ _ = _), ?_⟩ | refine ⟨_, _, _, (by assumption : (_ : Option Obj) = _), ?_⟩ | refine ⟨_, _, _, (by assumption : RO.c _ _ _ = _), ?_⟩ | refine ⟨_, (by assumption : Row _ _ _ _), ?_⟩ | refine ⟨_, (by assumption : Cell _ _ _ _ _), ?_⟩ | refine ⟨_, _, _, (by assumption : Cell _ _ _ _ _), ?_⟩ | refine ⟨_, Or.inl (by assumption), ?_⟩ | refine ⟨_, _, _, Or.inl (by assumption), ?_⟩ | refine And.intro (ints_one _) ?_ | refine And.intro (by omega) ?_ | refine d1 ?_ | refine d2 ?_ | refine d3 ?_ | refine d4 ?_ | refine go G244 400 hC (by kernel_rfl) ?_); (conv => whnf)))
  intro bat f1 f2 f3
  ((try (conv => whnf)); repeat ((first | refine And.intro ?_ True.intro | refine And.intro ⟨by omega, by omega⟩ ?_ | refine ⟨_, (by assumption : RO.c _ _ _ = _), ?_⟩ | refine ⟨_, _, _, (by assumption : (_ : Option Obj) = _), ?_⟩ | refine ⟨_, _, _, (by assumption : RO.c _ _ _ = _), ?_⟩ | refine ⟨_, (by assumption : Row _ _ _ _), ?_⟩ | refine ⟨_, (by assumption : Cell _ _ _ _ _), ?_⟩ | refine ⟨_, _, _, (by assumption : Cell _ _ _ _ _), ?_⟩ | refine ⟨_, Or.inl (by assumption), ?_⟩ | refine ⟨_, _, _, Or.inl (by assumption), ?_⟩ | refine And.intro (ints_one _) ?_ | refine And.intro (by omega) ?_ | refine d1 ?_ | refine d2 ?_ | refine d3 ?_ | refine d4 ?_ | refine go G244 400 hC (by kernel_rfl) ?_); (conv => whnf)))
  intro bin g1 g2 g3
  have n12 : bin ≠ bat := fun e => by subst e; simp [Hp.set] at g1
  have g1' : m bin = none := by rwa [Hp.set_ne n12] at g1
  ((try (conv => whnf)); repeat ((first | refine And.intro ?_ True.intro | refine And.intro ⟨by omega, by omega⟩ ?_ | refine ⟨_, (by assumption : RO.c _ _ _ = _), ?_⟩ | refine ⟨_, _, _, (by assumption : (_ : Option Obj) = _), ?_⟩ | refine ⟨_, _, _, (by assumption : RO.c _ _ _ = _), ?_⟩ | refine ⟨_, (by assumption : Row _ _ _ _), ?_⟩ | refine ⟨_, (by assumption : Cell _ _ _ _ _), ?_⟩ | refine ⟨_, _, _, (by assumption : Cell _ _ _ _ _), ?_⟩ | refine ⟨_, Or.inl (by assumption), ?_⟩ | refine ⟨_, _, _, Or.inl (by assumption), ?_⟩ | refine And.intro (ints_one _) ?_ | refine And.intro (by omega) ?_ | refine d1 ?_ | refine d2 ?_ | refine d3 ?_ | refine d4 ?_ | refine go G244 400 hC (by kernel_rfl) ?_); (conv => whnf)))
  intro bk k1 k2 k3
  have n13 : bk ≠ bin := fun e => by subst e; simp [Hp.set] at k1
  rw [Hp.set_ne n13] at k1
  have n23 : bk ≠ bat := fun e => by subst e; simp [Hp.set] at k1
  have k1' : m bk = none := by rwa [Hp.set_ne n23] at k1
  ((try (conv => whnf)); repeat ((first | refine And.intro ?_ True.intro | refine And.intro ⟨by omega, by omega⟩ ?_ | refine ⟨_, (by assumption : RO.c _ _ _ = _), ?_⟩ | refine ⟨_, _, _, (by assumption : (_ : Option Obj) = _), ?_⟩ | refine ⟨_, _, _, (by assumption : RO.c _ _ _ = _), ?_⟩ | refine ⟨_, (by assumption : Row _ _ _ _), ?_⟩ | refine ⟨_, (by assumption : Cell _ _ _ _ _), ?_⟩ | refine ⟨_, _, _, (by assumption : Cell _ _ _ _ _), ?_⟩ | refine ⟨_, Or.inl (by assumption), ?_⟩ | refine ⟨_, _, _, Or.inl (by assumption), ?_⟩ | refine And.intro (ints_one _) ?_ | refine And.intro (by omega) ?_ | refine d1 ?_ | refine d2 ?_ | refine d3 ?_ | refine d4 ?_ | refine go G244 400 hC (by kernel_rfl) ?_); (conv => whnf)))
  refine Con.mono (clone_spec ha) ?_
  rintro _ h2 m2 hle2 ⟨⟨vI, rfl, hI⟩, rfl⟩
  replace ha := ha.mono hle2
  replace hb := hb.mono hle2
  obtain ⟨ia, ic, rfl, -⟩ := hI.s
  ((try (conv => whnf)); repeat ((first | refine And.intro ?_ True.intro | refine And.intro ⟨by omega, by omega⟩ ?_ | refine ⟨_, (by assumption : RO.c _ _ _ = _), ?_⟩ | refine ⟨_, _, _, (by assumption : (_ : Option Obj) = _), ?_⟩ | refine ⟨_, _, _, (by assumption : RO.c _ _ _ = _), ?_⟩ | refine ⟨_, (by assumption : Row _ _ _ _), ?_⟩ | refine ⟨_, (by assumption : Cell _ _ _ _ _), ?_⟩ | refine ⟨_, _, _, (by assumption : Cell _ _ _ _ _), ?_⟩ | refine ⟨_, Or.inl (by assumption), ?_⟩ | refine ⟨_, _, _, Or.inl (by assumption), ?_⟩ | refine And.intro (ints_one _) ?_ | refine And.intro (by omega) ?_ | refine d1 ?_ | refine d2 ?_ | refine d3 ?_ | refine d4 ?_ | refine go G244 400 hC (by kernel_rfl) ?_); (conv => whnf)))
  refine Con.mono (clone2m_spec hb (by omega)) ?_
  rintro _ h3 m3 - ⟨vA, rfl, hA, hs3, ho3, rfl⟩
  obtain ⟨aa, ac, rfl⟩ := hA.sl
  have ck : m3 bk = some (.cells #[.bool true, .slice none 0 0, .slice none 0 0, .map (some bat), .map (some bin), .bool false] 243) := hs3 bk _ Hp.set_eq
  have hm1 : MapX K2 ι2 m3 bat (atF ins.length []) := ((((MapX.new K2 ι2 m bat).other n12.symm _).other n23.symm _).sub hs3).congr (fun p => atF_nil _ p)
  have hm2 : MapX IK ιI m3 bin (inF []) := (((MapX.new IK ιI _ bin).other n13.symm _).sub hs3).congr (fun p => inF_nil p)
  have hsub3 : m.sub m3 := ((((Hp.sub.refl m).fresh f1 _).fresh g1' _).fresh k1' _).trans hs3
  have hown3 : ∀ g, Value.ownBlock (.slice aa ands.length ac) = some g → g ≠ bk ∧ m g = none := fun g e => by
    have h0 := ho3 g e
    have e1 : g ≠ bk := fun e' => by subst e'; rw [Hp.set_eq] at h0; cases h0
    rw [Hp.set_ne e1] at h0
    have e2 : g ≠ bin := fun e' => by subst e'; rw [Hp.set_eq] at h0; cases h0
    rw [Hp.set_ne e2] at h0
    have e3 : g ≠ bat := fun e' => by subst e'; rw [Hp.set_eq] at h0; cases h0
    rw [Hp.set_ne e3] at h0
    exact ⟨e1, h0⟩
  clear hs3 ho3
  ((try (conv => whnf)); repeat ((first | refine And.intro ?_ True.intro | refine And.intro ⟨by omega, by omega⟩ ?_ | refine ⟨_, (by assumption : RO.c _ _ _ = _), ?_⟩ | refine ⟨_, _, _, (by assumption : (_ : Option Obj) = _), ?_⟩ | refine ⟨_, _, _, (by assumption : RO.c _ _ _ = _), ?_⟩ | refine ⟨_, (by assumption : Row _ _ _ _), ?_⟩ | refine ⟨_, (by assumption : Cell _ _ _ _ _), ?_⟩ | refine ⟨_, _, _, (by assumption : Cell _ _ _ _ _), ?_⟩ | refine ⟨_, Or.inl (by assumption), ?_⟩ | refine ⟨_, _, _, Or.inl (by assumption), ?_⟩ | refine And.intro (ints_one _) ?_ | refine And.intro (by omega) ?_ | refine d1 ?_ | refine d2 ?_ | refine d3 ?_ | refine d4 ?_ | refine go G244 400 hC (by kernel_rfl) ?_); (conv => whnf)))
  refine ⟨_, _, ck, by show 3 ≤ 6; omega, ?_⟩
  have ck4 : (m3.set bk (.cells #[.bool true, .slice ia ins.length ic, .slice aa ands.length ac, .map (some bat), .map (some bin), .bool false] 243)) bk = some (.cells #[.bool true, .slice ia ins.length ic, .slice aa ands.length ac, .map (some bat), .map (some bin), .bool false] 243) := Hp.set_eq
  replace hm1 := hm1.other n23.symm (.cells #[.bool true, .slice ia ins.length ic, .slice aa ands.length ac, .map (some bat), .map (some bin), .bool false] 243)
  replace hm2 := hm2.other n13.symm (.cells #[.bool true, .slice ia ins.length ic, .slice aa ands.length ac, .map (some bat), .map (some bin), .bool false] 243)
  replace hA := hA.set (fun g e => (hown3 g e).1) (.cells #[.bool true, .slice ia ins.length ic, .slice aa ands.length ac, .map (some bat), .map (some bin), .bool false] 243)
  replace hsub3 := hsub3.fresh k1' (.cells #[.bool true, .slice ia ins.length ic, .slice aa ands.length ac, .map (some bat), .map (some bin), .bool false] 243)
  ((try (conv => whnf)); repeat ((first | refine And.intro ?_ True.intro | refine And.intro ⟨by omega, by omega⟩ ?_ | refine ⟨_, (by assumption : RO.c _ _ _ = _), ?_⟩ | refine ⟨_, _, _, (by assumption : (_ : Option Obj) = _), ?_⟩ | refine ⟨_, _, _, (by assumption : RO.c _ _ _ = _), ?_⟩ | refine ⟨_, (by assumption : Row _ _ _ _), ?_⟩ | refine ⟨_, (by assumption : Cell _ _ _ _ _), ?_⟩ | refine ⟨_, _, _, (by assumption : Cell _ _ _ _ _), ?_⟩ | refine ⟨_, Or.inl (by assumption), ?_⟩ | refine ⟨_, _, _, Or.inl (by assumption), ?_⟩ | refine And.intro (ints_one _) ?_ | refine And.intro (by omega) ?_ | refine d1 ?_ | refine d2 ?_ | refine d3 ?_ | refine d4 ?_ | refine go G244 400 hC (by kernel_rfl) ?_); (conv => whnf)))
  refine halt (sx_loopB (X := Nat) [1, 3, 25, 26] [1] (fun i => [(27, .v (.int .i64 i))]) (fun _ => [])
    (fun i h' m' => i ≤ ins.length ∧ h' = h3 ∧ m.sub m' ∧ m' bk = some (.cells #[.bool true, .slice ia ins.length ic, .slice aa ands.length ac, .map (some bat), .map (some bin), .bool false] 243) ∧
      MRow m' 158 2 (.slice aa ands.length ac) ands.length (pairs ands) ∧ MapX K2 ι2 m' bat (atF ins.length []) ∧ MapX IK ιI m' bin (inF (ins.take i))) (fun i => ins.length - i) 0 (by repeat (first | exact Keep.nil | apply Keep.cons rfl | apply Keep.skip rfl)) (by repeat (first | exact KeepB.nil | apply KeepB.cons rfl)) ⟨[(1, 1)], ⟨by simp [sinj], by repeat (first | exact trivial | refine ⟨rfl, ?_⟩ | refine ⟨⟨rfl, rfl⟩, ?_⟩ | refine ⟨⟨rfl, rfl, rfl⟩, ?_⟩ | refine ⟨stepI (by omega), ?_⟩ | refine ⟨by assumption, ?_⟩), by repeat (first | exact trivial | refine ⟨rfl, ?_⟩ | refine ⟨⟨rfl, rfl, rfl⟩, ?_⟩ | refine ⟨by assumption, ?_⟩)⟩⟩
    ⟨by omega, rfl, hsub3, ck4, hA, hm1, (by rw [List.take_zero]; exact hm2)⟩ ?_)
  clear ck4 hm1 hm2 hA hsub3 ck
  rintro i h3 m4 - ⟨hi1, rfl, hsub, ck, hA, hm1, hm2⟩
  ((try (conv => whnf)); repeat ((first | refine And.intro ?_ True.intro | refine And.intro ⟨by omega, by omega⟩ ?_ | refine ⟨_, (by assumption : RO.c _ _ _ = _), ?_⟩ | refine ⟨_, _, _, (by assumption : (_ : Option Obj) = _), ?_⟩ | refine ⟨_, _, _, (by assumption : RO.c _ _ _ = _), ?_⟩ | refine ⟨_, (by assumption : Row _ _ _ _), ?_⟩ | refine ⟨_, (by assumption : Cell _ _ _ _ _), ?_⟩ | refine ⟨_, _, _, (by assumption : Cell _ _ _ _ _), ?_⟩ | refine ⟨_, Or.inl (by assumption), ?_⟩ | refine ⟨_, _, _, Or.inl (by assumption), ?_⟩ | refine And.intro (ints_one _) ?_ | refine And.intro (by omega) ?_ | refine d1 ?_ | refine d2 ?_ | refine d3 ?_ | refine d4 ?_ | refine go G244 400 hC (by kernel_rfl) ?_); (conv => whnf)))
  refine ⟨fun hlt => ?_, fun hge => ?_⟩
  · have hlt : i < ins.length := by simpa using hlt
    obtain ⟨p, q, rfl, hcc⟩ := ha.get hlt
    have c1 := hcc i hlt
    have k4 : Cell h3 m4 bk 4 (.map (some bin)) := Cell.of ck rfl
    have hx : (ins.take i).contains (g ins i) = false := by
      refine notMem fun k hk => ?_
      have hk' : k < i := by simp at hk; omega
      rw [g_take hk']
      have := hi k i hk' hlt; omega
    have hw : IntKind.i64.wrap (2 * IntKind.i64.wrap ((i : Int) + 1)) = ((2 * (i + 1) : Nat) : Int) := by rw [w64 (x := (i : Int) + 1) (by omega) (by omega), w64 (by omega) (by omega)]; omega
    have htk : ins.take i ++ [g ins i] = ins.take (i + 1) := by rw [List.take_add_one, g_get hlt]; rfl
    have hlk : (ins.take i).length = i := by simp; omega
    ((try (conv => whnf)); repeat ((first | refine And.intro ?_ True.intro | refine And.intro ⟨by omega, by omega⟩ ?_ | refine ⟨_, (by assumption : RO.c _ _ _ = _), ?_⟩ | refine ⟨_, _, _, (by assumption : (_ : Option Obj) = _), ?_⟩ | refine ⟨_, _, _, (by assumption : RO.c _ _ _ = _), ?_⟩ | refine ⟨_, (by assumption : Row _ _ _ _), ?_⟩ | refine ⟨_, (by assumption : Cell _ _ _ _ _), ?_⟩ | refine ⟨_, _, _, (by assumption : Cell _ _ _ _ _), ?_⟩ | refine ⟨_, Or.inl (by assumption), ?_⟩ | refine ⟨_, _, _, Or.inl (by assumption), ?_⟩ | refine And.intro (ints_one _) ?_ | refine And.intro (by omega) ?_ | refine d1 ?_ | refine d2 ?_ | refine d3 ?_ | refine d4 ?_ | refine go G244 400 hC (by kernel_rfl) ?_); (conv => whnf)))
    have hm20 := hm2
    obtain ⟨es, ek, F, e1, hO⟩ := hm2
    refine ⟨es, ek, _, F, ⟨e1, keyInt, hO.r, isIK _⟩, fun es' ck' hr' => ?_⟩
    have hm2' := ((hO.upd ιI_inj (x := g ins i) (v := some (.int .i64 ((2 * (i + 1) : Nat) : Int))) (by rw [← hw]; exact hr')).x (clock := ck') m4 bin).congr (f' := inF (ins.take (i + 1))) (fun v => by have := inF_snoc hx v; rw [hlk] at this; rw [this, htk])
    have hA' := hA.setMap hm20 (.map es' ck')
    have ck2 : (m4.set bin (.map es' ck')) bk = _ := (Hp.set_ne n13).trans ck
    have hm1' := hm1.other n12.symm (.map es' ck')
    ((try (conv => whnf)); repeat ((first | refine And.intro ?_ True.intro | refine And.intro ⟨by omega, by omega⟩ ?_ | refine ⟨_, (by assumption : RO.c _ _ _ = _), ?_⟩ | refine ⟨_, _, _, (by assumption : (_ : Option Obj) = _), ?_⟩ | refine ⟨_, _, _, (by assumption : RO.c _ _ _ = _), ?_⟩ | refine ⟨_, (by assumption : Row _ _ _ _), ?_⟩ | refine ⟨_, (by assumption : Cell _ _ _ _ _), ?_⟩ | refine ⟨_, _, _, (by assumption : Cell _ _ _ _ _), ?_⟩ | refine ⟨_, Or.inl (by assumption), ?_⟩ | refine ⟨_, _, _, Or.inl (by assumption), ?_⟩ | refine And.intro (ints_one _) ?_ | refine And.intro (by omega) ?_ | refine d1 ?_ | refine d2 ?_ | refine d3 ?_ | refine d4 ?_ | refine go G244 400 hC (by kernel_rfl) ?_); (conv => whnf)))
    exact halt ⟨i + 1, [(1, 1)], ⟨by simp [sinj], by repeat (first | exact trivial | refine ⟨rfl, ?_⟩ | refine ⟨⟨rfl, rfl⟩, ?_⟩ | refine ⟨⟨rfl, rfl, rfl⟩, ?_⟩ | refine ⟨stepI (by omega), ?_⟩ | refine ⟨by assumption, ?_⟩), by repeat (first | exact trivial | refine ⟨rfl, ?_⟩ | refine ⟨⟨rfl, rfl, rfl⟩, ?_⟩ | refine ⟨by assumption, ?_⟩)⟩, RO.le.refl _, ⟨hlt, rfl, hsub.fresh g1' _, ck2, hA', hm1', hm2'⟩, by omega⟩
  have hge : i = ins.length := by simp at hge; omega
  subst hge
  rw [List.take_length] at hm2
  ((try (conv => whnf)); repeat ((first | refine And.intro ?_ True.intro | refine And.intro ⟨by omega, by omega⟩ ?_ | refine ⟨_, (by assumption : RO.c _ _ _ = _), ?_⟩ | refine ⟨_, _, _, (by assumption : (_ : Option Obj) = _), ?_⟩ | refine ⟨_, _, _, (by assumption : RO.c _ _ _ = _), ?_⟩ | refine ⟨_, (by assumption : Row _ _ _ _), ?_⟩ | refine ⟨_, (by assumption : Cell _ _ _ _ _), ?_⟩ | refine ⟨_, _, _, (by assumption : Cell _ _ _ _ _), ?_⟩ | refine ⟨_, Or.inl (by assumption), ?_⟩ | refine ⟨_, _, _, Or.inl (by assumption), ?_⟩ | refine And.intro (ints_one _) ?_ | refine And.intro (by omega) ?_ | refine d1 ?_ | refine d2 ?_ | refine d3 ?_ | refine d4 ?_ | refine go G244 400 hC (by kernel_rfl) ?_); (conv => whnf)))
  refine halt (sx_loopB (X := Nat) [1, 3, 42, 43] [1] (fun i => [(44, .v (.int .i64 i))]) (fun _ => [])
    (fun i h' m' => i ≤ ands.length ∧ h3.le h' ∧ m.sub m' ∧ m' bk = some (.cells #[.bool true, .slice ia ins.length ic, .slice aa ands.length ac, .map (some bat), .map (some bin), .bool false] 243) ∧
      MRow m' 158 2 (.slice aa ands.length ac) ands.length (pairs ands) ∧ MapX K2 ι2 m' bat (atF ins.length (ands.take i)) ∧ MapX IK ιI m' bin (inF ins)) (fun i => ands.length - i) 0 (by repeat (first | exact Keep.nil | apply Keep.cons rfl | apply Keep.skip rfl)) (by repeat (first | exact KeepB.nil | apply KeepB.cons rfl)) ⟨[(1, 1)], ⟨by simp [sinj], by repeat (first | exact trivial | refine ⟨rfl, ?_⟩ | refine ⟨⟨rfl, rfl⟩, ?_⟩ | refine ⟨⟨rfl, rfl, rfl⟩, ?_⟩ | refine ⟨stepI (by omega), ?_⟩ | refine ⟨by assumption, ?_⟩), by repeat (first | exact trivial | refine ⟨rfl, ?_⟩ | refine ⟨⟨rfl, rfl, rfl⟩, ?_⟩ | refine ⟨by assumption, ?_⟩)⟩⟩
    ⟨by omega, RO.le.refl _, hsub, ck, hA, (by rw [List.take_zero]; exact hm1), hm2⟩ ?_)
  clear ck hm1 hm2 hA hsub
  rintro i h4 m4 - ⟨hi1, hle4, hsub, ck, hA, hm1, hm2⟩
  ((try (conv => whnf)); repeat ((first | refine And.intro ?_ True.intro | refine And.intro ⟨by omega, by omega⟩ ?_ | refine ⟨_, (by assumption : RO.c _ _ _ = _), ?_⟩ | refine ⟨_, _, _, (by assumption : (_ : Option Obj) = _), ?_⟩ | refine ⟨_, _, _, (by assumption : RO.c _ _ _ = _), ?_⟩ | refine ⟨_, (by assumption : Row _ _ _ _), ?_⟩ | refine ⟨_, (by assumption : Cell _ _ _ _ _), ?_⟩ | refine ⟨_, _, _, (by assumption : Cell _ _ _ _ _), ?_⟩ | refine ⟨_, Or.inl (by assumption), ?_⟩ | refine ⟨_, _, _, Or.inl (by assumption), ?_⟩ | refine And.intro (ints_one _) ?_ | refine And.intro (by omega) ?_ | refine d1 ?_ | refine d2 ?_ | refine d3 ?_ | refine d4 ?_ | refine go G244 400 hC (by kernel_rfl) ?_); (conv => whnf)))
  refine ⟨fun hlt => ?_, fun hge => ?_⟩
  · have hlt : i < ands.length := by simpa using hlt
    obtain ⟨p, q, rfl, hcc⟩ := (hb.mono hle4).get hlt
    obtain ⟨c1, c2⟩ := hcc i hlt
    have hk2 : K2 (ι2 (gp ands i)) := isK2 (hb.rng _ (gp_mem hlt)).1 (hb.rng _ (gp_mem hlt)).2
    ((try (conv => whnf)); repeat ((first | refine And.intro ?_ True.intro | refine And.intro ⟨by omega, by omega⟩ ?_ | refine ⟨_, (by assumption : RO.c _ _ _ = _), ?_⟩ | refine ⟨_, _, _, (by assumption : (_ : Option Obj) = _), ?_⟩ | refine ⟨_, _, _, (by assumption : RO.c _ _ _ = _), ?_⟩ | refine ⟨_, (by assumption : Row _ _ _ _), ?_⟩ | refine ⟨_, (by assumption : Cell _ _ _ _ _), ?_⟩ | refine ⟨_, _, _, (by assumption : Cell _ _ _ _ _), ?_⟩ | refine ⟨_, Or.inl (by assumption), ?_⟩ | refine ⟨_, _, _, Or.inl (by assumption), ?_⟩ | refine And.intro (ints_one _) ?_ | refine And.intro (by omega) ?_ | refine d1 ?_ | refine d2 ?_ | refine d3 ?_ | refine d4 ?_ | refine go G244 400 hC (by kernel_rfl) ?_); (conv => whnf)))
    intro b5 h5 hle5 hp5
    have p0 := hp5 0 _ rfl
    have p1 := hp5 1 _ rfl
    have k3 : Cell h5 m4 bk 3 (.map (some bat)) := Cell.of ck rfl
    have hm10 := hm1
    obtain ⟨es, ek, F, e1, hO⟩ := hm1
    ((try (conv => whnf)); repeat ((first | refine And.intro ?_ True.intro | refine And.intro ⟨by omega, by omega⟩ ?_ | refine ⟨_, (by assumption : RO.c _ _ _ = _), ?_⟩ | refine ⟨_, _, _, (by assumption : (_ : Option Obj) = _), ?_⟩ | refine ⟨_, _, _, (by assumption : RO.c _ _ _ = _), ?_⟩ | refine ⟨_, (by assumption : Row _ _ _ _), ?_⟩ | refine ⟨_, (by assumption : Cell _ _ _ _ _), ?_⟩ | refine ⟨_, _, _, (by assumption : Cell _ _ _ _ _), ?_⟩ | refine ⟨_, Or.inl (by assumption), ?_⟩ | refine ⟨_, _, _, Or.inl (by assumption), ?_⟩ | refine And.intro (ints_one _) ?_ | refine And.intro (by omega) ?_ | refine d1 ?_ | refine d2 ?_ | refine d3 ?_ | refine d4 ?_ | refine go G244 400 hC (by kernel_rfl) ?_); (conv => whnf)))
    refine halt (sx_cutB (X := Unit) [1, 3, 6, 7, 42, 43, 44] [1, 7] (fun _ => [(9, .v (.bool ((ands.take i).contains (gp ands i))))]) (fun _ => []) (fun _ h' m' => h' = h5 ∧ m' = m4) (by repeat (first | exact Keep.nil | apply Keep.cons rfl | apply Keep.skip rfl)) (by repeat (first | exact KeepB.nil | apply KeepB.cons rfl)) ?_ ?_)
    · ((try (conv => whnf)); repeat ((first | refine And.intro ?_ True.intro | refine And.intro ⟨by omega, by omega⟩ ?_ | refine ⟨_, (by assumption : RO.c _ _ _ = _), ?_⟩ | refine ⟨_, _, _, (by assumption : (_ : Option Obj) = _), ?_⟩ | refine ⟨_, _, _, (by assumption : RO.c _ _ _ = _), ?_⟩ | refine ⟨_, (by assumption : Row _ _ _ _), ?_⟩ | refine ⟨_, (by assumption : Cell _ _ _ _ _), ?_⟩ | refine ⟨_, _, _, (by assumption : Cell _ _ _ _ _), ?_⟩ | refine ⟨_, Or.inl (by assumption), ?_⟩ | refine ⟨_, _, _, Or.inl (by assumption), ?_⟩ | refine And.intro (ints_one _) ?_ | refine And.intro (by omega) ?_ | refine d1 ?_ | refine d2 ?_ | refine d3 ?_ | refine d4 ?_ | refine go G244r 400 hC (by kernel_rfl) ?_); (conv => whnf)))
      refine ⟨es, ek, _, F, ⟨.inl e1, key2, hO.r, hk2⟩, ?_⟩
      erw [hO.eq (gp ands i)]
      cases hcx : (ands.take i).contains (gp ands i) with
      | true =>
        have e : atF ins.length (ands.take i) (gp ands i) = some (.int .i64 ((2 * (1 + ins.length + (ands.take i).idxOf (gp ands i)) : Nat) : Int)) := by rw [atF, hcx]
        rw [e]
        ((try (conv => whnf)); repeat ((first | refine And.intro ?_ True.intro | refine And.intro ⟨by omega, by omega⟩ ?_ | refine ⟨_, (by assumption : RO.c _ _ _ = _), ?_⟩ | refine ⟨_, _, _, (by assumption : (_ : Option Obj) = _), ?_⟩ | refine ⟨_, _, _, (by assumption : RO.c _ _ _ = _), ?_⟩ | refine ⟨_, (by assumption : Row _ _ _ _), ?_⟩ | refine ⟨_, (by assumption : Cell _ _ _ _ _), ?_⟩ | refine ⟨_, _, _, (by assumption : Cell _ _ _ _ _), ?_⟩ | refine ⟨_, Or.inl (by assumption), ?_⟩ | refine ⟨_, _, _, Or.inl (by assumption), ?_⟩ | refine And.intro (ints_one _) ?_ | refine And.intro (by omega) ?_ | refine d1 ?_ | refine d2 ?_ | refine d3 ?_ | refine d4 ?_ | refine go G244r 400 hC (by kernel_rfl) ?_); (conv => whnf)))
        exact halt ⟨(), [(1, 1), (7, 7)], ⟨by simp [sinj], by repeat (first | exact trivial | refine ⟨rfl, ?_⟩ | refine ⟨⟨rfl, rfl⟩, ?_⟩ | refine ⟨⟨rfl, rfl, rfl⟩, ?_⟩ | refine ⟨stepI (by omega), ?_⟩ | refine ⟨by assumption, ?_⟩), by repeat (first | exact trivial | refine ⟨rfl, ?_⟩ | refine ⟨⟨rfl, rfl, rfl⟩, ?_⟩ | refine ⟨by assumption, ?_⟩)⟩, RO.le.refl _, rfl, rfl⟩
      | false =>
        have e : atF ins.length (ands.take i) (gp ands i) = none := by rw [atF, hcx]
        rw [e]
        ((try (conv => whnf)); repeat ((first | refine And.intro ?_ True.intro | refine And.intro ⟨by omega, by omega⟩ ?_ | refine ⟨_, (by assumption : RO.c _ _ _ = _), ?_⟩ | refine ⟨_, _, _, (by assumption : (_ : Option Obj) = _), ?_⟩ | refine ⟨_, _, _, (by assumption : RO.c _ _ _ = _), ?_⟩ | refine ⟨_, (by assumption : Row _ _ _ _), ?_⟩ | refine ⟨_, (by assumption : Cell _ _ _ _ _), ?_⟩ | refine ⟨_, _, _, (by assumption : Cell _ _ _ _ _), ?_⟩ | refine ⟨_, Or.inl (by assumption), ?_⟩ | refine ⟨_, _, _, Or.inl (by assumption), ?_⟩ | refine And.intro (ints_one _) ?_ | refine And.intro (by omega) ?_ | refine d1 ?_ | refine d2 ?_ | refine d3 ?_ | refine d4 ?_ | refine go G244r 400 hC (by kernel_rfl) ?_); (conv => whnf)))
        exact halt ⟨(), [(1, 1), (7, 7)], ⟨by simp [sinj], by repeat (first | exact trivial | refine ⟨rfl, ?_⟩ | refine ⟨⟨rfl, rfl⟩, ?_⟩ | refine ⟨⟨rfl, rfl, rfl⟩, ?_⟩ | refine ⟨stepI (by omega), ?_⟩ | refine ⟨by assumption, ?_⟩), by repeat (first | exact trivial | refine ⟨rfl, ?_⟩ | refine ⟨⟨rfl, rfl, rfl⟩, ?_⟩ | refine ⟨by assumption, ?_⟩)⟩, RO.le.refl _, rfl, rfl⟩
    rintro _ h5 m4 - ⟨rfl, rfl⟩
    have htk : ands.take i ++ [gp ands i] = ands.take (i + 1) := by rw [List.take_add_one, gp_get hlt]; rfl
    have hlk : (ands.take i).length = i := by simp; omega
    ((try (conv => whnf)); repeat ((first | refine And.intro ?_ True.intro | refine And.intro ⟨by omega, by omega⟩ ?_ | refine ⟨_, (by assumption : RO.c _ _ _ = _), ?_⟩ | refine ⟨_, _, _, (by assumption : (_ : Option Obj) = _), ?_⟩ | refine ⟨_, _, _, (by assumption : RO.c _ _ _ = _), ?_⟩ | refine ⟨_, (by assumption : Row _ _ _ _), ?_⟩ | refine ⟨_, (by assumption : Cell _ _ _ _ _), ?_⟩ | refine ⟨_, _, _, (by assumption : Cell _ _ _ _ _), ?_⟩ | refine ⟨_, Or.inl (by assumption), ?_⟩ | refine ⟨_, _, _, Or.inl (by assumption), ?_⟩ | refine And.intro (ints_one _) ?_ | refine And.intro (by omega) ?_ | refine d1 ?_ | refine d2 ?_ | refine d3 ?_ | refine d4 ?_ | refine go G244 400 hC (by kernel_rfl) ?_); (conv => whnf)))
    refine ⟨fun hq => ?_, fun hq => ?_⟩ <;> ((try (conv => whnf)); repeat ((first | refine And.intro ?_ True.intro | refine And.intro ⟨by omega, by omega⟩ ?_ | refine ⟨_, (by assumption : RO.c _ _ _ = _), ?_⟩ | refine ⟨_, _, _, (by assumption : (_ : Option Obj) = _), ?_⟩ | refine ⟨_, _, _, (by assumption : RO.c _ _ _ = _), ?_⟩ | refine ⟨_, (by assumption : Row _ _ _ _), ?_⟩ | refine ⟨_, (by assumption : Cell _ _ _ _ _), ?_⟩ | refine ⟨_, _, _, (by assumption : Cell _ _ _ _ _), ?_⟩ | refine ⟨_, Or.inl (by assumption), ?_⟩ | refine ⟨_, _, _, Or.inl (by assumption), ?_⟩ | refine And.intro (ints_one _) ?_ | refine And.intro (by omega) ?_ | refine d1 ?_ | refine d2 ?_ | refine d3 ?_ | refine d4 ?_ | refine go G244 400 hC (by kernel_rfl) ?_); (conv => whnf)))
    · have hq : (ands.take i).contains (gp ands i) = false := by simpa using hq
      have hw : IntKind.i64.wrap (2 * IntKind.i64.wrap (IntKind.i64.wrap (1 + (ins.length : Int)) + (i : Int))) = ((2 * (1 + ins.length + i) : Nat) : Int) := by
        rw [w64 (x := 1 + (ins.length : Int)) (by omega) (by omega), w64 (x := 1 + (ins.length : Int) + i) (by omega) (by omega), w64 (by omega) (by omega)]; omega
      refine halt (sx_cutB (X := Hp) [1, 3, 42, 43, 44] [1] (fun _ => []) (fun _ => [])
        (fun m'' h' m' => h' = h5 ∧ m' = m'' ∧ ∃ es' ck', m'' = m4.set bat (.map es' ck') ∧ MapX K2 ι2 m'' bat (atF ins.length (ands.take (i + 1)))) (by repeat (first | exact Keep.nil | apply Keep.cons rfl | apply Keep.skip rfl)) (by repeat (first | exact KeepB.nil | apply KeepB.cons rfl)) ?_ ?_)
      · ((try (conv => whnf)); repeat ((first | refine And.intro ?_ True.intro | refine And.intro ⟨by omega, by omega⟩ ?_ | refine ⟨_, (by assumption : RO.c _ _ _ = _), ?_⟩ | refine ⟨_, _, _, (by assumption : (_ : Option Obj) = _), ?_⟩ | refine ⟨_, _, _, (by assumption : RO.c _ _ _ = _), ?_⟩ | refine ⟨_, (by assumption : Row _ _ _ _), ?_⟩ | refine ⟨_, (by assumption : Cell _ _ _ _ _), ?_⟩ | refine ⟨_, _, _, (by assumption : Cell _ _ _ _ _), ?_⟩ | refine ⟨_, Or.inl (by assumption), ?_⟩ | refine ⟨_, _, _, Or.inl (by assumption), ?_⟩ | refine And.intro (ints_one _) ?_ | refine And.intro (by omega) ?_ | refine d1 ?_ | refine d2 ?_ | refine d3 ?_ | refine d4 ?_ | refine go G244r 400 hC (by kernel_rfl) ?_); (conv => whnf)))
        refine ⟨es, ek, _, F, ⟨e1, key2, hO.r, hk2⟩, fun es' ck' hr' => ?_⟩
        have hm1' := ((hO.upd ι2_inj (x := gp ands i) (v := some (.int .i64 ((2 * (1 + ins.length + i) : Nat) : Int))) (by rw [← hw]; exact hr')).x (clock := ck') m4 bat).congr (f' := atF ins.length (ands.take (i + 1))) (fun v => by have := atF_snoc (n := ins.length) hq v; rw [hlk] at this; rw [this, htk])
        ((try (conv => whnf)); repeat ((first | refine And.intro ?_ True.intro | refine And.intro ⟨by omega, by omega⟩ ?_ | refine ⟨_, (by assumption : RO.c _ _ _ = _), ?_⟩ | refine ⟨_, _, _, (by assumption : (_ : Option Obj) = _), ?_⟩ | refine ⟨_, _, _, (by assumption : RO.c _ _ _ = _), ?_⟩ | refine ⟨_, (by assumption : Row _ _ _ _), ?_⟩ | refine ⟨_, (by assumption : Cell _ _ _ _ _), ?_⟩ | refine ⟨_, _, _, (by assumption : Cell _ _ _ _ _), ?_⟩ | refine ⟨_, Or.inl (by assumption), ?_⟩ | refine ⟨_, _, _, Or.inl (by assumption), ?_⟩ | refine And.intro (ints_one _) ?_ | refine And.intro (by omega) ?_ | refine d1 ?_ | refine d2 ?_ | refine d3 ?_ | refine d4 ?_ | refine go G244r 400 hC (by kernel_rfl) ?_); (conv => whnf)))
        exact halt ⟨_, [(1, 1)], ⟨by simp [sinj], by repeat (first | exact trivial | refine ⟨rfl, ?_⟩ | refine ⟨⟨rfl, rfl⟩, ?_⟩ | refine ⟨⟨rfl, rfl, rfl⟩, ?_⟩ | refine ⟨stepI (by omega), ?_⟩ | refine ⟨by assumption, ?_⟩), by repeat (first | exact trivial | refine ⟨rfl, ?_⟩ | refine ⟨⟨rfl, rfl, rfl⟩, ?_⟩ | refine ⟨by assumption, ?_⟩)⟩, RO.le.refl _, rfl, rfl, es', ck', rfl, hm1'⟩
      rintro m5 h5 _ - ⟨rfl, rfl, es', ck', rfl, hm1'⟩
      have hA' := hA.setMap hm10 (.map es' ck')
      have ck2 : (m4.set bat (.map es' ck')) bk = _ := (Hp.set_ne n23).trans ck
      have hm2' := hm2.other n12 (.map es' ck')
      ((try (conv => whnf)); repeat ((first | refine And.intro ?_ True.intro | refine And.intro ⟨by omega, by omega⟩ ?_ | refine ⟨_, (by assumption : RO.c _ _ _ = _), ?_⟩ | refine ⟨_, _, _, (by assumption : (_ : Option Obj) = _), ?_⟩ | refine ⟨_, _, _, (by assumption : RO.c _ _ _ = _), ?_⟩ | refine ⟨_, (by assumption : Row _ _ _ _), ?_⟩ | refine ⟨_, (by assumption : Cell _ _ _ _ _), ?_⟩ | refine ⟨_, _, _, (by assumption : Cell _ _ _ _ _), ?_⟩ | refine ⟨_, Or.inl (by assumption), ?_⟩ | refine ⟨_, _, _, Or.inl (by assumption), ?_⟩ | refine And.intro (ints_one _) ?_ | refine And.intro (by omega) ?_ | refine d1 ?_ | refine d2 ?_ | refine d3 ?_ | refine d4 ?_ | refine go G244 400 hC (by kernel_rfl) ?_); (conv => whnf)))
      exact halt ⟨i + 1, [(1, 1)], ⟨by simp [sinj], by repeat (first | exact trivial | refine ⟨rfl, ?_⟩ | refine ⟨⟨rfl, rfl⟩, ?_⟩ | refine ⟨⟨rfl, rfl, rfl⟩, ?_⟩ | refine ⟨stepI (by omega), ?_⟩ | refine ⟨by assumption, ?_⟩), by repeat (first | exact trivial | refine ⟨rfl, ?_⟩ | refine ⟨⟨rfl, rfl, rfl⟩, ?_⟩ | refine ⟨by assumption, ?_⟩)⟩, hle5, ⟨hlt, hle4.trans hle5, hsub.fresh f1 _, ck2, hA', hm1', hm2'⟩, by omega⟩
    · have hq : (ands.take i).contains (gp ands i) = true := by simpa using hq
      exact halt ⟨i + 1, [(1, 1)], ⟨by simp [sinj], by repeat (first | exact trivial | refine ⟨rfl, ?_⟩ | refine ⟨⟨rfl, rfl⟩, ?_⟩ | refine ⟨⟨rfl, rfl, rfl⟩, ?_⟩ | refine ⟨stepI (by omega), ?_⟩ | refine ⟨by assumption, ?_⟩), by repeat (first | exact trivial | refine ⟨rfl, ?_⟩ | refine ⟨⟨rfl, rfl, rfl⟩, ?_⟩ | refine ⟨by assumption, ?_⟩)⟩, hle5, ⟨hlt, hle4.trans hle5, hsub, ck, hA, hm10.congr (fun v => by rw [← htk]; exact atF_old hq v), hm2⟩, by omega⟩
  have hge : i = ands.length := by simp at hge; omega
  subst hge
  rw [List.take_length] at hm1
  ((try (conv => whnf)); repeat ((first | refine And.intro ?_ True.intro | refine And.intro ⟨by omega, by omega⟩ ?_ | refine ⟨_, (by assumption : RO.c _ _ _ = _), ?_⟩ | refine ⟨_, _, _, (by assumption : (_ : Option Obj) = _), ?_⟩ | refine ⟨_, _, _, (by assumption : RO.c _ _ _ = _), ?_⟩ | refine ⟨_, (by assumption : Row _ _ _ _), ?_⟩ | refine ⟨_, (by assumption : Cell _ _ _ _ _), ?_⟩ | refine ⟨_, _, _, (by assumption : Cell _ _ _ _ _), ?_⟩ | refine ⟨_, Or.inl (by assumption), ?_⟩ | refine ⟨_, _, _, Or.inl (by assumption), ?_⟩ | refine And.intro (ints_one _) ?_ | refine And.intro (by omega) ?_ | refine d1 ?_ | refine d2 ?_ | refine d3 ?_ | refine d4 ?_ | refine go G244 400 hC (by kernel_rfl) ?_); (conv => whnf)))
  refine ⟨⟨bk, bat, bin, .slice ia ins.length ic, .slice aa ands.length ac⟩, rfl, ⟨ck, hI.mono hle4, hA, hm1, hm2, n12.symm, fun g e => (hown3 g e).1, hb.rng, hsm⟩, hsub, fun k hk => ?_⟩
  rcases hk with rfl | rfl | rfl | hk
  · exact k1'
  · exact f1
  · exact g1'
  · exact (hown3 k hk).2
end Go.Proofs.YtoefoaabnjeofaaGreat
namespace Go.Proofs.YtoefoaabnjeofaaGreat
open Go.SX
set_option maxHeartbeats 4000000
set_option maxRecDepth 20000
/-- What 'and' makes: the edge, the Ands behind it, whether there was no room. -/
def andS (n : Nat) (st : List Pr × Bool) (a b : Int) : Int × List Pr × Bool :=
  match min a b == 0 || x1 (min a b) == max a b, min a b == 1 || min a b == max a b, st.1.contains (min a b, max a b), decide (((1 + n + st.1.length : Nat) : Int) ≥ 200000) with
  | true, _, _, _ => (0, st)
  | false, true, _, _ => (max a b, st)
  | false, false, true, _ => (((2 * (1 + n + st.1.idxOf (min a b, max a b)) : Nat) : Int), st)
  | false, false, false, true => (0, st.1, true)
  | false, false, false, false => (((2 * (1 + n + st.1.length) : Nat) : Int), st.1 ++ [(min a b, max a b)], st.2)
/-- An edge of some size. -/
def Ed (e : Int) : Prop := 0 ≤ e ∧ e < 4611686018427387904
theorem x1_ed {e : Int} (h : Ed e) : 0 ≤ x1 e ∧ x1 e < 4611686018427387905 := by unfold x1; unfold Ed at h; split <;> omega
theorem x1_ed' {e : Int} (h : 0 ≤ e ∧ e < 400000) : 0 ≤ x1 e ∧ x1 e < 400000 := by unfold x1; split <;> omega
def G292 : Gv := ⟨[67], [], []⟩
theorem and_spec {a b : Int} {K : Mk} {ins : List Int} {ands : List Pr} {full : Bool} {h : RO} {m : Hp} (hM : MkI h m K ins ands full) (ha : Ed a) (hb : Ed b) :
    Con Tryz.prog 292 [.pointer (some ⟨K.b, 0, none⟩), .int .i64 a, .int .i64 b] h m fun e h' m' => h' = h ∧ e = .returned (.int .i64 (andS ins.length (ands, full) a b).1) ∧
      ∃ K', MkI h m' K' ins (andS ins.length (ands, full) a b).2.1 (andS ins.length (ands, full) a b).2.2 ∧ MkS K K' m m' := by
  obtain ⟨kb, bat, bin, vI, vA⟩ := K
  obtain ⟨ck, hI, hA, hat, hin, hne, hown, hrng, hsm⟩ := hM
  dsimp only at ck hI hA hat hin hne hown ⊢
  obtain ⟨ia, ic, rfl, -⟩ := hI.s
  obtain ⟨aa, ac, rfl⟩ := hA.sl
  have ea : Ed (min a b) := by unfold Ed at *; omega
  have eb : Ed (max a b) := by unfold Ed at *; omega
  have hk2 : K2 (ι2 (min a b, max a b)) := isK2 (by unfold Ed at ea; unfold R64; omega) (by unfold Ed at eb; unfold R64; omega)
  have hx1 : IntKind.i64.wrap (BitVec.ofInt IntKind.i64.bits (min a b) ^^^ BitVec.ofInt IntKind.i64.bits 1).toNat = x1 (min a b) := xor1 ea.1 (by unfold Ed at ea; omega)
  have k2 : Cell h m kb 2 (.slice aa ands.length ac) := Cell.of ck rfl
  have k1 : Cell h m kb 1 (.slice ia ins.length ic) := Cell.of ck rfl
  have k3 : Cell h m kb 3 (.map (some bat)) := Cell.of ck rfl
  refine fn_of (nt := 80) T Tryz.func292 rfl (by kernel_rfl) Tryz.ntmps292 (by simp) T_ok T_mixed fun C hC => ?_
  simp only [Tryz.f292, argFr, Nat.zero_add, Nat.reduceAdd] at hC ⊢
  ((try (conv => whnf)); repeat ((first | refine And.intro ?_ True.intro | refine And.intro ⟨by omega, by omega⟩ ?_ | refine ⟨_, (by assumption : RO.c _ _ _ = _), ?_⟩ | refine ⟨_, _, _, (by assumption : (_ : Option Obj) = _), ?_⟩ | refine ⟨_, _, _, (by assumption : RO.c _ _ _ = _), ?_⟩ | refine ⟨_, (by assumption : Row _ _ _ _), ?_⟩ | refine ⟨_, (by assumption : Cell _ _ _ _ _), ?_⟩ | refine ⟨_, _, _, (by assumption : Cell _ _ _ _ _), ?_⟩ | refine ⟨_, Or.inl (by assumption), ?_⟩ | refine ⟨_, _, _, Or.inl (by assumption), ?_⟩ | refine And.intro (ints_one _) ?_ | refine And.intro (by omega) ?_ | refine d1 ?_ | refine d2 ?_ | refine d3 ?_ | refine d4 ?_ | refine go G292 400 hC (by kernel_rfl) ?_); (conv => whnf)))
  refine ⟨fun hq => ?_, fun hq => ?_⟩ <;> ((try (conv => whnf)); repeat ((first | refine And.intro ?_ True.intro | refine And.intro ⟨by omega, by omega⟩ ?_ | refine ⟨_, (by assumption : RO.c _ _ _ = _), ?_⟩ | refine ⟨_, _, _, (by assumption : (_ : Option Obj) = _), ?_⟩ | refine ⟨_, _, _, (by assumption : RO.c _ _ _ = _), ?_⟩ | refine ⟨_, (by assumption : Row _ _ _ _), ?_⟩ | refine ⟨_, (by assumption : Cell _ _ _ _ _), ?_⟩ | refine ⟨_, _, _, (by assumption : Cell _ _ _ _ _), ?_⟩ | refine ⟨_, Or.inl (by assumption), ?_⟩ | refine ⟨_, _, _, Or.inl (by assumption), ?_⟩ | refine And.intro (ints_one _) ?_ | refine And.intro (by omega) ?_ | refine d1 ?_ | refine d2 ?_ | refine d3 ?_ | refine d4 ?_ | refine go G292 400 hC (by kernel_rfl) ?_); (conv => whnf)))
  · refine ⟨fun _ => ?_, fun hq2 => absurd hq (by rw [hq2]; exact Bool.false_ne_true)⟩
    ((try (conv => whnf)); repeat ((first | refine And.intro ?_ True.intro | refine And.intro ⟨by omega, by omega⟩ ?_ | refine ⟨_, (by assumption : RO.c _ _ _ = _), ?_⟩ | refine ⟨_, _, _, (by assumption : (_ : Option Obj) = _), ?_⟩ | refine ⟨_, _, _, (by assumption : RO.c _ _ _ = _), ?_⟩ | refine ⟨_, (by assumption : Row _ _ _ _), ?_⟩ | refine ⟨_, (by assumption : Cell _ _ _ _ _), ?_⟩ | refine ⟨_, _, _, (by assumption : Cell _ _ _ _ _), ?_⟩ | refine ⟨_, Or.inl (by assumption), ?_⟩ | refine ⟨_, _, _, Or.inl (by assumption), ?_⟩ | refine And.intro (ints_one _) ?_ | refine And.intro (by omega) ?_ | refine d1 ?_ | refine d2 ?_ | refine d3 ?_ | refine d4 ?_ | refine go G292 400 hC (by kernel_rfl) ?_); (conv => whnf)))
    have e : andS ins.length (ands, full) a b = (0, ands, full) := by simp [andS, hq]
    rw [e]
    exact ⟨rfl, rfl, ⟨kb, bat, bin, _, _⟩, ⟨ck, hI, hA, hat, hin, hne, hown, hrng, hsm⟩, MkS.refl _ _⟩
  refine ⟨fun hq2 => ?_, fun hq2 => ?_⟩ <;> rw [hx1] at hq2 <;> ((try (conv => whnf)); repeat ((first | refine And.intro ?_ True.intro | refine And.intro ⟨by omega, by omega⟩ ?_ | refine ⟨_, (by assumption : RO.c _ _ _ = _), ?_⟩ | refine ⟨_, _, _, (by assumption : (_ : Option Obj) = _), ?_⟩ | refine ⟨_, _, _, (by assumption : RO.c _ _ _ = _), ?_⟩ | refine ⟨_, (by assumption : Row _ _ _ _), ?_⟩ | refine ⟨_, (by assumption : Cell _ _ _ _ _), ?_⟩ | refine ⟨_, _, _, (by assumption : Cell _ _ _ _ _), ?_⟩ | refine ⟨_, Or.inl (by assumption), ?_⟩ | refine ⟨_, _, _, Or.inl (by assumption), ?_⟩ | refine And.intro (ints_one _) ?_ | refine And.intro (by omega) ?_ | refine d1 ?_ | refine d2 ?_ | refine d3 ?_ | refine d4 ?_ | refine go G292 400 hC (by kernel_rfl) ?_); (conv => whnf)))
  · have e : andS ins.length (ands, full) a b = (0, ands, full) := by simp [andS, hq, hq2]
    rw [e]
    exact ⟨rfl, rfl, ⟨kb, bat, bin, _, _⟩, ⟨ck, hI, hA, hat, hin, hne, hown, hrng, hsm⟩, MkS.refl _ _⟩
  have h01 : (min a b == 0 || x1 (min a b) == max a b) = false := by rw [hq, hq2]; rfl
  refine ⟨fun hq3 => ?_, fun hq3 => ?_⟩ <;> ((try (conv => whnf)); repeat ((first | refine And.intro ?_ True.intro | refine And.intro ⟨by omega, by omega⟩ ?_ | refine ⟨_, (by assumption : RO.c _ _ _ = _), ?_⟩ | refine ⟨_, _, _, (by assumption : (_ : Option Obj) = _), ?_⟩ | refine ⟨_, _, _, (by assumption : RO.c _ _ _ = _), ?_⟩ | refine ⟨_, (by assumption : Row _ _ _ _), ?_⟩ | refine ⟨_, (by assumption : Cell _ _ _ _ _), ?_⟩ | refine ⟨_, _, _, (by assumption : Cell _ _ _ _ _), ?_⟩ | refine ⟨_, Or.inl (by assumption), ?_⟩ | refine ⟨_, _, _, Or.inl (by assumption), ?_⟩ | refine And.intro (ints_one _) ?_ | refine And.intro (by omega) ?_ | refine d1 ?_ | refine d2 ?_ | refine d3 ?_ | refine d4 ?_ | refine go G292 400 hC (by kernel_rfl) ?_); (conv => whnf)))
  · refine ⟨fun _ => ?_, fun hq4 => absurd hq3 (by rw [hq4]; exact Bool.false_ne_true)⟩
    ((try (conv => whnf)); repeat ((first | refine And.intro ?_ True.intro | refine And.intro ⟨by omega, by omega⟩ ?_ | refine ⟨_, (by assumption : RO.c _ _ _ = _), ?_⟩ | refine ⟨_, _, _, (by assumption : (_ : Option Obj) = _), ?_⟩ | refine ⟨_, _, _, (by assumption : RO.c _ _ _ = _), ?_⟩ | refine ⟨_, (by assumption : Row _ _ _ _), ?_⟩ | refine ⟨_, (by assumption : Cell _ _ _ _ _), ?_⟩ | refine ⟨_, _, _, (by assumption : Cell _ _ _ _ _), ?_⟩ | refine ⟨_, Or.inl (by assumption), ?_⟩ | refine ⟨_, _, _, Or.inl (by assumption), ?_⟩ | refine And.intro (ints_one _) ?_ | refine And.intro (by omega) ?_ | refine d1 ?_ | refine d2 ?_ | refine d3 ?_ | refine d4 ?_ | refine go G292 400 hC (by kernel_rfl) ?_); (conv => whnf)))
    have e : andS ins.length (ands, full) a b = (max a b, ands, full) := by simp only [andS, h01, hq3, Bool.true_or]
    rw [e]
    exact ⟨rfl, rfl, ⟨kb, bat, bin, _, _⟩, ⟨ck, hI, hA, hat, hin, hne, hown, hrng, hsm⟩, MkS.refl _ _⟩
  refine ⟨fun hq4 => ?_, fun hq4 => ?_⟩ <;> ((try (conv => whnf)); repeat ((first | refine And.intro ?_ True.intro | refine And.intro ⟨by omega, by omega⟩ ?_ | refine ⟨_, (by assumption : RO.c _ _ _ = _), ?_⟩ | refine ⟨_, _, _, (by assumption : (_ : Option Obj) = _), ?_⟩ | refine ⟨_, _, _, (by assumption : RO.c _ _ _ = _), ?_⟩ | refine ⟨_, (by assumption : Row _ _ _ _), ?_⟩ | refine ⟨_, (by assumption : Cell _ _ _ _ _), ?_⟩ | refine ⟨_, _, _, (by assumption : Cell _ _ _ _ _), ?_⟩ | refine ⟨_, Or.inl (by assumption), ?_⟩ | refine ⟨_, _, _, Or.inl (by assumption), ?_⟩ | refine And.intro (ints_one _) ?_ | refine And.intro (by omega) ?_ | refine d1 ?_ | refine d2 ?_ | refine d3 ?_ | refine d4 ?_ | refine go G292 400 hC (by kernel_rfl) ?_); (conv => whnf)))
  · have e : andS ins.length (ands, full) a b = (max a b, ands, full) := by simp only [andS, h01, hq3, hq4, Bool.false_or]
    rw [e]
    exact ⟨rfl, rfl, ⟨kb, bat, bin, _, _⟩, ⟨ck, hI, hA, hat, hin, hne, hown, hrng, hsm⟩, MkS.refl _ _⟩
  have h23 : (min a b == 1 || min a b == max a b) = false := by rw [hq3, hq4]; rfl
  have hat0 := hat
  obtain ⟨es, ek, F, e1, hO⟩ := hat
  refine ⟨es, ek, _, F, ⟨.inl e1, key2, hO.r, hk2⟩, ?_⟩
  erw [hO.eq (min a b, max a b)]
  cases hcx : ands.contains (min a b, max a b) with
  | true =>
    have e : atF ins.length ands (min a b, max a b) = some (.int .i64 ((2 * (1 + ins.length + ands.idxOf (min a b, max a b)) : Nat) : Int)) := by rw [atF, hcx]
    rw [e]
    ((try (conv => whnf)); repeat ((first | refine And.intro ?_ True.intro | refine And.intro ⟨by omega, by omega⟩ ?_ | refine ⟨_, (by assumption : RO.c _ _ _ = _), ?_⟩ | refine ⟨_, _, _, (by assumption : (_ : Option Obj) = _), ?_⟩ | refine ⟨_, _, _, (by assumption : RO.c _ _ _ = _), ?_⟩ | refine ⟨_, (by assumption : Row _ _ _ _), ?_⟩ | refine ⟨_, (by assumption : Cell _ _ _ _ _), ?_⟩ | refine ⟨_, _, _, (by assumption : Cell _ _ _ _ _), ?_⟩ | refine ⟨_, Or.inl (by assumption), ?_⟩ | refine ⟨_, _, _, Or.inl (by assumption), ?_⟩ | refine And.intro (ints_one _) ?_ | refine And.intro (by omega) ?_ | refine d1 ?_ | refine d2 ?_ | refine d3 ?_ | refine d4 ?_ | refine go G292 400 hC (by kernel_rfl) ?_); (conv => whnf)))
    have e : andS ins.length (ands, full) a b = (((2 * (1 + ins.length + ands.idxOf (min a b, max a b)) : Nat) : Int), ands, full) := by simp only [andS, h01, h23, hcx]
    rw [e]
    exact ⟨rfl, rfl, ⟨kb, bat, bin, _, _⟩, ⟨ck, hI, hA, hat0, hin, hne, hown, hrng, hsm⟩, MkS.refl _ _⟩
  | false =>
    have e : atF ins.length ands (min a b, max a b) = none := by rw [atF, hcx]
    rw [e]
    ((try (conv => whnf)); repeat ((first | refine And.intro ?_ True.intro | refine And.intro ⟨by omega, by omega⟩ ?_ | refine ⟨_, (by assumption : RO.c _ _ _ = _), ?_⟩ | refine ⟨_, _, _, (by assumption : (_ : Option Obj) = _), ?_⟩ | refine ⟨_, _, _, (by assumption : RO.c _ _ _ = _), ?_⟩ | refine ⟨_, (by assumption : Row _ _ _ _), ?_⟩ | refine ⟨_, (by assumption : Cell _ _ _ _ _), ?_⟩ | refine ⟨_, _, _, (by assumption : Cell _ _ _ _ _), ?_⟩ | refine ⟨_, Or.inl (by assumption), ?_⟩ | refine ⟨_, _, _, Or.inl (by assumption), ?_⟩ | refine And.intro (ints_one _) ?_ | refine And.intro (by omega) ?_ | refine d1 ?_ | refine d2 ?_ | refine d3 ?_ | refine d4 ?_ | refine go G292 400 hC (by kernel_rfl) ?_); (conv => whnf)))
    (refine Con.mono (nodes_spec (by omega) (by omega)) ?_; rintro _ _ _ - ⟨rfl, rfl, rfl⟩; ((try (conv => whnf)); repeat ((first | refine And.intro ?_ True.intro | refine And.intro ⟨by omega, by omega⟩ ?_ | refine ⟨_, (by assumption : RO.c _ _ _ = _), ?_⟩ | refine ⟨_, _, _, (by assumption : (_ : Option Obj) = _), ?_⟩ | refine ⟨_, _, _, (by assumption : RO.c _ _ _ = _), ?_⟩ | refine ⟨_, (by assumption : Row _ _ _ _), ?_⟩ | refine ⟨_, (by assumption : Cell _ _ _ _ _), ?_⟩ | refine ⟨_, _, _, (by assumption : Cell _ _ _ _ _), ?_⟩ | refine ⟨_, Or.inl (by assumption), ?_⟩ | refine ⟨_, _, _, Or.inl (by assumption), ?_⟩ | refine And.intro (ints_one _) ?_ | refine And.intro (by omega) ?_ | refine d1 ?_ | refine d2 ?_ | refine d3 ?_ | refine d4 ?_ | refine go G292 400 hC (by kernel_rfl) ?_); (conv => whnf))))
    refine ⟨fun hq5 => ?_, fun hq5 => ?_⟩ <;> ((try (conv => whnf)); repeat ((first | refine And.intro ?_ True.intro | refine And.intro ⟨by omega, by omega⟩ ?_ | refine ⟨_, (by assumption : RO.c _ _ _ = _), ?_⟩ | refine ⟨_, _, _, (by assumption : (_ : Option Obj) = _), ?_⟩ | refine ⟨_, _, _, (by assumption : RO.c _ _ _ = _), ?_⟩ | refine ⟨_, (by assumption : Row _ _ _ _), ?_⟩ | refine ⟨_, (by assumption : Cell _ _ _ _ _), ?_⟩ | refine ⟨_, _, _, (by assumption : Cell _ _ _ _ _), ?_⟩ | refine ⟨_, Or.inl (by assumption), ?_⟩ | refine ⟨_, _, _, Or.inl (by assumption), ?_⟩ | refine And.intro (ints_one _) ?_ | refine And.intro (by omega) ?_ | refine d1 ?_ | refine d2 ?_ | refine d3 ?_ | refine d4 ?_ | refine go G292 400 hC (by kernel_rfl) ?_); (conv => whnf)))
    · refine ⟨_, _, ck, by show 6 ≤ 6; omega, ?_⟩
      ((try (conv => whnf)); repeat ((first | refine And.intro ?_ True.intro | refine And.intro ⟨by omega, by omega⟩ ?_ | refine ⟨_, (by assumption : RO.c _ _ _ = _), ?_⟩ | refine ⟨_, _, _, (by assumption : (_ : Option Obj) = _), ?_⟩ | refine ⟨_, _, _, (by assumption : RO.c _ _ _ = _), ?_⟩ | refine ⟨_, (by assumption : Row _ _ _ _), ?_⟩ | refine ⟨_, (by assumption : Cell _ _ _ _ _), ?_⟩ | refine ⟨_, _, _, (by assumption : Cell _ _ _ _ _), ?_⟩ | refine ⟨_, Or.inl (by assumption), ?_⟩ | refine ⟨_, _, _, Or.inl (by assumption), ?_⟩ | refine And.intro (ints_one _) ?_ | refine And.intro (by omega) ?_ | refine d1 ?_ | refine d2 ?_ | refine d3 ?_ | refine d4 ?_ | refine go G292 400 hC (by kernel_rfl) ?_); (conv => whnf)))
      have e : andS ins.length (ands, full) a b = (0, ands, true) := by simp only [andS, h01, h23, hcx, hq5]
      rw [e]
      refine ⟨rfl, rfl, ⟨kb, bat, bin, .slice ia ins.length ic, .slice aa ands.length ac⟩, ⟨Hp.set_eq, hI, hA.set hown _, hat0.other (hat0.ne ck) _, hin.other (hin.ne ck) _, hne, hown, hrng, hsm⟩, ⟨fun k o eo hn => ?_, fun k hf => .inl hf, rfl⟩⟩
      have : k ≠ kb := fun e' => hn (.inl e')
      rw [Hp.set_ne this]; exact eo
    · refine Con.mono (nodes_spec (by omega) (by omega)) ?_
      rintro _ h'' m'' - ⟨rfl, rfl, rfl⟩
      ((try (conv => whnf)); repeat ((first | refine And.intro ?_ True.intro | refine And.intro ⟨by omega, by omega⟩ ?_ | refine ⟨_, (by assumption : RO.c _ _ _ = _), ?_⟩ | refine ⟨_, _, _, (by assumption : (_ : Option Obj) = _), ?_⟩ | refine ⟨_, _, _, (by assumption : RO.c _ _ _ = _), ?_⟩ | refine ⟨_, (by assumption : Row _ _ _ _), ?_⟩ | refine ⟨_, (by assumption : Cell _ _ _ _ _), ?_⟩ | refine ⟨_, _, _, (by assumption : Cell _ _ _ _ _), ?_⟩ | refine ⟨_, Or.inl (by assumption), ?_⟩ | refine ⟨_, _, _, Or.inl (by assumption), ?_⟩ | refine And.intro (ints_one _) ?_ | refine And.intro (by omega) ?_ | refine d1 ?_ | refine d2 ?_ | refine d3 ?_ | refine d4 ?_ | refine go G292 400 hC (by kernel_rfl) ?_); (conv => whnf)))
      have hq5' : ¬ (1 + ins.length + ands.length ≥ 200000) := by simp at hq5; omega
      have hw : IntKind.i64.wrap (2 * ((1 + ins.length + ands.length : Nat) : Int)) = ((2 * (1 + ins.length + ands.length) : Nat) : Int) := by rw [w64 (by omega) (by omega)]; omega
      refine ⟨ands.length, pairs ands, And.intro hA (by show (ands.length + 1) * 16 ≤ 140737488355328; omega), fun x m9 hr9 ht9 => ?_⟩
      obtain ⟨xa, xk, rfl⟩ := MRow.sl hr9
      have hown' : Value.ownBlock (.slice aa ands.length ac) ≠ some kb := fun e => hown _ e rfl
      have ck9 := ht9.keep2 ck hown'
      obtain ⟨es1, ek1, F1, em1, hO1⟩ := hat0
      have hat9 : MapX K2 ι2 m9 bat (atF ins.length ands) := ⟨es1, ek1, F1, ht9.keep hA em1 rfl, hO1⟩
      obtain ⟨es2, ek2, F2, em2, hO2⟩ := hin
      have hin9 : MapX IK ιI m9 bin (inF ins) := ⟨es2, ek2, F2, ht9.keep hA em2 rfl, hO2⟩
      have hxo : ∀ g, Value.ownBlock (.slice xa (ands.length + 1) xk) = some g → g ≠ kb := fun g e e' => by
        subst e'
        rcases ht9.own e with q | q
        · exact hown' q
        · rw [ck] at q; cases q
      ((try (conv => whnf)); repeat ((first | refine And.intro ?_ True.intro | refine And.intro ⟨by omega, by omega⟩ ?_ | refine ⟨_, (by assumption : RO.c _ _ _ = _), ?_⟩ | refine ⟨_, _, _, (by assumption : (_ : Option Obj) = _), ?_⟩ | refine ⟨_, _, _, (by assumption : RO.c _ _ _ = _), ?_⟩ | refine ⟨_, (by assumption : Row _ _ _ _), ?_⟩ | refine ⟨_, (by assumption : Cell _ _ _ _ _), ?_⟩ | refine ⟨_, _, _, (by assumption : Cell _ _ _ _ _), ?_⟩ | refine ⟨_, Or.inl (by assumption), ?_⟩ | refine ⟨_, _, _, Or.inl (by assumption), ?_⟩ | refine And.intro (ints_one _) ?_ | refine And.intro (by omega) ?_ | refine d1 ?_ | refine d2 ?_ | refine d3 ?_ | refine d4 ?_ | refine go G292 400 hC (by kernel_rfl) ?_); (conv => whnf)))
      refine ⟨_, _, ck9, by show 3 ≤ 6; omega, ?_⟩
      have ckb : (m9.set kb (.cells #[.bool true, .slice ia ins.length ic, .slice xa (ands.length + 1) xk, .map (some bat), .map (some bin), .bool full] 243)) kb = some (.cells #[.bool true, .slice ia ins.length ic, .slice xa (ands.length + 1) xk, .map (some bat), .map (some bin), .bool full] 243) := Hp.set_eq
      have k3b : Cell h'' (m9.set kb (.cells #[.bool true, .slice ia ins.length ic, .slice xa (ands.length + 1) xk, .map (some bat), .map (some bin), .bool full] 243)) kb 3 (.map (some bat)) := Cell.of ckb rfl
      have hrow : MRow (m9.set kb (.cells #[.bool true, .slice ia ins.length ic, .slice xa (ands.length + 1) xk, .map (some bat), .map (some bin), .bool full] 243)) 158 2 (.slice xa (ands.length + 1) xk) (ands.length + 1) (pairs ands ++ [.int .i64 (min a b), .int .i64 (max a b)]) := MRow.set hr9 hxo _
      have hatb := hat9.other (hat9.ne ck9) (.cells #[.bool true, .slice ia ins.length ic, .slice xa (ands.length + 1) xk, .map (some bat), .map (some bin), .bool full] 243)
      have hinb := hin9.other (hin9.ne ck9) (.cells #[.bool true, .slice ia ins.length ic, .slice xa (ands.length + 1) xk, .map (some bat), .map (some bin), .bool full] 243)
      ((try (conv => whnf)); repeat ((first | refine And.intro ?_ True.intro | refine And.intro ⟨by omega, by omega⟩ ?_ | refine ⟨_, (by assumption : RO.c _ _ _ = _), ?_⟩ | refine ⟨_, _, _, (by assumption : (_ : Option Obj) = _), ?_⟩ | refine ⟨_, _, _, (by assumption : RO.c _ _ _ = _), ?_⟩ | refine ⟨_, (by assumption : Row _ _ _ _), ?_⟩ | refine ⟨_, (by assumption : Cell _ _ _ _ _), ?_⟩ | refine ⟨_, _, _, (by assumption : Cell _ _ _ _ _), ?_⟩ | refine ⟨_, Or.inl (by assumption), ?_⟩ | refine ⟨_, _, _, Or.inl (by assumption), ?_⟩ | refine And.intro (ints_one _) ?_ | refine And.intro (by omega) ?_ | refine d1 ?_ | refine d2 ?_ | refine d3 ?_ | refine d4 ?_ | refine go G292 400 hC (by kernel_rfl) ?_); (conv => whnf)))
      have hatb0 := hatb
      obtain ⟨es3, ek3, F3, em3, hO3⟩ := hatb
      refine ⟨es3, ek3, _, F3, ⟨em3, key2, hO3.r, hk2⟩, fun es' ck' hr' => ?_⟩
      have hat' := ((hO3.upd ι2_inj (x := (min a b, max a b)) (v := some (.int .i64 ((2 * (1 + ins.length + ands.length) : Nat) : Int))) (by rw [← hw]; exact hr')).x (clock := ck') (m9.set kb (.cells #[.bool true, .slice ia ins.length ic, .slice xa (ands.length + 1) xk, .map (some bat), .map (some bin), .bool full] 243)) bat).congr (f' := atF ins.length (ands ++ [(min a b, max a b)])) (fun v => atF_snoc hcx v)
      have hrow' := hrow.setMap hatb0 (.map es' ck')
      have hnk : kb ≠ bat := (hatb0.ne ckb).symm
      have hin' := hinb.other hne.symm (.map es' ck')
      ((try (conv => whnf)); repeat ((first | refine And.intro ?_ True.intro | refine And.intro ⟨by omega, by omega⟩ ?_ | refine ⟨_, (by assumption : RO.c _ _ _ = _), ?_⟩ | refine ⟨_, _, _, (by assumption : (_ : Option Obj) = _), ?_⟩ | refine ⟨_, _, _, (by assumption : RO.c _ _ _ = _), ?_⟩ | refine ⟨_, (by assumption : Row _ _ _ _), ?_⟩ | refine ⟨_, (by assumption : Cell _ _ _ _ _), ?_⟩ | refine ⟨_, _, _, (by assumption : Cell _ _ _ _ _), ?_⟩ | refine ⟨_, Or.inl (by assumption), ?_⟩ | refine ⟨_, _, _, Or.inl (by assumption), ?_⟩ | refine And.intro (ints_one _) ?_ | refine And.intro (by omega) ?_ | refine d1 ?_ | refine d2 ?_ | refine d3 ?_ | refine d4 ?_ | refine go G292 400 hC (by kernel_rfl) ?_); (conv => whnf)))
      have e : andS ins.length (ands, full) a b = (((2 * (1 + ins.length + ands.length) : Nat) : Int), ands ++ [(min a b, max a b)], full) := by simp only [andS, h01, h23, hcx, hq5]
      rw [e]
      refine ⟨rfl, by rw [← hw]; rfl, ⟨kb, bat, bin, .slice ia ins.length ic, .slice xa (ands.length + 1) xk⟩, ⟨(Hp.set_ne hnk).trans ckb, hI, ?_, hat', hin', hne, hxo, ?_, ?_⟩, ⟨fun k o eo hn => ?_, fun k hf => ?_, rfl⟩⟩
      · rw [List.length_append, pairs_append]; exact hrow'
      · intro p hp
        rcases List.mem_append.1 hp with hp | hp
        · exact hrng p hp
        · simp at hp; subst hp; unfold Ed at ea eb; unfold R64; dsimp only; omega
      · simp; omega
      · have n1 : k ≠ kb := fun e' => hn (.inl e')
        have n2 : k ≠ bat := fun e' => hn (.inr (.inl e'))
        have : m9 k = some o := ht9.keep2 eo fun e' => hn (.inr (.inr (.inr e')))
        show ((m9.set kb _).set bat _) k = _
        rw [Hp.set_ne n2, Hp.set_ne n1]; exact this
      · rcases hf with hf | hf | hf | hf
        · exact .inl (.inl hf)
        · exact .inl (.inr (.inl hf))
        · exact .inl (.inr (.inr (.inl hf)))
        · rcases ht9.own hf with q | q
          · exact .inl (.inr (.inr (.inr q)))
          · exact .inr q
end Go.Proofs.YtoefoaabnjeofaaGreat
namespace Go.Proofs.YtoefoaabnjeofaaGreat
open Go.SX
set_option maxHeartbeats 4000000
set_option maxRecDepth 20000
theorem andS_ed {n : Nat} {st : List Pr × Bool} {a b : Int} (hs : 1 + n + st.1.length ≤ 200000) (ha : Ed a) (hb : Ed b) : Ed (andS n st a b).1 := by
  unfold Ed at *
  unfold andS
  split
  · exact ⟨Int.le_refl _, by show (0 : Int) < _; decide⟩
  · dsimp only; omega
  · rename_i h _
    have : st.1.idxOf (min a b, max a b) ≤ st.1.length := List.idxOf_le_length
    dsimp only; omega
  · exact ⟨Int.le_refl _, by show (0 : Int) < _; decide⟩
  · dsimp only; omega
/-- 'and' over a list. -/
def foldA (n : Nat) (f : Int → Int) (st : List Pr × Bool) (l : List Int) : Int × List Pr × Bool := l.foldl (fun s x => andS n s.2 s.1 (f x)) (1, st)
theorem foldA_snoc (n : Nat) (f : Int → Int) (st : List Pr × Bool) (l : List Int) (x : Int) : foldA n f st (l ++ [x]) = andS n (foldA n f st l).2 (foldA n f st l).1 (f x) := by simp [foldA]
def G247 : Gv := ⟨[], [], []⟩
theorem every_spec {u : Value} {l : List Int} {K : Mk} {ins : List Int} {ands : List Pr} {full : Bool} {h : RO} {m : Hp} (hM : MkI h m K ins ands full) (hl : IntS h u l) (he : ∀ x ∈ l, Ed x ∧ Ed (id x)) :
    Con Tryz.prog 247 [.pointer (some ⟨K.b, 0, none⟩), u] h m fun e h' m' => h' = h ∧ e = .returned (.int .i64 (foldA ins.length id (ands, full) l).1) ∧
      ∃ K', MkI h m' K' ins (foldA ins.length id (ands, full) l).2.1 (foldA ins.length id (ands, full) l).2.2 ∧ MkS K K' m m' := by
  obtain ⟨a, c, rfl, hr⟩ := hl.s
  have hla := hl.len
  refine fn_of (nt := 20) T Tryz.func247 rfl (by kernel_rfl) Tryz.ntmps247 (by simp) T_ok T_mixed fun C hC => ?_
  simp only [Tryz.f247, argFr, Nat.zero_add, Nat.reduceAdd] at hC ⊢
  ((try (conv => whnf)); repeat ((first | refine And.intro ?_ True.intro | refine And.intro ⟨by omega, by omega⟩ ?_ | refine ⟨_, (by assumption : RO.c _ _ _ = _), ?_⟩ | refine ⟨_, _, _, (by assumption : (_ : Option Obj) = _), ?_⟩ | refine ⟨_, _, _, (by assumption : RO.c _ _ _ = _), ?_⟩ | refine ⟨_, (by assumption : Row _ _ _ _), ?_⟩ | refine ⟨_, (by assumption : Cell _ _ _ _ _), ?_⟩ | refine ⟨_, _, _, (by assumption : Cell _ _ _ _ _), ?_⟩ | refine ⟨_, Or.inl (by assumption), ?_⟩ | refine ⟨_, _, _, Or.inl (by assumption), ?_⟩ | refine And.intro (ints_one _) ?_ | refine And.intro (by omega) ?_ | refine d1 ?_ | refine d2 ?_ | refine d3 ?_ | refine d4 ?_ | refine go G247 400 hC (by kernel_rfl) ?_); (conv => whnf)))
  refine halt (sx_loopK (X := Nat) [0, 8, 9] (fun i => [(5, .v (.int .i64 (foldA ins.length id (ands, full) (l.take i)).1)), (10, .v (.int .i64 i))]) (fun _ => [])
    (fun i h' m' => i ≤ l.length ∧ h' = h ∧ Ed (foldA ins.length id (ands, full) (l.take i)).1 ∧ ∃ K', MkI h m' K' ins (foldA ins.length id (ands, full) (l.take i)).2.1 (foldA ins.length id (ands, full) (l.take i)).2.2 ∧ MkS K K' m m') (fun i => l.length - i) 0 (by repeat (first | exact Keep.nil | apply Keep.cons rfl | apply Keep.skip rfl)) ⟨[], ⟨by simp [sinj], by repeat (first | exact trivial | refine ⟨rfl, ?_⟩ | refine ⟨⟨rfl, rfl⟩, ?_⟩ | refine ⟨⟨rfl, rfl, rfl⟩, ?_⟩ | refine ⟨stepI (by omega), ?_⟩ | refine ⟨by assumption, ?_⟩), by repeat (first | exact trivial | refine ⟨rfl, ?_⟩ | refine ⟨⟨rfl, rfl, rfl⟩, ?_⟩ | refine ⟨by assumption, ?_⟩)⟩⟩
    ⟨by omega, rfl, ⟨(by show (0 : Int) ≤ 1; decide), (by show (1 : Int) < 4611686018427387904; decide)⟩, K, hM, MkS.refl _ _⟩ ?_)
  rintro i h' m' - ⟨hi, rfl, hE, K', hK', hS⟩
  ((try (conv => whnf)); repeat ((first | refine And.intro ?_ True.intro | refine And.intro ⟨by omega, by omega⟩ ?_ | refine ⟨_, (by assumption : RO.c _ _ _ = _), ?_⟩ | refine ⟨_, _, _, (by assumption : (_ : Option Obj) = _), ?_⟩ | refine ⟨_, _, _, (by assumption : RO.c _ _ _ = _), ?_⟩ | refine ⟨_, (by assumption : Row _ _ _ _), ?_⟩ | refine ⟨_, (by assumption : Cell _ _ _ _ _), ?_⟩ | refine ⟨_, _, _, (by assumption : Cell _ _ _ _ _), ?_⟩ | refine ⟨_, Or.inl (by assumption), ?_⟩ | refine ⟨_, _, _, Or.inl (by assumption), ?_⟩ | refine And.intro (ints_one _) ?_ | refine And.intro (by omega) ?_ | refine d1 ?_ | refine d2 ?_ | refine d3 ?_ | refine d4 ?_ | refine go G247 400 hC (by kernel_rfl) ?_); (conv => whnf)))
  refine ⟨fun hlt => ?_, fun hge => ?_⟩
  · have hlt : i < l.length := by simpa using hlt
    obtain ⟨p, q, rfl, hcc⟩ := hl.get hlt
    have c1 := hcc i hlt
    have hxe := he _ (g_mem hlt)
    have hsn : foldA ins.length id (ands, full) (l.take (i + 1)) = andS ins.length (foldA ins.length id (ands, full) (l.take i)).2 (foldA ins.length id (ands, full) (l.take i)).1 (id (g l i)) := by
      rw [List.take_add_one, g_get hlt]; exact foldA_snoc _ _ _ _ _
    have hc := and_spec hK' hE hxe.2
    rw [hS.b] at hc
    have hE' := andS_ed (n := ins.length) (st := (foldA ins.length id (ands, full) (l.take i)).2) hK'.small hE hxe.2
    have hfx : (g l i) = id (g l i) := rfl
    ((try (conv => whnf)); repeat ((first | refine And.intro ?_ True.intro | refine And.intro ⟨by omega, by omega⟩ ?_ | refine ⟨_, (by assumption : RO.c _ _ _ = _), ?_⟩ | refine ⟨_, _, _, (by assumption : (_ : Option Obj) = _), ?_⟩ | refine ⟨_, _, _, (by assumption : RO.c _ _ _ = _), ?_⟩ | refine ⟨_, (by assumption : Row _ _ _ _), ?_⟩ | refine ⟨_, (by assumption : Cell _ _ _ _ _), ?_⟩ | refine ⟨_, _, _, (by assumption : Cell _ _ _ _ _), ?_⟩ | refine ⟨_, Or.inl (by assumption), ?_⟩ | refine ⟨_, _, _, Or.inl (by assumption), ?_⟩ | refine And.intro (ints_one _) ?_ | refine And.intro (by omega) ?_ | refine d1 ?_ | refine d2 ?_ | refine d3 ?_ | refine d4 ?_ | refine go G247 400 hC (by kernel_rfl) ?_); (conv => whnf)))
    (try rw [hfx])
    refine Con.mono hc ?_
    rintro _ _ m2 - ⟨rfl, rfl, K'', hK'', hS'⟩
    ((try (conv => whnf)); repeat ((first | refine And.intro ?_ True.intro | refine And.intro ⟨by omega, by omega⟩ ?_ | refine ⟨_, (by assumption : RO.c _ _ _ = _), ?_⟩ | refine ⟨_, _, _, (by assumption : (_ : Option Obj) = _), ?_⟩ | refine ⟨_, _, _, (by assumption : RO.c _ _ _ = _), ?_⟩ | refine ⟨_, (by assumption : Row _ _ _ _), ?_⟩ | refine ⟨_, (by assumption : Cell _ _ _ _ _), ?_⟩ | refine ⟨_, _, _, (by assumption : Cell _ _ _ _ _), ?_⟩ | refine ⟨_, Or.inl (by assumption), ?_⟩ | refine ⟨_, _, _, Or.inl (by assumption), ?_⟩ | refine And.intro (ints_one _) ?_ | refine And.intro (by omega) ?_ | refine d1 ?_ | refine d2 ?_ | refine d3 ?_ | refine d4 ?_ | refine go G247 400 hC (by kernel_rfl) ?_); (conv => whnf)))
    refine halt ⟨i + 1, [], ⟨by simp [sinj], ⟨by rw [hsn]; rfl, stepI (by omega), ?_⟩, trivial⟩, RO.le.refl _, ⟨hlt, rfl, by rw [hsn]; exact hE', K'', by rw [hsn]; exact hK'', hS.trans hS'⟩, by omega⟩
    repeat (first | exact trivial | refine ⟨rfl, ?_⟩)
  · have hge : i = l.length := by simp at hge; omega
    subst hge
    rw [List.take_length] at hK' hE
    ((try (conv => whnf)); repeat ((first | refine And.intro ?_ True.intro | refine And.intro ⟨by omega, by omega⟩ ?_ | refine ⟨_, (by assumption : RO.c _ _ _ = _), ?_⟩ | refine ⟨_, _, _, (by assumption : (_ : Option Obj) = _), ?_⟩ | refine ⟨_, _, _, (by assumption : RO.c _ _ _ = _), ?_⟩ | refine ⟨_, (by assumption : Row _ _ _ _), ?_⟩ | refine ⟨_, (by assumption : Cell _ _ _ _ _), ?_⟩ | refine ⟨_, _, _, (by assumption : Cell _ _ _ _ _), ?_⟩ | refine ⟨_, Or.inl (by assumption), ?_⟩ | refine ⟨_, _, _, Or.inl (by assumption), ?_⟩ | refine And.intro (ints_one _) ?_ | refine And.intro (by omega) ?_ | refine d1 ?_ | refine d2 ?_ | refine d3 ?_ | refine d4 ?_ | refine go G247 400 hC (by kernel_rfl) ?_); (conv => whnf)))
    rw [List.take_length]
    exact ⟨rfl, rfl, K', hK', hS⟩

def G249 : Gv := ⟨[], [], []⟩
theorem some_spec {u : Value} {l : List Int} {K : Mk} {ins : List Int} {ands : List Pr} {full : Bool} {h : RO} {m : Hp} (hM : MkI h m K ins ands full) (hl : IntS h u l) (he : ∀ x ∈ l, Ed x ∧ Ed (x1 x)) :
    Con Tryz.prog 249 [.pointer (some ⟨K.b, 0, none⟩), u] h m fun e h' m' => h' = h ∧ e = .returned (.int .i64 (x1 (foldA ins.length x1 (ands, full) l).1)) ∧
      ∃ K', MkI h m' K' ins (foldA ins.length x1 (ands, full) l).2.1 (foldA ins.length x1 (ands, full) l).2.2 ∧ MkS K K' m m' := by
  obtain ⟨a, c, rfl, hr⟩ := hl.s
  have hla := hl.len
  refine fn_of (nt := 22) T Tryz.func249 rfl (by kernel_rfl) Tryz.ntmps249 (by simp) T_ok T_mixed fun C hC => ?_
  simp only [Tryz.f249, argFr, Nat.zero_add, Nat.reduceAdd] at hC ⊢
  ((try (conv => whnf)); repeat ((first | refine And.intro ?_ True.intro | refine And.intro ⟨by omega, by omega⟩ ?_ | refine ⟨_, (by assumption : RO.c _ _ _ = _), ?_⟩ | refine ⟨_, _, _, (by assumption : (_ : Option Obj) = _), ?_⟩ | refine ⟨_, _, _, (by assumption : RO.c _ _ _ = _), ?_⟩ | refine ⟨_, (by assumption : Row _ _ _ _), ?_⟩ | refine ⟨_, (by assumption : Cell _ _ _ _ _), ?_⟩ | refine ⟨_, _, _, (by assumption : Cell _ _ _ _ _), ?_⟩ | refine ⟨_, Or.inl (by assumption), ?_⟩ | refine ⟨_, _, _, Or.inl (by assumption), ?_⟩ | refine And.intro (ints_one _) ?_ | refine And.intro (by omega) ?_ | refine d1 ?_ | refine d2 ?_ | refine d3 ?_ | refine d4 ?_ | refine go G249 400 hC (by kernel_rfl) ?_); (conv => whnf)))
  refine halt (sx_loopK (X := Nat) [0, 8, 9] (fun i => [(5, .v (.int .i64 (foldA ins.length x1 (ands, full) (l.take i)).1)), (10, .v (.int .i64 i))]) (fun _ => [])
    (fun i h' m' => i ≤ l.length ∧ h' = h ∧ Ed (foldA ins.length x1 (ands, full) (l.take i)).1 ∧ ∃ K', MkI h m' K' ins (foldA ins.length x1 (ands, full) (l.take i)).2.1 (foldA ins.length x1 (ands, full) (l.take i)).2.2 ∧ MkS K K' m m') (fun i => l.length - i) 0 (by repeat (first | exact Keep.nil | apply Keep.cons rfl | apply Keep.skip rfl)) ⟨[], ⟨by simp [sinj], by repeat (first | exact trivial | refine ⟨rfl, ?_⟩ | refine ⟨⟨rfl, rfl⟩, ?_⟩ | refine ⟨⟨rfl, rfl, rfl⟩, ?_⟩ | refine ⟨stepI (by omega), ?_⟩ | refine ⟨by assumption, ?_⟩), by repeat (first | exact trivial | refine ⟨rfl, ?_⟩ | refine ⟨⟨rfl, rfl, rfl⟩, ?_⟩ | refine ⟨by assumption, ?_⟩)⟩⟩
    ⟨by omega, rfl, ⟨(by show (0 : Int) ≤ 1; decide), (by show (1 : Int) < 4611686018427387904; decide)⟩, K, hM, MkS.refl _ _⟩ ?_)
  rintro i h' m' - ⟨hi, rfl, hE, K', hK', hS⟩
  ((try (conv => whnf)); repeat ((first | refine And.intro ?_ True.intro | refine And.intro ⟨by omega, by omega⟩ ?_ | refine ⟨_, (by assumption : RO.c _ _ _ = _), ?_⟩ | refine ⟨_, _, _, (by assumption : (_ : Option Obj) = _), ?_⟩ | refine ⟨_, _, _, (by assumption : RO.c _ _ _ = _), ?_⟩ | refine ⟨_, (by assumption : Row _ _ _ _), ?_⟩ | refine ⟨_, (by assumption : Cell _ _ _ _ _), ?_⟩ | refine ⟨_, _, _, (by assumption : Cell _ _ _ _ _), ?_⟩ | refine ⟨_, Or.inl (by assumption), ?_⟩ | refine ⟨_, _, _, Or.inl (by assumption), ?_⟩ | refine And.intro (ints_one _) ?_ | refine And.intro (by omega) ?_ | refine d1 ?_ | refine d2 ?_ | refine d3 ?_ | refine d4 ?_ | refine go G249 400 hC (by kernel_rfl) ?_); (conv => whnf)))
  refine ⟨fun hlt => ?_, fun hge => ?_⟩
  · have hlt : i < l.length := by simpa using hlt
    obtain ⟨p, q, rfl, hcc⟩ := hl.get hlt
    have c1 := hcc i hlt
    have hxe := he _ (g_mem hlt)
    have hsn : foldA ins.length x1 (ands, full) (l.take (i + 1)) = andS ins.length (foldA ins.length x1 (ands, full) (l.take i)).2 (foldA ins.length x1 (ands, full) (l.take i)).1 (x1 (g l i)) := by
      rw [List.take_add_one, g_get hlt]; exact foldA_snoc _ _ _ _ _
    have hc := and_spec hK' hE hxe.2
    rw [hS.b] at hc
    have hE' := andS_ed (n := ins.length) (st := (foldA ins.length x1 (ands, full) (l.take i)).2) hK'.small hE hxe.2
    have hfx : IntKind.i64.wrap (BitVec.ofInt IntKind.i64.bits (g l i) ^^^ BitVec.ofInt IntKind.i64.bits 1).toNat = x1 (g l i) := xor1 hxe.1.1 (Int.lt_trans hxe.1.2 (by decide))
    ((try (conv => whnf)); repeat ((first | refine And.intro ?_ True.intro | refine And.intro ⟨by omega, by omega⟩ ?_ | refine ⟨_, (by assumption : RO.c _ _ _ = _), ?_⟩ | refine ⟨_, _, _, (by assumption : (_ : Option Obj) = _), ?_⟩ | refine ⟨_, _, _, (by assumption : RO.c _ _ _ = _), ?_⟩ | refine ⟨_, (by assumption : Row _ _ _ _), ?_⟩ | refine ⟨_, (by assumption : Cell _ _ _ _ _), ?_⟩ | refine ⟨_, _, _, (by assumption : Cell _ _ _ _ _), ?_⟩ | refine ⟨_, Or.inl (by assumption), ?_⟩ | refine ⟨_, _, _, Or.inl (by assumption), ?_⟩ | refine And.intro (ints_one _) ?_ | refine And.intro (by omega) ?_ | refine d1 ?_ | refine d2 ?_ | refine d3 ?_ | refine d4 ?_ | refine go G249 400 hC (by kernel_rfl) ?_); (conv => whnf)))
    (try rw [hfx])
    refine Con.mono hc ?_
    rintro _ _ m2 - ⟨rfl, rfl, K'', hK'', hS'⟩
    ((try (conv => whnf)); repeat ((first | refine And.intro ?_ True.intro | refine And.intro ⟨by omega, by omega⟩ ?_ | refine ⟨_, (by assumption : RO.c _ _ _ = _), ?_⟩ | refine ⟨_, _, _, (by assumption : (_ : Option Obj) = _), ?_⟩ | refine ⟨_, _, _, (by assumption : RO.c _ _ _ = _), ?_⟩ | refine ⟨_, (by assumption : Row _ _ _ _), ?_⟩ | refine ⟨_, (by assumption : Cell _ _ _ _ _), ?_⟩ | refine ⟨_, _, _, (by assumption : Cell _ _ _ _ _), ?_⟩ | refine ⟨_, Or.inl (by assumption), ?_⟩ | refine ⟨_, _, _, Or.inl (by assumption), ?_⟩ | refine And.intro (ints_one _) ?_ | refine And.intro (by omega) ?_ | refine d1 ?_ | refine d2 ?_ | refine d3 ?_ | refine d4 ?_ | refine go G249 400 hC (by kernel_rfl) ?_); (conv => whnf)))
    refine halt ⟨i + 1, [], ⟨by simp [sinj], ⟨by rw [hsn]; rfl, stepI (by omega), ?_⟩, trivial⟩, RO.le.refl _, ⟨hlt, rfl, by rw [hsn]; exact hE', K'', by rw [hsn]; exact hK'', hS.trans hS'⟩, by omega⟩
    repeat (first | exact trivial | refine ⟨rfl, ?_⟩)
  · have hge : i = l.length := by simp at hge; omega
    subst hge
    rw [List.take_length] at hK' hE
    ((try (conv => whnf)); repeat ((first | refine And.intro ?_ True.intro | refine And.intro ⟨by omega, by omega⟩ ?_ | refine ⟨_, (by assumption : RO.c _ _ _ = _), ?_⟩ | refine ⟨_, _, _, (by assumption : (_ : Option Obj) = _), ?_⟩ | refine ⟨_, _, _, (by assumption : RO.c _ _ _ = _), ?_⟩ | refine ⟨_, (by assumption : Row _ _ _ _), ?_⟩ | refine ⟨_, (by assumption : Cell _ _ _ _ _), ?_⟩ | refine ⟨_, _, _, (by assumption : Cell _ _ _ _ _), ?_⟩ | refine ⟨_, Or.inl (by assumption), ?_⟩ | refine ⟨_, _, _, Or.inl (by assumption), ?_⟩ | refine And.intro (ints_one _) ?_ | refine And.intro (by omega) ?_ | refine d1 ?_ | refine d2 ?_ | refine d3 ?_ | refine d4 ?_ | refine go G249 400 hC (by kernel_rfl) ?_); (conv => whnf)))
    rw [List.take_length]
    exact ⟨rfl, (by rw [← xor1 hE.1 (Int.lt_trans hE.2 (by decide))]; rfl), K', hK', hS⟩

end Go.Proofs.YtoefoaabnjeofaaGreat
namespace Go.Proofs.YtoefoaabnjeofaaGreat
open Go.SX
set_option maxHeartbeats 4000000
set_option maxRecDepth 20000
def G174 : Gv := ⟨[], [], []⟩
theorem none_spec {K : Mk} {ins : List Int} {ands : List Pr} {full : Bool} {h : RO} {m : Hp} (hM : MkI h m K ins ands full) :
    Con Tryz.prog 174 [.pointer (some ⟨K.b, 0, none⟩)] h m fun e h' m' => e = .returned (.bool false) ∧ h' = h ∧ m' = m := by
  have k0 : Cell h m K.b 0 (.bool true) := Cell.of hM.cell rfl
  refine fn_of (nt := 12) T Tryz.func174 rfl (by kernel_rfl) Tryz.ntmps174 (by simp) T_ok T_mixed fun C hC => ?_
  simp only [Tryz.f174, argFr, Nat.zero_add, Nat.reduceAdd] at hC ⊢
  ((try (conv => whnf)); repeat ((first | refine And.intro ?_ True.intro | refine And.intro ⟨by omega, by omega⟩ ?_ | refine ⟨_, (by assumption : RO.c _ _ _ = _), ?_⟩ | refine ⟨_, _, _, (by assumption : (_ : Option Obj) = _), ?_⟩ | refine ⟨_, _, _, (by assumption : RO.c _ _ _ = _), ?_⟩ | refine ⟨_, (by assumption : Row _ _ _ _), ?_⟩ | refine ⟨_, (by assumption : Cell _ _ _ _ _), ?_⟩ | refine ⟨_, _, _, (by assumption : Cell _ _ _ _ _), ?_⟩ | refine ⟨_, Or.inl (by assumption), ?_⟩ | refine ⟨_, _, _, Or.inl (by assumption), ?_⟩ | refine And.intro (ints_one _) ?_ | refine And.intro (by omega) ?_ | refine d1 ?_ | refine d2 ?_ | refine d3 ?_ | refine d4 ?_ | refine go G174 400 hC (by kernel_rfl) ?_); (conv => whnf)))
  exact ⟨rfl, rfl, rfl⟩
def G171 : Gv := ⟨[], [], []⟩
theorem in_spec {K : Mk} {ins : List Int} {ands : List Pr} {full : Bool} {x : Int} {h : RO} {m : Hp} (hM : MkI h m K ins ands full) :
    Con Tryz.prog 171 [.pointer (some ⟨K.b, 0, none⟩), .int .i64 x] h m fun e h' m' =>
      e = .returned (match ins.contains x with | true => .tuple #[.int .i64 ((2 * (ins.idxOf x + 1) : Nat) : Int), .int .i64 0] | false => .tuple #[.int .i64 0, .int .i64 6]) ∧ h' = h ∧ m' = m := by
  have k0 : Cell h m K.b 4 (.map (some K.bin)) := Cell.of hM.cell rfl
  refine fn_of (nt := 22) T Tryz.func171 rfl (by kernel_rfl) Tryz.ntmps171 (by simp) T_ok T_mixed fun C hC => ?_
  simp only [Tryz.f171, argFr, Nat.zero_add, Nat.reduceAdd] at hC ⊢
  ((try (conv => whnf)); repeat ((first | refine And.intro ?_ True.intro | refine And.intro ⟨by omega, by omega⟩ ?_ | refine ⟨_, (by assumption : RO.c _ _ _ = _), ?_⟩ | refine ⟨_, _, _, (by assumption : (_ : Option Obj) = _), ?_⟩ | refine ⟨_, _, _, (by assumption : RO.c _ _ _ = _), ?_⟩ | refine ⟨_, (by assumption : Row _ _ _ _), ?_⟩ | refine ⟨_, (by assumption : Cell _ _ _ _ _), ?_⟩ | refine ⟨_, _, _, (by assumption : Cell _ _ _ _ _), ?_⟩ | refine ⟨_, Or.inl (by assumption), ?_⟩ | refine ⟨_, _, _, Or.inl (by assumption), ?_⟩ | refine And.intro (ints_one _) ?_ | refine And.intro (by omega) ?_ | refine d1 ?_ | refine d2 ?_ | refine d3 ?_ | refine d4 ?_ | refine go G171 400 hC (by kernel_rfl) ?_); (conv => whnf)))
  (refine Con.mono (none_spec hM) ?_; rintro _ _ _ - ⟨rfl, rfl, rfl⟩; ((try (conv => whnf)); repeat ((first | refine And.intro ?_ True.intro | refine And.intro ⟨by omega, by omega⟩ ?_ | refine ⟨_, (by assumption : RO.c _ _ _ = _), ?_⟩ | refine ⟨_, _, _, (by assumption : (_ : Option Obj) = _), ?_⟩ | refine ⟨_, _, _, (by assumption : RO.c _ _ _ = _), ?_⟩ | refine ⟨_, (by assumption : Row _ _ _ _), ?_⟩ | refine ⟨_, (by assumption : Cell _ _ _ _ _), ?_⟩ | refine ⟨_, _, _, (by assumption : Cell _ _ _ _ _), ?_⟩ | refine ⟨_, Or.inl (by assumption), ?_⟩ | refine ⟨_, _, _, Or.inl (by assumption), ?_⟩ | refine And.intro (ints_one _) ?_ | refine And.intro (by omega) ?_ | refine d1 ?_ | refine d2 ?_ | refine d3 ?_ | refine d4 ?_ | refine go G171 400 hC (by kernel_rfl) ?_); (conv => whnf))))
  obtain ⟨es, ek, F, e1, hO⟩ := hM.min
  refine ⟨es, ek, _, F, ⟨.inl e1, keyInt, hO.r, isIK _⟩, ?_⟩
  erw [hO.eq x]
  cases hcx : ins.contains x with
  | true =>
    have e : inF ins x = some (.int .i64 ((2 * (ins.idxOf x + 1) : Nat) : Int)) := by rw [inF, hcx]
    rw [e]
    ((try (conv => whnf)); repeat ((first | refine And.intro ?_ True.intro | refine And.intro ⟨by omega, by omega⟩ ?_ | refine ⟨_, (by assumption : RO.c _ _ _ = _), ?_⟩ | refine ⟨_, _, _, (by assumption : (_ : Option Obj) = _), ?_⟩ | refine ⟨_, _, _, (by assumption : RO.c _ _ _ = _), ?_⟩ | refine ⟨_, (by assumption : Row _ _ _ _), ?_⟩ | refine ⟨_, (by assumption : Cell _ _ _ _ _), ?_⟩ | refine ⟨_, _, _, (by assumption : Cell _ _ _ _ _), ?_⟩ | refine ⟨_, Or.inl (by assumption), ?_⟩ | refine ⟨_, _, _, Or.inl (by assumption), ?_⟩ | refine And.intro (ints_one _) ?_ | refine And.intro (by omega) ?_ | refine d1 ?_ | refine d2 ?_ | refine d3 ?_ | refine d4 ?_ | refine go G171 400 hC (by kernel_rfl) ?_); (conv => whnf)))
    exact ⟨by rw [hcx]; rfl, rfl, rfl⟩
  | false =>
    have e : inF ins x = none := by rw [inF, hcx]
    rw [e]
    ((try (conv => whnf)); repeat ((first | refine And.intro ?_ True.intro | refine And.intro ⟨by omega, by omega⟩ ?_ | refine ⟨_, (by assumption : RO.c _ _ _ = _), ?_⟩ | refine ⟨_, _, _, (by assumption : (_ : Option Obj) = _), ?_⟩ | refine ⟨_, _, _, (by assumption : RO.c _ _ _ = _), ?_⟩ | refine ⟨_, (by assumption : Row _ _ _ _), ?_⟩ | refine ⟨_, (by assumption : Cell _ _ _ _ _), ?_⟩ | refine ⟨_, _, _, (by assumption : Cell _ _ _ _ _), ?_⟩ | refine ⟨_, Or.inl (by assumption), ?_⟩ | refine ⟨_, _, _, Or.inl (by assumption), ?_⟩ | refine And.intro (ints_one _) ?_ | refine And.intro (by omega) ?_ | refine d1 ?_ | refine d2 ?_ | refine d3 ?_ | refine d4 ?_ | refine go G171 400 hC (by kernel_rfl) ?_); (conv => whnf)))
    exact ⟨by rw [hcx]; rfl, rfl, rfl⟩
def G306 : Gv := ⟨[], [], []⟩
theorem make1_spec {x y : Int} {c : Nat} {h : RO} {m : Hp} (hc : Cell h m c 0 (.int .i64 y)) :
    Con Tryz.prog 306 [.int .i64 x, .pointer (some ⟨c, 0, none⟩)] h m fun e h' m' => e = .returned (.bool (decide (x < 0) || decide (x > y))) ∧ h' = h ∧ m' = m := by
  refine fn_of (nt := 11) T Tryz.func306 rfl (by kernel_rfl) Tryz.ntmps306 (by simp) T_ok T_mixed fun C hC => ?_
  simp only [Tryz.f306, argFr, Nat.zero_add, Nat.reduceAdd] at hC ⊢
  ((try (conv => whnf)); repeat ((first | refine And.intro ?_ True.intro | refine And.intro ⟨by omega, by omega⟩ ?_ | refine ⟨_, (by assumption : RO.c _ _ _ = _), ?_⟩ | refine ⟨_, _, _, (by assumption : (_ : Option Obj) = _), ?_⟩ | refine ⟨_, _, _, (by assumption : RO.c _ _ _ = _), ?_⟩ | refine ⟨_, (by assumption : Row _ _ _ _), ?_⟩ | refine ⟨_, (by assumption : Cell _ _ _ _ _), ?_⟩ | refine ⟨_, _, _, (by assumption : Cell _ _ _ _ _), ?_⟩ | refine ⟨_, Or.inl (by assumption), ?_⟩ | refine ⟨_, _, _, Or.inl (by assumption), ?_⟩ | refine And.intro (ints_one _) ?_ | refine And.intro (by omega) ?_ | refine d1 ?_ | refine d2 ?_ | refine d3 ?_ | refine d4 ?_ | refine go G306 400 hC (by kernel_rfl) ?_); (conv => whnf)))
  refine ⟨fun hq => ?_, fun hq => ?_⟩ <;> ((try (conv => whnf)); repeat ((first | refine And.intro ?_ True.intro | refine And.intro ⟨by omega, by omega⟩ ?_ | refine ⟨_, (by assumption : RO.c _ _ _ = _), ?_⟩ | refine ⟨_, _, _, (by assumption : (_ : Option Obj) = _), ?_⟩ | refine ⟨_, _, _, (by assumption : RO.c _ _ _ = _), ?_⟩ | refine ⟨_, (by assumption : Row _ _ _ _), ?_⟩ | refine ⟨_, (by assumption : Cell _ _ _ _ _), ?_⟩ | refine ⟨_, _, _, (by assumption : Cell _ _ _ _ _), ?_⟩ | refine ⟨_, Or.inl (by assumption), ?_⟩ | refine ⟨_, _, _, Or.inl (by assumption), ?_⟩ | refine And.intro (ints_one _) ?_ | refine And.intro (by omega) ?_ | refine d1 ?_ | refine d2 ?_ | refine d3 ?_ | refine d4 ?_ | refine go G306 400 hC (by kernel_rfl) ?_); (conv => whnf)))
  · exact ⟨by rw [hq]; rfl, rfl, rfl⟩
  · exact ⟨by rw [hq]; rfl, rfl, rfl⟩
/-- Is an edge of a list none of a graph with so many nodes? -/
def badE (n : Nat) (l : List Int) : Bool := l.any fun x => decide (x < 0) || decide (x > ((2 * n : Nat) : Int) - 1)
def G245 : Gv := ⟨[], [8, 12], [(13, .one 0 (.one 1 (.one 2 (.one 4 (.fork 3 (.fork 5 (.nil) .stop) .stop)))))]⟩
theorem make_spec {u : Value} {l : List Int} {g : Nat} {cap : Array Value} {K : Mk} {ins : List Int} {ands ands' : List Pr} {E : Int} {h : RO} {m : Hp} (hM : MkI h m K ins ands false) (hl : IntS h u l)
    (hf : badE (1 + ins.length + ands.length) l = false → ∀ h1, h.le h1 → Con Tryz.prog g cap.toList h1 m fun e h' m' => h' = h1 ∧ e = .returned (.int .i64 E) ∧ ∃ K', MkI h1 m' K' ins ands' false ∧ MkS K K' m m') :
    Con Tryz.prog 245 [.pointer (some ⟨K.b, 0, none⟩), .func (.func g) #[] cap, u] h m fun e h' m' =>
      (match badE (1 + ins.length + ands.length) l with
      | true => e = .returned (.tuple #[.int .i64 0, .int .i64 2]) ∧ m' = m
      | false => e = .returned (.tuple #[.int .i64 E, .int .i64 0]) ∧ ∃ K', MkI h' m' K' ins ands' false ∧ MkS K K' m m') := by
  obtain ⟨ia, ic, eI, -⟩ := hM.hins.s
  obtain ⟨aa, ac, eA⟩ := hM.hands.sl
  have hck := hM.cell
  rw [eI, eA] at hck
  have k1 : Cell h m K.b 1 (.slice ia ins.length ic) := Cell.of hck rfl
  have k2 : Cell h m K.b 2 (.slice aa ands.length ac) := Cell.of hck rfl
  have hsm := hM.small
  refine fn_of (nt := 71) T Tryz.func245 rfl (by kernel_rfl) Tryz.ntmps245 (by simp) T_ok T_mixed fun C hC => ?_
  simp only [Tryz.f245, argFr, Nat.zero_add, Nat.reduceAdd] at hC ⊢
  ((try (conv => whnf)); repeat ((first | refine And.intro ?_ True.intro | refine And.intro ⟨by omega, by omega⟩ ?_ | refine ⟨_, (by assumption : RO.c _ _ _ = _), ?_⟩ | refine ⟨_, _, _, (by assumption : (_ : Option Obj) = _), ?_⟩ | refine ⟨_, _, _, (by assumption : RO.c _ _ _ = _), ?_⟩ | refine ⟨_, (by assumption : Row _ _ _ _), ?_⟩ | refine ⟨_, (by assumption : Cell _ _ _ _ _), ?_⟩ | refine ⟨_, _, _, (by assumption : Cell _ _ _ _ _), ?_⟩ | refine ⟨_, Or.inl (by assumption), ?_⟩ | refine ⟨_, _, _, Or.inl (by assumption), ?_⟩ | refine And.intro (ints_one _) ?_ | refine And.intro (by omega) ?_ | refine d1 ?_ | refine d2 ?_ | refine d3 ?_ | refine d4 ?_ | refine go G245 400 hC (by kernel_rfl) ?_); (conv => whnf)))
  (refine Con.mono (none_spec hM) ?_; rintro _ _ _ - ⟨rfl, rfl, rfl⟩; ((try (conv => whnf)); repeat ((first | refine And.intro ?_ True.intro | refine And.intro ⟨by omega, by omega⟩ ?_ | refine ⟨_, (by assumption : RO.c _ _ _ = _), ?_⟩ | refine ⟨_, _, _, (by assumption : (_ : Option Obj) = _), ?_⟩ | refine ⟨_, _, _, (by assumption : RO.c _ _ _ = _), ?_⟩ | refine ⟨_, (by assumption : Row _ _ _ _), ?_⟩ | refine ⟨_, (by assumption : Cell _ _ _ _ _), ?_⟩ | refine ⟨_, _, _, (by assumption : Cell _ _ _ _ _), ?_⟩ | refine ⟨_, Or.inl (by assumption), ?_⟩ | refine ⟨_, _, _, Or.inl (by assumption), ?_⟩ | refine And.intro (ints_one _) ?_ | refine And.intro (by omega) ?_ | refine d1 ?_ | refine d2 ?_ | refine d3 ?_ | refine d4 ?_ | refine go G245 400 hC (by kernel_rfl) ?_); (conv => whnf))))
  (refine Con.mono (nodes_spec (by omega) (by omega)) ?_; rintro _ _ _ - ⟨rfl, rfl, rfl⟩; ((try (conv => whnf)); repeat ((first | refine And.intro ?_ True.intro | refine And.intro ⟨by omega, by omega⟩ ?_ | refine ⟨_, (by assumption : RO.c _ _ _ = _), ?_⟩ | refine ⟨_, _, _, (by assumption : (_ : Option Obj) = _), ?_⟩ | refine ⟨_, _, _, (by assumption : RO.c _ _ _ = _), ?_⟩ | refine ⟨_, (by assumption : Row _ _ _ _), ?_⟩ | refine ⟨_, (by assumption : Cell _ _ _ _ _), ?_⟩ | refine ⟨_, _, _, (by assumption : Cell _ _ _ _ _), ?_⟩ | refine ⟨_, Or.inl (by assumption), ?_⟩ | refine ⟨_, _, _, Or.inl (by assumption), ?_⟩ | refine And.intro (ints_one _) ?_ | refine And.intro (by omega) ?_ | refine d1 ?_ | refine d2 ?_ | refine d3 ?_ | refine d4 ?_ | refine go G245 400 hC (by kernel_rfl) ?_); (conv => whnf))))
  have hw : IntKind.i64.wrap (IntKind.i64.wrap (2 * ((1 + ins.length + ands.length : Nat) : Int)) - 1) = ((2 * (1 + ins.length + ands.length) : Nat) : Int) - 1 := by rw [w64 (x := 2 * _) (by omega) (by omega), w64 (by omega) (by omega)]; omega
  intro b5 h5 hle5 hp5
  have hp50 := hp5 0 _ rfl
  ((try (conv => whnf)); repeat ((first | refine And.intro ?_ True.intro | refine And.intro ⟨by omega, by omega⟩ ?_ | refine ⟨_, (by assumption : RO.c _ _ _ = _), ?_⟩ | refine ⟨_, _, _, (by assumption : (_ : Option Obj) = _), ?_⟩ | refine ⟨_, _, _, (by assumption : RO.c _ _ _ = _), ?_⟩ | refine ⟨_, (by assumption : Row _ _ _ _), ?_⟩ | refine ⟨_, (by assumption : Cell _ _ _ _ _), ?_⟩ | refine ⟨_, _, _, (by assumption : Cell _ _ _ _ _), ?_⟩ | refine ⟨_, Or.inl (by assumption), ?_⟩ | refine ⟨_, _, _, Or.inl (by assumption), ?_⟩ | refine And.intro (ints_one _) ?_ | refine And.intro (by omega) ?_ | refine d1 ?_ | refine d2 ?_ | refine d3 ?_ | refine d4 ?_ | refine go G245 400 hC (by kernel_rfl) ?_); (conv => whnf)))
  refine Con.mono (containsFunc (hl.mono hle5) (fun x => make1_spec (x := x) (.inl hp50))) ?_
  rintro _ h6 m6 - ⟨rfl, rfl, rfl⟩
  have k2b : Cell h6 m6 K.b 2 (.slice aa ands.length ac) := Cell.of hck rfl
  have hbe : (l.any fun x => decide (x < 0) || decide (x > IntKind.i64.wrap (IntKind.i64.wrap (2 * ((1 + ins.length + ands.length : Nat) : Int)) - 1))) = badE (1 + ins.length + ands.length) l := by rw [hw]; rfl
  ((try (conv => whnf)); repeat ((first | refine And.intro ?_ True.intro | refine And.intro ⟨by omega, by omega⟩ ?_ | refine ⟨_, (by assumption : RO.c _ _ _ = _), ?_⟩ | refine ⟨_, _, _, (by assumption : (_ : Option Obj) = _), ?_⟩ | refine ⟨_, _, _, (by assumption : RO.c _ _ _ = _), ?_⟩ | refine ⟨_, (by assumption : Row _ _ _ _), ?_⟩ | refine ⟨_, (by assumption : Cell _ _ _ _ _), ?_⟩ | refine ⟨_, _, _, (by assumption : Cell _ _ _ _ _), ?_⟩ | refine ⟨_, Or.inl (by assumption), ?_⟩ | refine ⟨_, _, _, Or.inl (by assumption), ?_⟩ | refine And.intro (ints_one _) ?_ | refine And.intro (by omega) ?_ | refine d1 ?_ | refine d2 ?_ | refine d3 ?_ | refine d4 ?_ | refine go G245 400 hC (by kernel_rfl) ?_); (conv => whnf)))
  refine ⟨fun hq => ?_, fun hq => ?_⟩ <;> rw [hbe] at hq <;> ((try (conv => whnf)); repeat ((first | refine And.intro ?_ True.intro | refine And.intro ⟨by omega, by omega⟩ ?_ | refine ⟨_, (by assumption : RO.c _ _ _ = _), ?_⟩ | refine ⟨_, _, _, (by assumption : (_ : Option Obj) = _), ?_⟩ | refine ⟨_, _, _, (by assumption : RO.c _ _ _ = _), ?_⟩ | refine ⟨_, (by assumption : Row _ _ _ _), ?_⟩ | refine ⟨_, (by assumption : Cell _ _ _ _ _), ?_⟩ | refine ⟨_, _, _, (by assumption : Cell _ _ _ _ _), ?_⟩ | refine ⟨_, Or.inl (by assumption), ?_⟩ | refine ⟨_, _, _, Or.inl (by assumption), ?_⟩ | refine And.intro (ints_one _) ?_ | refine And.intro (by omega) ?_ | refine d1 ?_ | refine d2 ?_ | refine d3 ?_ | refine d4 ?_ | refine go G245 400 hC (by kernel_rfl) ?_); (conv => whnf)))
  · rw [hq]; exact ⟨rfl, rfl⟩
  refine Con.mono (hf hq _ hle5) ?_
  rintro _ h7 m7 - ⟨rfl, rfl, K', hK', hS⟩
  have k5 : Cell h7 m7 K'.b 5 (.bool false) := Cell.of hK'.cell rfl
  rw [hS.b] at k5
  ((try (conv => whnf)); repeat ((first | refine And.intro ?_ True.intro | refine And.intro ⟨by omega, by omega⟩ ?_ | refine ⟨_, (by assumption : RO.c _ _ _ = _), ?_⟩ | refine ⟨_, _, _, (by assumption : (_ : Option Obj) = _), ?_⟩ | refine ⟨_, _, _, (by assumption : RO.c _ _ _ = _), ?_⟩ | refine ⟨_, (by assumption : Row _ _ _ _), ?_⟩ | refine ⟨_, (by assumption : Cell _ _ _ _ _), ?_⟩ | refine ⟨_, _, _, (by assumption : Cell _ _ _ _ _), ?_⟩ | refine ⟨_, Or.inl (by assumption), ?_⟩ | refine ⟨_, _, _, Or.inl (by assumption), ?_⟩ | refine And.intro (ints_one _) ?_ | refine And.intro (by omega) ?_ | refine d1 ?_ | refine d2 ?_ | refine d3 ?_ | refine d4 ?_ | refine go G245 400 hC (by kernel_rfl) ?_); (conv => whnf)))
  rw [hq]
  exact ⟨rfl, K', hK', hS⟩
def G246 : Gv := ⟨[], [], []⟩
theorem all1_spec {u : Value} {l : List Int} {c d : Nat} {K : Mk} {ins : List Int} {ands : List Pr} {full : Bool} {h : RO} {m : Hp} (hM : MkI h m K ins ands full) (hl : IntS h u l) (he : ∀ x ∈ l, Ed x ∧ Ed (id x))
    (hc : h.c c 0 = some (.pointer (some ⟨K.b, 0, none⟩))) (hd : h.c d 0 = some u) :
    Con Tryz.prog 246 [.pointer (some ⟨c, 0, none⟩), .pointer (some ⟨d, 0, none⟩)] h m fun e h' m' => h' = h ∧ e = .returned (.int .i64 (foldA ins.length id (ands, full) l).1) ∧
      ∃ K', MkI h m' K' ins (foldA ins.length id (ands, full) l).2.1 (foldA ins.length id (ands, full) l).2.2 ∧ MkS K K' m m' := by
  obtain ⟨a, ca, rfl, -⟩ := hl.s
  refine fn_of (nt := 6) T Tryz.func246 rfl (by kernel_rfl) Tryz.ntmps246 (by simp) T_ok T_mixed fun C hC => ?_
  simp only [Tryz.f246, argFr, Nat.zero_add, Nat.reduceAdd] at hC ⊢
  ((try (conv => whnf)); repeat ((first | refine And.intro ?_ True.intro | refine And.intro ⟨by omega, by omega⟩ ?_ | refine ⟨_, (by assumption : RO.c _ _ _ = _), ?_⟩ | refine ⟨_, _, _, (by assumption : (_ : Option Obj) = _), ?_⟩ | refine ⟨_, _, _, (by assumption : RO.c _ _ _ = _), ?_⟩ | refine ⟨_, (by assumption : Row _ _ _ _), ?_⟩ | refine ⟨_, (by assumption : Cell _ _ _ _ _), ?_⟩ | refine ⟨_, _, _, (by assumption : Cell _ _ _ _ _), ?_⟩ | refine ⟨_, Or.inl (by assumption), ?_⟩ | refine ⟨_, _, _, Or.inl (by assumption), ?_⟩ | refine And.intro (ints_one _) ?_ | refine And.intro (by omega) ?_ | refine d1 ?_ | refine d2 ?_ | refine d3 ?_ | refine d4 ?_ | refine go G246 400 hC (by kernel_rfl) ?_); (conv => whnf)))
  refine Con.mono (every_spec hM hl he) ?_
  rintro _ h2 m2 - ⟨rfl, rfl, K', hK', hS⟩
  ((try (conv => whnf)); repeat ((first | refine And.intro ?_ True.intro | refine And.intro ⟨by omega, by omega⟩ ?_ | refine ⟨_, (by assumption : RO.c _ _ _ = _), ?_⟩ | refine ⟨_, _, _, (by assumption : (_ : Option Obj) = _), ?_⟩ | refine ⟨_, _, _, (by assumption : RO.c _ _ _ = _), ?_⟩ | refine ⟨_, (by assumption : Row _ _ _ _), ?_⟩ | refine ⟨_, (by assumption : Cell _ _ _ _ _), ?_⟩ | refine ⟨_, _, _, (by assumption : Cell _ _ _ _ _), ?_⟩ | refine ⟨_, Or.inl (by assumption), ?_⟩ | refine ⟨_, _, _, Or.inl (by assumption), ?_⟩ | refine And.intro (ints_one _) ?_ | refine And.intro (by omega) ?_ | refine d1 ?_ | refine d2 ?_ | refine d3 ?_ | refine d4 ?_ | refine go G246 400 hC (by kernel_rfl) ?_); (conv => whnf)))
  exact ⟨rfl, rfl, K', hK', hS⟩
def G172 : Gv := ⟨[], [], []⟩
theorem all_spec {u : Value} {l : List Int} {K : Mk} {ins : List Int} {ands : List Pr} {h : RO} {m : Hp} (hM : MkI h m K ins ands false) (hl : IntS h u l)
    (hnf : badE (1 + ins.length + ands.length) l = false → (foldA ins.length id (ands, false) l).2.2 = false) (he : badE (1 + ins.length + ands.length) l = false → ∀ x ∈ l, Ed x ∧ Ed (id x)) :
    Con Tryz.prog 172 [.pointer (some ⟨K.b, 0, none⟩), u] h m fun e h' m' =>
      (match badE (1 + ins.length + ands.length) l with
      | true => e = .returned (.tuple #[.int .i64 0, .int .i64 2]) ∧ m' = m
      | false => e = .returned (.tuple #[.int .i64 ((fun full => (foldA ins.length id (ands, full) l).1) false), .int .i64 0]) ∧ ∃ K', MkI h' m' K' ins (foldA ins.length id (ands, false) l).2.1 false ∧ MkS K K' m m') := by
  obtain ⟨a, ca, rfl, -⟩ := hl.s
  refine fn_of (nt := 12) T Tryz.func172 rfl (by kernel_rfl) Tryz.ntmps172 (by simp) T_ok T_mixed fun C hC => ?_
  simp only [Tryz.f172, argFr, Nat.zero_add, Nat.reduceAdd] at hC ⊢
  ((try (conv => whnf)); repeat ((first | refine And.intro ?_ True.intro | refine And.intro ⟨by omega, by omega⟩ ?_ | refine ⟨_, (by assumption : RO.c _ _ _ = _), ?_⟩ | refine ⟨_, _, _, (by assumption : (_ : Option Obj) = _), ?_⟩ | refine ⟨_, _, _, (by assumption : RO.c _ _ _ = _), ?_⟩ | refine ⟨_, (by assumption : Row _ _ _ _), ?_⟩ | refine ⟨_, (by assumption : Cell _ _ _ _ _), ?_⟩ | refine ⟨_, _, _, (by assumption : Cell _ _ _ _ _), ?_⟩ | refine ⟨_, Or.inl (by assumption), ?_⟩ | refine ⟨_, _, _, Or.inl (by assumption), ?_⟩ | refine And.intro (ints_one _) ?_ | refine And.intro (by omega) ?_ | refine d1 ?_ | refine d2 ?_ | refine d3 ?_ | refine d4 ?_ | refine go G172 400 hC (by kernel_rfl) ?_); (conv => whnf)))
  intro c2 h2 hle2 hp2
  ((try (conv => whnf)); repeat ((first | refine And.intro ?_ True.intro | refine And.intro ⟨by omega, by omega⟩ ?_ | refine ⟨_, (by assumption : RO.c _ _ _ = _), ?_⟩ | refine ⟨_, _, _, (by assumption : (_ : Option Obj) = _), ?_⟩ | refine ⟨_, _, _, (by assumption : RO.c _ _ _ = _), ?_⟩ | refine ⟨_, (by assumption : Row _ _ _ _), ?_⟩ | refine ⟨_, (by assumption : Cell _ _ _ _ _), ?_⟩ | refine ⟨_, _, _, (by assumption : Cell _ _ _ _ _), ?_⟩ | refine ⟨_, Or.inl (by assumption), ?_⟩ | refine ⟨_, _, _, Or.inl (by assumption), ?_⟩ | refine And.intro (ints_one _) ?_ | refine And.intro (by omega) ?_ | refine d1 ?_ | refine d2 ?_ | refine d3 ?_ | refine d4 ?_ | refine go G172 400 hC (by kernel_rfl) ?_); (conv => whnf)))
  intro c3 h3 hle3 hp3
  ((try (conv => whnf)); repeat ((first | refine And.intro ?_ True.intro | refine And.intro ⟨by omega, by omega⟩ ?_ | refine ⟨_, (by assumption : RO.c _ _ _ = _), ?_⟩ | refine ⟨_, _, _, (by assumption : (_ : Option Obj) = _), ?_⟩ | refine ⟨_, _, _, (by assumption : RO.c _ _ _ = _), ?_⟩ | refine ⟨_, (by assumption : Row _ _ _ _), ?_⟩ | refine ⟨_, (by assumption : Cell _ _ _ _ _), ?_⟩ | refine ⟨_, _, _, (by assumption : Cell _ _ _ _ _), ?_⟩ | refine ⟨_, Or.inl (by assumption), ?_⟩ | refine ⟨_, _, _, Or.inl (by assumption), ?_⟩ | refine And.intro (ints_one _) ?_ | refine And.intro (by omega) ?_ | refine d1 ?_ | refine d2 ?_ | refine d3 ?_ | refine d4 ?_ | refine go G172 400 hC (by kernel_rfl) ?_); (conv => whnf)))
  refine Con.mono (make_spec ((hM.mono hle2).mono hle3) ((hl.mono hle2).mono hle3) (E := (fun full => (foldA ins.length id (ands, full) l).1) false) (ands' := (foldA ins.length id (ands, false) l).2.1) fun hb h4 hle4 => ?_) ?_
  · refine Con.mono (all1_spec (((hM.mono hle2).mono hle3).mono hle4) (((hl.mono hle2).mono hle3).mono hle4) (he hb) (hle4.c _ _ _ (hle3.c _ _ _ (hp2 0 _ rfl))) (hle4.c _ _ _ (hp3 0 _ rfl))) ?_
    rintro _ _ _ - ⟨rfl, rfl, K', hK', hS⟩
    rw [hnf hb] at hK'
    exact ⟨rfl, rfl, K', hK', hS⟩
  rintro _ h5 m5 hle5 hR
  cases hq : badE (1 + ins.length + ands.length) l with
  | true =>
    rw [hq] at hR
    obtain ⟨rfl, rfl⟩ := hR
    ((try (conv => whnf)); repeat ((first | refine And.intro ?_ True.intro | refine And.intro ⟨by omega, by omega⟩ ?_ | refine ⟨_, (by assumption : RO.c _ _ _ = _), ?_⟩ | refine ⟨_, _, _, (by assumption : (_ : Option Obj) = _), ?_⟩ | refine ⟨_, _, _, (by assumption : RO.c _ _ _ = _), ?_⟩ | refine ⟨_, (by assumption : Row _ _ _ _), ?_⟩ | refine ⟨_, (by assumption : Cell _ _ _ _ _), ?_⟩ | refine ⟨_, _, _, (by assumption : Cell _ _ _ _ _), ?_⟩ | refine ⟨_, Or.inl (by assumption), ?_⟩ | refine ⟨_, _, _, Or.inl (by assumption), ?_⟩ | refine And.intro (ints_one _) ?_ | refine And.intro (by omega) ?_ | refine d1 ?_ | refine d2 ?_ | refine d3 ?_ | refine d4 ?_ | refine go G172 400 hC (by kernel_rfl) ?_); (conv => whnf)))
    rw [hq]
    exact ⟨rfl, rfl⟩
  | false =>
    rw [hq] at hR
    obtain ⟨rfl, K', hK', hS⟩ := hR
    ((try (conv => whnf)); repeat ((first | refine And.intro ?_ True.intro | refine And.intro ⟨by omega, by omega⟩ ?_ | refine ⟨_, (by assumption : RO.c _ _ _ = _), ?_⟩ | refine ⟨_, _, _, (by assumption : (_ : Option Obj) = _), ?_⟩ | refine ⟨_, _, _, (by assumption : RO.c _ _ _ = _), ?_⟩ | refine ⟨_, (by assumption : Row _ _ _ _), ?_⟩ | refine ⟨_, (by assumption : Cell _ _ _ _ _), ?_⟩ | refine ⟨_, _, _, (by assumption : Cell _ _ _ _ _), ?_⟩ | refine ⟨_, Or.inl (by assumption), ?_⟩ | refine ⟨_, _, _, Or.inl (by assumption), ?_⟩ | refine And.intro (ints_one _) ?_ | refine And.intro (by omega) ?_ | refine d1 ?_ | refine d2 ?_ | refine d3 ?_ | refine d4 ?_ | refine go G172 400 hC (by kernel_rfl) ?_); (conv => whnf)))
    rw [hq]
    exact ⟨rfl, K', hK', hS⟩

def G248 : Gv := ⟨[], [], []⟩
theorem any1_spec {u : Value} {l : List Int} {c d : Nat} {K : Mk} {ins : List Int} {ands : List Pr} {full : Bool} {h : RO} {m : Hp} (hM : MkI h m K ins ands full) (hl : IntS h u l) (he : ∀ x ∈ l, Ed x ∧ Ed (x1 x))
    (hc : h.c c 0 = some (.pointer (some ⟨K.b, 0, none⟩))) (hd : h.c d 0 = some u) :
    Con Tryz.prog 248 [.pointer (some ⟨c, 0, none⟩), .pointer (some ⟨d, 0, none⟩)] h m fun e h' m' => h' = h ∧ e = .returned (.int .i64 (x1 (foldA ins.length x1 (ands, full) l).1)) ∧
      ∃ K', MkI h m' K' ins (foldA ins.length x1 (ands, full) l).2.1 (foldA ins.length x1 (ands, full) l).2.2 ∧ MkS K K' m m' := by
  obtain ⟨a, ca, rfl, -⟩ := hl.s
  refine fn_of (nt := 6) T Tryz.func248 rfl (by kernel_rfl) Tryz.ntmps248 (by simp) T_ok T_mixed fun C hC => ?_
  simp only [Tryz.f248, argFr, Nat.zero_add, Nat.reduceAdd] at hC ⊢
  ((try (conv => whnf)); repeat ((first | refine And.intro ?_ True.intro | refine And.intro ⟨by omega, by omega⟩ ?_ | refine ⟨_, (by assumption : RO.c _ _ _ = _), ?_⟩ | refine ⟨_, _, _, (by assumption : (_ : Option Obj) = _), ?_⟩ | refine ⟨_, _, _, (by assumption : RO.c _ _ _ = _), ?_⟩ | refine ⟨_, (by assumption : Row _ _ _ _), ?_⟩ | refine ⟨_, (by assumption : Cell _ _ _ _ _), ?_⟩ | refine ⟨_, _, _, (by assumption : Cell _ _ _ _ _), ?_⟩ | refine ⟨_, Or.inl (by assumption), ?_⟩ | refine ⟨_, _, _, Or.inl (by assumption), ?_⟩ | refine And.intro (ints_one _) ?_ | refine And.intro (by omega) ?_ | refine d1 ?_ | refine d2 ?_ | refine d3 ?_ | refine d4 ?_ | refine go G248 400 hC (by kernel_rfl) ?_); (conv => whnf)))
  refine Con.mono (some_spec hM hl he) ?_
  rintro _ h2 m2 - ⟨rfl, rfl, K', hK', hS⟩
  ((try (conv => whnf)); repeat ((first | refine And.intro ?_ True.intro | refine And.intro ⟨by omega, by omega⟩ ?_ | refine ⟨_, (by assumption : RO.c _ _ _ = _), ?_⟩ | refine ⟨_, _, _, (by assumption : (_ : Option Obj) = _), ?_⟩ | refine ⟨_, _, _, (by assumption : RO.c _ _ _ = _), ?_⟩ | refine ⟨_, (by assumption : Row _ _ _ _), ?_⟩ | refine ⟨_, (by assumption : Cell _ _ _ _ _), ?_⟩ | refine ⟨_, _, _, (by assumption : Cell _ _ _ _ _), ?_⟩ | refine ⟨_, Or.inl (by assumption), ?_⟩ | refine ⟨_, _, _, Or.inl (by assumption), ?_⟩ | refine And.intro (ints_one _) ?_ | refine And.intro (by omega) ?_ | refine d1 ?_ | refine d2 ?_ | refine d3 ?_ | refine d4 ?_ | refine go G248 400 hC (by kernel_rfl) ?_); (conv => whnf)))
  exact ⟨rfl, rfl, K', hK', hS⟩
def G173 : Gv := ⟨[], [], []⟩
theorem any_spec {u : Value} {l : List Int} {K : Mk} {ins : List Int} {ands : List Pr} {h : RO} {m : Hp} (hM : MkI h m K ins ands false) (hl : IntS h u l)
    (hnf : badE (1 + ins.length + ands.length) l = false → (foldA ins.length x1 (ands, false) l).2.2 = false) (he : badE (1 + ins.length + ands.length) l = false → ∀ x ∈ l, Ed x ∧ Ed (x1 x)) :
    Con Tryz.prog 173 [.pointer (some ⟨K.b, 0, none⟩), u] h m fun e h' m' =>
      (match badE (1 + ins.length + ands.length) l with
      | true => e = .returned (.tuple #[.int .i64 0, .int .i64 2]) ∧ m' = m
      | false => e = .returned (.tuple #[.int .i64 ((fun full => (x1 (foldA ins.length x1 (ands, full) l).1)) false), .int .i64 0]) ∧ ∃ K', MkI h' m' K' ins (foldA ins.length x1 (ands, false) l).2.1 false ∧ MkS K K' m m') := by
  obtain ⟨a, ca, rfl, -⟩ := hl.s
  refine fn_of (nt := 12) T Tryz.func173 rfl (by kernel_rfl) Tryz.ntmps173 (by simp) T_ok T_mixed fun C hC => ?_
  simp only [Tryz.f173, argFr, Nat.zero_add, Nat.reduceAdd] at hC ⊢
  ((try (conv => whnf)); repeat ((first | refine And.intro ?_ True.intro | refine And.intro ⟨by omega, by omega⟩ ?_ | refine ⟨_, (by assumption : RO.c _ _ _ = _), ?_⟩ | refine ⟨_, _, _, (by assumption : (_ : Option Obj) = _), ?_⟩ | refine ⟨_, _, _, (by assumption : RO.c _ _ _ = _), ?_⟩ | refine ⟨_, (by assumption : Row _ _ _ _), ?_⟩ | refine ⟨_, (by assumption : Cell _ _ _ _ _), ?_⟩ | refine ⟨_, _, _, (by assumption : Cell _ _ _ _ _), ?_⟩ | refine ⟨_, Or.inl (by assumption), ?_⟩ | refine ⟨_, _, _, Or.inl (by assumption), ?_⟩ | refine And.intro (ints_one _) ?_ | refine And.intro (by omega) ?_ | refine d1 ?_ | refine d2 ?_ | refine d3 ?_ | refine d4 ?_ | refine go G173 400 hC (by kernel_rfl) ?_); (conv => whnf)))
  intro c2 h2 hle2 hp2
  ((try (conv => whnf)); repeat ((first | refine And.intro ?_ True.intro | refine And.intro ⟨by omega, by omega⟩ ?_ | refine ⟨_, (by assumption : RO.c _ _ _ = _), ?_⟩ | refine ⟨_, _, _, (by assumption : (_ : Option Obj) = _), ?_⟩ | refine ⟨_, _, _, (by assumption : RO.c _ _ _ = _), ?_⟩ | refine ⟨_, (by assumption : Row _ _ _ _), ?_⟩ | refine ⟨_, (by assumption : Cell _ _ _ _ _), ?_⟩ | refine ⟨_, _, _, (by assumption : Cell _ _ _ _ _), ?_⟩ | refine ⟨_, Or.inl (by assumption), ?_⟩ | refine ⟨_, _, _, Or.inl (by assumption), ?_⟩ | refine And.intro (ints_one _) ?_ | refine And.intro (by omega) ?_ | refine d1 ?_ | refine d2 ?_ | refine d3 ?_ | refine d4 ?_ | refine go G173 400 hC (by kernel_rfl) ?_); (conv => whnf)))
  intro c3 h3 hle3 hp3
  ((try (conv => whnf)); repeat ((first | refine And.intro ?_ True.intro | refine And.intro ⟨by omega, by omega⟩ ?_ | refine ⟨_, (by assumption : RO.c _ _ _ = _), ?_⟩ | refine ⟨_, _, _, (by assumption : (_ : Option Obj) = _), ?_⟩ | refine ⟨_, _, _, (by assumption : RO.c _ _ _ = _), ?_⟩ | refine ⟨_, (by assumption : Row _ _ _ _), ?_⟩ | refine ⟨_, (by assumption : Cell _ _ _ _ _), ?_⟩ | refine ⟨_, _, _, (by assumption : Cell _ _ _ _ _), ?_⟩ | refine ⟨_, Or.inl (by assumption), ?_⟩ | refine ⟨_, _, _, Or.inl (by assumption), ?_⟩ | refine And.intro (ints_one _) ?_ | refine And.intro (by omega) ?_ | refine d1 ?_ | refine d2 ?_ | refine d3 ?_ | refine d4 ?_ | refine go G173 400 hC (by kernel_rfl) ?_); (conv => whnf)))
  refine Con.mono (make_spec ((hM.mono hle2).mono hle3) ((hl.mono hle2).mono hle3) (E := (fun full => (x1 (foldA ins.length x1 (ands, full) l).1)) false) (ands' := (foldA ins.length x1 (ands, false) l).2.1) fun hb h4 hle4 => ?_) ?_
  · refine Con.mono (any1_spec (((hM.mono hle2).mono hle3).mono hle4) (((hl.mono hle2).mono hle3).mono hle4) (he hb) (hle4.c _ _ _ (hle3.c _ _ _ (hp2 0 _ rfl))) (hle4.c _ _ _ (hp3 0 _ rfl))) ?_
    rintro _ _ _ - ⟨rfl, rfl, K', hK', hS⟩
    rw [hnf hb] at hK'
    exact ⟨rfl, rfl, K', hK', hS⟩
  rintro _ h5 m5 hle5 hR
  cases hq : badE (1 + ins.length + ands.length) l with
  | true =>
    rw [hq] at hR
    obtain ⟨rfl, rfl⟩ := hR
    ((try (conv => whnf)); repeat ((first | refine And.intro ?_ True.intro | refine And.intro ⟨by omega, by omega⟩ ?_ | refine ⟨_, (by assumption : RO.c _ _ _ = _), ?_⟩ | refine ⟨_, _, _, (by assumption : (_ : Option Obj) = _), ?_⟩ | refine ⟨_, _, _, (by assumption : RO.c _ _ _ = _), ?_⟩ | refine ⟨_, (by assumption : Row _ _ _ _), ?_⟩ | refine ⟨_, (by assumption : Cell _ _ _ _ _), ?_⟩ | refine ⟨_, _, _, (by assumption : Cell _ _ _ _ _), ?_⟩ | refine ⟨_, Or.inl (by assumption), ?_⟩ | refine ⟨_, _, _, Or.inl (by assumption), ?_⟩ | refine And.intro (ints_one _) ?_ | refine And.intro (by omega) ?_ | refine d1 ?_ | refine d2 ?_ | refine d3 ?_ | refine d4 ?_ | refine go G173 400 hC (by kernel_rfl) ?_); (conv => whnf)))
    rw [hq]
    exact ⟨rfl, rfl⟩
  | false =>
    rw [hq] at hR
    obtain ⟨rfl, K', hK', hS⟩ := hR
    ((try (conv => whnf)); repeat ((first | refine And.intro ?_ True.intro | refine And.intro ⟨by omega, by omega⟩ ?_ | refine ⟨_, (by assumption : RO.c _ _ _ = _), ?_⟩ | refine ⟨_, _, _, (by assumption : (_ : Option Obj) = _), ?_⟩ | refine ⟨_, _, _, (by assumption : RO.c _ _ _ = _), ?_⟩ | refine ⟨_, (by assumption : Row _ _ _ _), ?_⟩ | refine ⟨_, (by assumption : Cell _ _ _ _ _), ?_⟩ | refine ⟨_, _, _, (by assumption : Cell _ _ _ _ _), ?_⟩ | refine ⟨_, Or.inl (by assumption), ?_⟩ | refine ⟨_, _, _, Or.inl (by assumption), ?_⟩ | refine And.intro (ints_one _) ?_ | refine And.intro (by omega) ?_ | refine d1 ?_ | refine d2 ?_ | refine d3 ?_ | refine d4 ?_ | refine go G173 400 hC (by kernel_rfl) ?_); (conv => whnf)))
    rw [hq]
    exact ⟨rfl, K', hK', hS⟩

end Go.Proofs.YtoefoaabnjeofaaGreat
namespace Go.Proofs.YtoefoaabnjeofaaGreat
open Go.SX
set_option maxHeartbeats 1000000
/-! ### edges that are there, and room -/
/-- An edge of a graph with n inputs and k Ands. -/
def EdK (n k : Nat) (e : Int) : Prop := 0 ≤ e ∧ e < ((2 * (1 + n + k) : Nat) : Int)
theorem EdK.mono {n k k' : Nat} {e : Int} (h : EdK n k e) (hk : k ≤ k') : EdK n k' e := by unfold EdK at *; omega
theorem EdK.x1 {n k : Nat} {e : Int} (h : EdK n k e) : EdK n k (x1 e) := by unfold EdK Go.SX.x1 at *; split <;> omega
theorem andS_pre (n : Nat) (st : List Pr × Bool) (a b : Int) : st.1 <+: (andS n st a b).2.1 := by
  unfold andS; split <;> first | exact List.prefix_rfl | exact List.prefix_append _ _
theorem andS_len (n : Nat) (st : List Pr × Bool) (a b : Int) : (andS n st a b).2.1.length ≤ st.1.length + 1 := by
  unfold andS; split <;> simp
theorem andS_full {n : Nat} {st : List Pr × Bool} {a b : Int} (h : 1 + n + st.1.length < 200000) (hf : st.2 = false) : (andS n st a b).2.2 = false := by
  unfold andS; split
  · exact hf
  · exact hf
  · exact hf
  · rename_i h1; simp at h1; omega
  · exact hf
theorem andS_edK {n : Nat} {st : List Pr × Bool} {a b : Int} (ha : EdK n st.1.length a) (hb : EdK n st.1.length b) : EdK n (andS n st a b).2.1.length (andS n st a b).1 := by
  unfold EdK at *
  unfold andS; split
  · dsimp only; omega
  · dsimp only; omega
  · have : st.1.idxOf (min a b, max a b) < st.1.length := List.idxOf_lt_length_of_mem (by simpa using ‹st.1.contains (min a b, max a b) = true›)
    dsimp only; omega
  · dsimp only; omega
  · simp only [List.length_append, List.length_singleton]; omega
theorem foldA_ok {n : Nat} {f : Int → Int} {st : List Pr} (l : List Int) (h : 1 + n + st.length + l.length < 200000) (he : ∀ x ∈ l, EdK n st.length (f x)) :
    (foldA n f (st, false) l).2.2 = false ∧ st <+: (foldA n f (st, false) l).2.1 ∧ (foldA n f (st, false) l).2.1.length ≤ st.length + l.length ∧ EdK n (foldA n f (st, false) l).2.1.length (foldA n f (st, false) l).1 := by
  induction l using snocInd with
  | h0 => exact ⟨rfl, List.prefix_rfl, Nat.le_refl _, by unfold EdK foldA; dsimp only [List.foldl_nil]; omega⟩
  | h1 l x ih =>
    rw [foldA_snoc]
    simp only [List.length_append, List.length_singleton] at h ⊢
    obtain ⟨h1, h2, h3, h4⟩ := ih (by omega) (fun y hy => he y (by simp [hy]))
    have hx := (he x (by simp)).mono h2.length_le
    have := andS_len n (foldA n f (st, false) l).2 (foldA n f (st, false) l).1 (f x)
    exact ⟨andS_full (by omega) h1, h2.trans (andS_pre _ _ _ _), by omega, andS_edK h4 hx⟩
theorem EdK.ed {n k : Nat} {e : Int} (h : EdK n k e) (hk : 1 + n + k ≤ 200000) : Ed e := by unfold EdK at h; unfold Ed; omega
theorem badE_false {n k : Nat} {l : List Int} (h : ∀ x ∈ l, EdK n k x) : badE (1 + n + k) l = false := by
  rw [badE, List.any_eq_false]
  intro x hx
  have := h x hx
  unfold EdK at this
  simp; omega

/-- The edge of a literal of an input. -/
def litE (ins : List Int) (x : Int) : Int := if x < 0 then x1 ((2 * (ins.idxOf (abs64 x) + 1) : Nat) : Int) else ((2 * (ins.idxOf (abs64 x) + 1) : Nat) : Int)
theorem litE_ok {ins : List Int} {x : Int} (h : abs64 x ∈ ins) (k : Nat) : EdK ins.length k (litE ins x) := by
  have := List.idxOf_lt_length_of_mem h
  have h1 : EdK ins.length k ((2 * (ins.idxOf (abs64 x) + 1) : Nat) : Int) := by unfold EdK; omega
  unfold litE; split
  · exact h1.x1
  · exact h1
/-- The edges of cubes, one behind the other. -/
def fnL (ins : List Int) (st : List Pr) (cubes : List (List Int)) : List Int × List Pr :=
  cubes.foldl (fun s c => (s.1 ++ [(foldA ins.length id (s.2, false) (c.map (litE ins))).1], (foldA ins.length id (s.2, false) (c.map (litE ins))).2.1)) ([], st)
theorem fnL_snoc (ins : List Int) (st : List Pr) (cubes : List (List Int)) (c : List Int) : fnL ins st (cubes ++ [c]) =
    ((fnL ins st cubes).1 ++ [(foldA ins.length id ((fnL ins st cubes).2, false) (c.map (litE ins))).1], (foldA ins.length id ((fnL ins st cubes).2, false) (c.map (litE ins))).2.1) := by simp [fnL]
theorem fnL_ok {ins : List Int} {st : List Pr} (cubes : List (List Int)) (h : 1 + ins.length + st.length + tot cubes < 200000) (hv : ∀ c ∈ cubes, ∀ x ∈ c, abs64 x ∈ ins) :
    (fnL ins st cubes).1.length = cubes.length ∧ st <+: (fnL ins st cubes).2 ∧ (fnL ins st cubes).2.length ≤ st.length + tot cubes ∧ ∀ e ∈ (fnL ins st cubes).1, EdK ins.length (fnL ins st cubes).2.length e := by
  induction cubes using snocInd with
  | h0 => exact ⟨rfl, List.prefix_rfl, by simp [fnL], by simp [fnL]⟩
  | h1 cubes c ih =>
    have ht : tot (cubes ++ [c]) = tot cubes + c.length := by simp [tot]
    rw [ht] at h ⊢
    obtain ⟨h1, h2, h3, h4⟩ := ih (by omega) (fun c' hc => hv c' (by simp [hc]))
    rw [fnL_snoc]
    obtain ⟨k1, k2, k3, k4⟩ := foldA_ok (n := ins.length) (f := id) (st := (fnL ins st cubes).2) (c.map (litE ins)) (by simp; omega) (fun x hx => by
      obtain ⟨z, hz, rfl⟩ := List.mem_map.1 hx
      exact litE_ok (hv c (by simp) z hz) _)
    simp only [List.length_map] at k3
    refine ⟨by simp [h1], h2.trans k2, by dsimp only; omega, fun e he => ?_⟩
    rcases List.mem_append.1 he with he | he
    · exact (h4 e he).mono k2.length_le
    · simp at he; subst he; exact k4
/-- The function of cubes: its edge, the Ands behind it. -/
def fnS (ins : List Int) (st : List Pr) (cubes : List (List Int)) : Int × List Pr :=
  (x1 (foldA ins.length x1 ((fnL ins st cubes).2, false) (fnL ins st cubes).1).1, (foldA ins.length x1 ((fnL ins st cubes).2, false) (fnL ins st cubes).1).2.1)
theorem fnS_ok {ins : List Int} {st : List Pr} (cubes : List (List Int)) (h : 1 + ins.length + st.length + tot cubes + cubes.length < 200000) (hv : ∀ c ∈ cubes, ∀ x ∈ c, abs64 x ∈ ins) :
    st <+: (fnS ins st cubes).2 ∧ (fnS ins st cubes).2.length ≤ st.length + tot cubes + cubes.length ∧ EdK ins.length (fnS ins st cubes).2.length (fnS ins st cubes).1 := by
  obtain ⟨h1, h2, h3, h4⟩ := fnL_ok (st := st) cubes (by omega) hv
  obtain ⟨k1, k2, k3, k4⟩ := foldA_ok (n := ins.length) (f := x1) (st := (fnL ins st cubes).2) (fnL ins st cubes).1 (by omega) (fun x hx => (h4 x hx).x1)
  exact ⟨h2.trans k2, by dsimp only [fnS]; omega, k4.x1⟩
end Go.Proofs.YtoefoaabnjeofaaGreat
namespace Go.Proofs.YtoefoaabnjeofaaGreat
open Go.SX
set_option maxHeartbeats 1000000
/-! ### the sort by variables -/
theorem abs64_nat {x : Int} (h : -1000000000000 ≤ x ∧ x ≤ 1000000000000) : abs64 x = if x < 0 then -x else x := by
  unfold abs64
  rw [w64 (by omega) (by omega)]
  split <;> omega
theorem sortA_unique {raw l : List Int} (hp : l.Perm raw) (hs : l.Pairwise fun a b => ¬ abs64 b < abs64 a) (hd : raw.Pairwise fun a b => abs64 a ≠ abs64 b) : l = sortA raw := by
  have hs2 : (sortA raw).Pairwise fun a b => leA a b = true := List.pairwise_mergeSort (by intro a b c; simp [leA]; omega) (by intro a b; simp [leA]; omega) raw
  have hp2 : l.Perm (sortA raw) := hp.trans (List.mergeSort_perm raw leA).symm
  refine List.Perm.eq_of_pairwise (le := fun a b => leA a b = true) (fun a b ha hb h1 h2 => ?_) (hs.imp fun h => by simp [leA]; omega) hs2 hp2
  have hd' : ∀ a ∈ raw, ∀ b ∈ raw, abs64 a = abs64 b → a = b := by
    intro a ha b hb e
    obtain ⟨i, hi, rfl⟩ := List.getElem_of_mem ha
    obtain ⟨j, hj, rfl⟩ := List.getElem_of_mem hb
    rw [List.pairwise_iff_getElem] at hd
    rcases Nat.lt_trichotomy i j with h | h | h
    · exact absurd e (hd i j hi hj h)
    · subst h; rfl
    · exact absurd e.symm (hd j i hj hi h)
  refine hd' a (hp.mem_iff.1 ha) b ?_ ?_
  · exact (List.mergeSort_perm raw leA).mem_iff.1 hb
  · simp [leA] at h1 h2; omega

theorem numC_pos {l : List Cp} {c : Cp} (h : c ∈ l) : 0 < numC l c ∧ numC l c ≤ l.length := by
  have h1 : l.contains c = true := by simpa using h
  have := List.idxOf_lt_length_of_mem h
  rw [numC, h1]; dsimp only; omega
theorem numC_inj {l : List Cp} {a b : Cp} (ha : a ∈ l) (hb : b ∈ l) (h : numC l a = numC l b) : a = b := by
  have h1 : l.contains a = true := by simpa using ha
  have h2 : l.contains b = true := by simpa using hb
  simp only [numC, h1, h2] at h
  have e : l.idxOf a = l.idxOf b := by omega
  have e1 := List.getElem_idxOf (List.idxOf_lt_length_of_mem ha)
  have e2 := List.getElem_idxOf (List.idxOf_lt_length_of_mem hb)
  rw [← e1, ← e2]
  simp only [e]

/-- What 'litC' makes is the number of a copy, or its negative. -/
theorem litC_some {l ex : List Cp} {p : List Int} {x n : Int} (h : litC l ex p x = some n) : ∃ y ∈ ex, y.1 = abs64 x ∧ (n = (numC l (cpAt p y) : Int) ∨ n = -(numC l (cpAt p y) : Int)) ∧ (n = if x < 0 then -(numC l (cpAt p y) : Int) else numC l (cpAt p y)) := by
  unfold litC at h
  split at h
  · rename_i y hy
    have h1 := List.find?_some hy
    refine ⟨y, List.mem_of_find?_eq_some hy, by simpa using h1, ?_, ?_⟩
    · simp at h; split at h <;> simp [← h]
    · simpa using h.symm
  · cases h
theorem abs_pm {n : Nat} {x : Int} (hn : n ≤ 1000000000) (h : x = (n : Int) ∨ x = -(n : Int)) : abs64 x = n := by
  rw [abs64_nat (by omega)]; split <;> omega
theorem raw_distinct {l ex : List Cp} {p c : List Int} (hl : l.length ≤ 1000000000) (hm : ∀ y ∈ ex, cpAt p y ∈ l) (hc : normal c = true) :
    (c.filterMap (litC l ex p)).Pairwise fun a b => abs64 a ≠ abs64 b := by
  rw [List.pairwise_filterMap, List.pairwise_iff_getElem]
  intro i j hi hj hij a ha b hb e
  obtain ⟨y, hy, hy1, hy2, _⟩ := litC_some ha
  obtain ⟨z, hz, hz1, hz2, _⟩ := litC_some hb
  have py := numC_pos (hm y hy)
  have pz := numC_pos (hm z hz)
  rw [abs_pm (by omega) hy2, abs_pm (by omega) hz2] at e
  have := numC_inj (hm y hy) (hm z hz) (by omega)
  have e1 : y.1 = z.1 := by have := congrArg Prod.fst this; exact this
  rw [hy1, hz1] at e1
  have hn := (normal_iff.1 hc).2
  have asc : ∀ k, k < c.length → i < k → abs64 (g c i) < abs64 (g c k) := by
    intro k
    induction k with
    | zero => intro _ h; omega
    | succ k ih =>
      intro hk hik
      have h1 := hn k hk
      by_cases e : i = k
      · subst e; exact h1
      · have := ih (by omega) (by omega); omega
  have := asc j hj hij
  simp [g, hi, hj] at this
  omega
end Go.Proofs.YtoefoaabnjeofaaGreat
namespace Go.Proofs
open Go.Shelf
def Tryz.sortInt_ren : Go.Shelf.Ren := ⟨fun | 6 => 183 | 15 => 253 | 14 => 252 | 28 => 315 | 29 => 316 | 20 => 307 | 21 => 308 | 22 => 309 | 23 => 310 | 24 => 311 | 25 => 312 | 26 => 313 | 27 => 314 | 46 => 353 | 47 => 354 | 48 => 355 | 49 => 356 | 50 => 357 | 57 => 369 | n => n, fun | 22 => 22 | 24 => 3 | 25 => 97 | 3 => 3 | 39 => 50 | 0 => 0 | 53 => 351 | 55 => 353 | 4 => 4 | 46 => 345 | 45 => 344 | 50 => 250 | 5 => 5 | 9 => 9 | 66 => 369 | 70 => 373 | 76 => 379 | 77 => 380 | n => n, fun | n => n⟩
theorem Tryz.sortInt : Go.Proofs.SlLaysF.n6 Tryz.prog Tryz.sortInt_ren := {
  mixed := by kernel_rfl
  f6 := ⟨Tryz.f183.name, by decide, Tryz.func183.trans (congrArg some (by kernel_rfl))⟩
  f14 := ⟨Tryz.f252.name, by decide, Tryz.func252.trans (congrArg some (by kernel_rfl))⟩
  f15 := Tryz.func253.trans (congrArg some (by kernel_rfl))
  f20 := ⟨Tryz.f307.name, by decide, Tryz.func307.trans (congrArg some (by kernel_rfl))⟩
  f21 := ⟨Tryz.f308.name, by decide, Tryz.func308.trans (congrArg some (by kernel_rfl))⟩
  f22 := ⟨Tryz.f309.name, by decide, Tryz.func309.trans (congrArg some (by kernel_rfl))⟩
  f23 := ⟨Tryz.f310.name, by decide, Tryz.func310.trans (congrArg some (by kernel_rfl))⟩
  f24 := ⟨Tryz.f311.name, by decide, Tryz.func311.trans (congrArg some (by kernel_rfl))⟩
  f25 := ⟨Tryz.f312.name, by decide, Tryz.func312.trans (congrArg some (by kernel_rfl))⟩
  f26 := ⟨Tryz.f313.name, by decide, Tryz.func313.trans (congrArg some (by kernel_rfl))⟩
  f27 := ⟨Tryz.f314.name, by decide, Tryz.func314.trans (congrArg some (by kernel_rfl))⟩
  f28 := Tryz.func315.trans (congrArg some (by kernel_rfl))
  f29 := Tryz.func316.trans (congrArg some (by kernel_rfl))
  f46 := ⟨Tryz.f353.name, by decide, Tryz.func353.trans (congrArg some (by kernel_rfl))⟩
  f47 := Tryz.func354.trans (congrArg some (by kernel_rfl))
  f48 := Tryz.func355.trans (congrArg some (by kernel_rfl))
  f49 := ⟨Tryz.f356.name, by decide, Tryz.func356.trans (congrArg some (by kernel_rfl))⟩
  f50 := ⟨Tryz.f357.name, by decide, Tryz.func357.trans (congrArg some (by kernel_rfl))⟩
  f57 := ⟨Tryz.f369.name, by decide, Tryz.func369.trans (congrArg some (by kernel_rfl))⟩
  t0 := Tryz.underlying0
  a0 := Tryz.isAgg0
  z0 := Tryz.sizeOf0
  v0 := Tryz.zeroValue0
  t3 := Tryz.underlying3
  a3 := Tryz.isAgg3
  z3 := Tryz.sizeOf3
  v3 := Tryz.zeroValue3
  t4 := Tryz.underlying4
  a4 := Tryz.isAgg4
  z4 := Tryz.sizeOf4
  v4 := Tryz.zeroValue4
  t5 := Tryz.underlying5
  a5 := Tryz.isAgg5
  z5 := Tryz.sizeOf5
  v5 := Tryz.zeroValue5
  t9 := Tryz.underlying9
  a9 := Tryz.isAgg9
  z9 := Tryz.sizeOf9
  v9 := Tryz.zeroValue9
  t22 := Tryz.underlying22
  a22 := Tryz.isAgg22
  z22 := Tryz.sizeOf22
  v22 := Tryz.zeroValue22
  a24 := Tryz.isAgg3
  z24 := Tryz.sizeOf3
  t25 := Tryz.underlying97
  a25 := Tryz.isAgg97
  z25 := Tryz.sizeOf97
  v25 := Tryz.zeroValue97
  t39 := Tryz.underlying50
  a39 := Tryz.isAgg50
  z39 := Tryz.sizeOf50
  v39 := Tryz.zeroValue50
  t45 := Tryz.underlying344
  a45 := Tryz.isAgg344
  z45 := Tryz.sizeOf344
  v45 := Tryz.zeroValue344
  t46 := Tryz.underlying345
  a46 := Tryz.isAgg345
  z46 := Tryz.sizeOf345
  v46 := Tryz.zeroValue345
  t50 := Tryz.underlying250
  a50 := Tryz.isAgg250
  z50 := Tryz.sizeOf250
  v50 := Tryz.zeroValue250
  t53 := Tryz.underlying351
  a53 := Tryz.isAgg351
  z53 := Tryz.sizeOf351
  v53 := Tryz.zeroValue351
  t55 := Tryz.underlying353
  a55 := Tryz.isAgg353
  z55 := Tryz.sizeOf353
  v55 := Tryz.zeroValue353
  t66 := Tryz.underlying369
  a66 := Tryz.isAgg369
  z66 := Tryz.sizeOf369
  v66 := Tryz.zeroValue369
  t70 := Tryz.underlying373
  a70 := Tryz.isAgg373
  z70 := Tryz.sizeOf373
  v70 := Tryz.zeroValue373
  t76 := Tryz.underlying379
  a76 := Tryz.isAgg379
  z76 := Tryz.sizeOf379
  v76 := Tryz.zeroValue379
  t77 := Tryz.underlying380
  a77 := Tryz.isAgg380
  z77 := Tryz.sizeOf380
  v77 := Tryz.zeroValue380 }
end Go.Proofs
/-
  SX, part W: the library's contract of slices.SortFunc, as a contract over a block that may be changed.
-/
namespace Go.SX
open Go.Proofs Go.Shelf Go.RowKit Go.Lib Go.Sort
section
variable {P : Program} {ρ : Ren} {α : Type} [Inhabited α]

theorem toList_putCells (enc : α → Value) (d : Array α) (c : Array Value) (h : d.size ≤ c.size) : (putCells enc 0 d c).toList = d.toList.map enc ++ c.toList.drop d.size := by
  apply List.ext_getElem?
  intro k
  simp only [putCells, Array.getElem?_toList, Array.getElem?_mapIdx, Nat.zero_le, Nat.zero_add, true_and, Nat.sub_zero]
  by_cases hk : k < d.size
  · rw [List.getElem?_append_left (by simpa using hk)]
    have hc : k < c.size := by omega
    simp [hc, hk]
  · rw [List.getElem?_append_right (by simp; omega)]
    simp only [List.length_map, Array.length_toList, List.getElem?_drop, Array.getElem?_toList]
    rw [show d.size + (k - d.size) = k by omega]
    cases c[k]? with
    | none => rfl
    | some x => simp [hk]

theorem sort_con (L : SlLaysF.n6 P ρ) (enc : α → Value) (h1 : OneCell enc) (cf : α → α → Int) (hO : SWO (ltOf cf)) (g : Nat) (cb : Array Value) (eg : ∀ args w, (callFunc g args).run P w = .ok (.enter g args) w)
    (hcmp : ∀ (x y : α) (w : World), Calls P g (#[enc x, enc y] ++ cb) w fun e w' => e = .returned (.int .i64 (cf x y)) ∧ ∃ q, w' = w.drewN q)
    {h : RO} {m : Hp} {blk cap ty : Nat} {cs : Array Value} (hm : m blk = some (.cells cs ty)) (d : Array α) (hd : cs.toList.take d.size = d.toList.map enc) (hsz : d.size < 4611686018427387904) :
    Con P (ρ.f 6) [.slice (some ⟨blk, 0, none⟩) d.size cap, .func (.func g) #[] cb] h m fun e h' m' => e = .returned (.tuple #[]) ∧ h' = h ∧
      ∃ d' : Array α, d'.size = d.size ∧ d'.toList.Perm d.toList ∧ (∀ i j, i < j → j < d.size → (ltOf cf) d'[j]! d'[i]! = false) ∧ m' = m.set blk (.cells (d'.toList.map enc ++ cs.toList.drop d.size).toArray ty) := by
  have hle : d.size ≤ cs.size := by
    have := congrArg List.length hd
    simp at this
    omega
  refine ⟨?_, fun w hh hmw hdj => ?_⟩
  · obtain ⟨nm, h2, h3⟩ := L.f6
    exact ⟨_, h3, h2, rfl⟩
  have hb := hmw blk _ hm
  have hblk : blk < w.heap.size := (Array.getElem?_eq_some_iff.1 hb).1
  have hH : Holds enc w blk 0 d := fun j hj => by
    refine ⟨?_, by simp [World.frozen?, hb]⟩
    simp only [World.cell?, hb, Nat.zero_add, Option.isSome_none, Bool.false_eq_true, if_false]
    have h2 : (cs.toList.take d.size)[j]? = (d.toList.map enc)[j]? := by rw [hd]
    rw [List.getElem?_take, if_pos hj] at h2
    simpa [hj] using h2
  have hlays : CmpLays1 P g cb enc cf blk 0 d.size w := CmpReads.lays fun m os dk hs x y => hcmp x y _
  refine (Any.slices_SortFunc L enc h1 cf hO g cb blk 0 cap d w eg hlays hH hblk hsz).mono ?_
  rintro e w' ⟨rfl, d', n, os, hp, hs, rfl⟩
  have hX : (onCells (putCells enc 0 d') (.cells cs ty)) = .cells (d'.toList.map enc ++ cs.toList.drop d.size).toArray ty := by
    simp only [onCells]
    congr 1
    apply Array.ext'
    rw [toList_putCells enc d' cs (by rw [hp.1]; exact hle), hp.1]
  have hget : ∀ k, k < w.heap.size → (sortWorld enc w blk 0 n d' os).heap[k]? = if blk = k then some (.cells (d'.toList.map enc ++ cs.toList.drop d.size).toArray ty) else w.heap[k]? := by
    intro k hk
    simp only [sortWorld, grow, putRow, mapBlock, Sort.ahead]
    rw [Array.getElem?_append_left (by simpa using hk), Array.getElem?_modify]
    split
    · rename_i e; subst e; rw [hb, Option.map_some, hX]
    · rfl
  have hperm : d'.toList.Perm d.toList := by
    have := hp.2.2
    have e1 : (d'.extract 0 d.size).toList = d'.toList := by rw [← hp.1]; simp
    have e2 : (d.extract 0 d.size).toList = d.toList := by simp
    rwa [e1, e2] at this
  refine ⟨h, m.set blk (.cells (d'.toList.map enc ++ cs.toList.drop d.size).toArray ty), ?_, rfl, rfl, d', hp.1, hperm, fun i j hij hj => hs i j (Nat.zero_le _) hij hj, rfl⟩
  have hne : ∀ b, m b = none → blk ≠ b := fun b hb' e => by subst e; rw [hm] at hb'; cases hb'
  have hlt : ∀ b i v, h.c b i = some v → b < w.heap.size := fun b i v e => World.block_lt_of_cell? w ⟨b, i, none⟩ (hh.c b i v e)
  refine ⟨rfl, rfl, rfl, ?_, fun k hk hk' => ?_, RO.le.refl h, ⟨fun b i v e => ?_, fun b x e => ?_⟩, fun b x e => ?_, ⟨fun b i v e => ?_, fun b x e => ?_⟩, fun b i v e => .inl e, fun b x e => .inl e, fun b x e => .inl ?_⟩
  · simp [sortWorld, grow, putRow, mapBlock, Sort.ahead]
  · rw [hget k hk, if_neg (hne k hk')]
  · have hc := hh.c b i v e
    simp only [World.cell?, hget b (hlt b i v e), if_neg (hne b (hdj.c b i v e))] at hc ⊢
    exact hc
  · have ho := hh.o b x e
    have hb' := (Array.getElem?_eq_some_iff.1 ho.1).1
    rw [hget b hb', if_neg (hne b (hdj.o b x e))]; exact ho
  · unfold Hp.set at e
    split at e
    · rename_i e'; subst e'; cases e; rw [hget _ hblk, if_pos rfl]
    · rename_i e'
      have hb' := hmw b x e
      rw [hget b (Array.getElem?_eq_some_iff.1 hb').1, if_neg (Ne.symm e')]; exact hb'
  · have := hdj.c b i v e
    rw [Hp.set_ne (hne b this).symm]; exact this
  · have := hdj.o b x e
    rw [Hp.set_ne (hne b this).symm]; exact this
  · intro e'
    unfold Hp.set at e
    split at e
    · rename_i e2; subst e2; rw [hm] at e'; cases e'
    · rw [e'] at e; cases e
end
end Go.SX
