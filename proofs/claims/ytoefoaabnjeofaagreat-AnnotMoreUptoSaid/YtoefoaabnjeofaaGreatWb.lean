/- Proved here: the second part of that layer, and contracts of the first functions. Conditions: none beyond the statement's own. -/
import Derived.Test.YtoefoaabnjeofaaGreatWa
import Derived.Test.YtoefoaabnjeofaaGreatProg
set_option linter.unusedVariables false
set_option linter.unusedSimpArgs false
set_option linter.constructorNameAsVariable false
/-
  SX, part M: 'go': what 'vc' asks is enough; 'fn_of': a function's contract.
-/
namespace Go.SX
section
variable {C : Cx} {k : List It} {ρ : Fr} {bx : BX} {h : RO} {m : Hp} {T : Nat → TI}

def resOne (tmps : Array Value) : ResultVar → Sem Value
  | .tmp t => pure (tmps.getD t undef)
  | .cell a t => do loadVar t (← asAddr (tmps.getD a undef))

theorem resK_ok {P : Program} {β : Nat → Nat} {w0 w : World} {h0 : RO} {m0 : Hp} {a : Act} (hT : TOk P T) (M : Mem β w0 h0 m0 bx h m w) (F : Frm β ρ bx a) :
    ∀ {rs : List ResultVar} {K : List Value → Prop}, resK T ρ bx h m rs K → ∃ vs, K vs ∧ (rs.mapM (resOne a.tmps)).run P w = .ok vs w
  | [], K, hk => ⟨[], hk, by simp⟩
  | .tmp t :: r, K, hk => by
    simp only [resK] at hk
    obtain ⟨v, hk, hv⟩ := F.evP hk
    obtain ⟨vs, hk, hr⟩ := resK_ok hT M F hk
    refine ⟨v :: vs, hk, ?_⟩
    have : a.tmps.getD t undef = v := hv
    rw [List.mapM_cons]
    simp only [resOne, this, Sem.run_bind, Sem.run_pure, Result.andThen_ok, hr]
  | .cell t ty :: r, K, hk => by
    simp only [resK] at hk
    obtain ⟨s, hk, hs⟩ := F.ev hk
    obtain ⟨v, b, off, hk, hc, hl⟩ := loadK_ok hT M hk
    obtain ⟨vs, hk, hr⟩ := resK_ok hT M F hk
    refine ⟨v :: vs, hk, ?_⟩
    have : a.tmps.getD t undef = .pointer (some ⟨b, off, none⟩) := by rw [← hc]; exact hs
    rw [List.mapM_cons]
    simp only [resOne, this, asAddr, Sem.run_bind, Sem.run_pure, Result.andThen_ok, hl, hr]

theorem packV_eq (vs : List Value) : (if hh : vs.toArray.size = 1 then vs.toArray[0] else Value.tuple vs.toArray) = packV vs := by
  match vs with
  | [] => rfl
  | [v] => rfl
  | v :: u :: r => simp [packV]

theorem run_results {P : Program} {fn : Func} {tmps : Array Value} {w : World} {vs : List Value} (h : (fn.results.toList.mapM (resOne tmps)).run P w = .ok vs w) :
    (results fn tmps).run P w = .ok (packV vs) w := by
  have e : (Array.mapM (resOne tmps) fn.results) = List.toArray <$> fn.results.toList.mapM (resOne tmps) := Array.mapM_eq_mapM_toList
  show Sem.run P (do let vs ← Array.mapM (resOne tmps) fn.results; pure (if hh : vs.size = 1 then vs[0] else Value.tuple vs)) w = _
  rw [e]
  simp only [Sem.run_bind, Sem.run_map, h, Result.andThen_ok, Sem.run_pure]
  rw [packV_eq]

theorem post_of {rs : List ResultVar} {a : Act} {w : World} (hT : TOk C.P T) (hr : C.fn.results.toList = rs) (s : Sat C.nt C.w0 C.h0 C.m0 ρ bx h m a w)
    (hk : resK T ρ bx h m rs fun vs => C.R (.returned (packV vs)) h m) : C.post .ret a w ∧ C.post .normal a w := by
  obtain ⟨β, M, F⟩ := s.parts
  obtain ⟨vs, hk, hrun⟩ := resK_ok hT M F hk
  rw [← hr] at hrun
  have := run_results hrun
  exact ⟨⟨s.defers, _, this, h, m, s.step, hk⟩, ⟨s.defers, _, this, h, m, s.step, hk⟩⟩

theorem sx_end {rs : List ResultVar} (hT : TOk C.P T) (hr : C.fn.results.toList = rs)
    (hk : pubK ρ (resOps rs) bx h fun bx h => resK T ρ bx h m rs fun vs => C.R (.returned (packV vs)) h m) : Sx C [] ρ bx h m := by
  refine sx_pub (xs := resOps rs) (k := []) ?_
  have key : ∀ (bx : BX) (h : RO), (resK T ρ bx h m rs fun vs => C.R (.returned (packV vs)) h m) → Sx C [] ρ bx h m := fun bx h hk => .mk fun a w s => by
    show WP C [] a w; simp only [WP]; exact (post_of hT hr s hk).2
  have mono : ∀ {xs : List Operand} {bx : BX} {h : RO} {K K' : BX → RO → Prop}, (∀ bx h, K bx h → K' bx h) → pubK ρ xs bx h K → pubK ρ xs bx h K' := by
    intro xs
    induction xs with
    | nil => intro bx h K K' hh hk; exact hh _ _ hk
    | cons x xs ih =>
      intro bx h K K' hh hk
      simp only [pubK] at hk ⊢
      unfold ev at hk ⊢
      split at hk
      · split at hk
        · split at hk
          · split at hk
            · exact fun b h' h1 h2 => ih hh (hk b h' h1 h2)
            · exact ih hh hk
          · split at hk
            · exact fun b h' h1 h2 => ih hh (hk b h' h1 h2)
            · exact ih hh hk
          · exact ih hh hk
        · exact hk
      · exact ih hh hk
      · exact ih hh hk
      · exact ih hh hk
  exact mono key hk

theorem pubK_mono : ∀ {xs : List Operand} {bx : BX} {h : RO} {K K' : BX → RO → Prop}, (∀ bx h, K bx h → K' bx h) → pubK ρ xs bx h K → pubK ρ xs bx h K' := by
  intro xs
  induction xs with
  | nil => intro bx h K K' hh hk; exact hh _ _ hk
  | cons x xs ih =>
    intro bx h K K' hh hk
    simp only [pubK] at hk ⊢
    unfold ev at hk ⊢
    split at hk
    · split at hk
      · split at hk
        · split at hk
          · exact fun b h' h1 h2 => ih hh (hk b h' h1 h2)
          · exact ih hh hk
        · split at hk
          · exact fun b h' h1 h2 => ih hh (hk b h' h1 h2)
          · exact ih hh hk
        · exact ih hh hk
      · exact hk
    · exact ih hh hk
    · exact ih hh hk
    · exact ih hh hk

theorem sx_ret {rs : List ResultVar} (hT : TOk C.P T) (hr : C.fn.results.toList = rs)
    (hk : pubK ρ (resOps rs) bx h fun bx h => resK T ρ bx h m rs fun vs => C.R (.returned (packV vs)) h m) : Sx C (.code .ret :: k) ρ bx h m := by
  refine sx_pub (xs := resOps rs) (k := .code .ret :: k) (pubK_mono (fun bx h hk => ?_) hk)
  refine .mk fun a w s => ?_
  rw [WPx_code]
  exact wp_ret (post_of hT hr s hk).1

theorem get_bool {a : Act} {d : Nat} {b : Bool} (hs : a.tmps.getD d undef = .bool b) : a.tmps[d]? = some (.bool b) := by
  rw [Array.getD_eq_getD_getElem?] at hs
  cases e : a.tmps[d]? with
  | none => rw [e] at hs; cases hs
  | some v => rw [e] at hs; simp at hs; rw [hs]

theorem guard_split {all : Array Oper} {o : Oper} {X Y : Fr → Prop} {a : Act} {w : World} (s : Sat C.nt C.w0 C.h0 C.m0 ρ bx h m a w) (hk : guardK all ρ o.guard X Y) :
    (Region.wanted o (yielded all a.tmps) = true ∧ ∃ ρ', X ρ' ∧ Sat C.nt C.w0 C.h0 C.m0 ρ' bx h m a w) ∨
    (Region.wanted o (yielded all a.tmps) = false ∧ ∃ ρ', Y ρ' ∧ Sat C.nt C.w0 C.h0 C.m0 ρ' bx h m a w) := by
  unfold guardK at hk
  split at hk
  · rename_i hg
    exact .inl ⟨by simp [Region.wanted, hg], ρ, hk, s⟩
  · rename_i j want hg
    split at hk
    · rename_i oj hj
      rw [nthL_eq] at hj
      have hj' : all[j]? = some oj := by simpa using hj
      split at hk
      · rename_i d hd
        split at hk
        · rename_i b hgb
          obtain ⟨β, M, F⟩ := s.parts
          have hv := get_bool (F.f d _ hgb)
          have hy : yielded all a.tmps j = some b := by simp [yielded, hj', hd, hv]
          cases b <;> cases want <;> first
            | exact .inl ⟨by simp [Region.wanted, hg, hy], ρ, hk, s⟩
            | exact .inr ⟨by simp [Region.wanted, hg, hy], ρ, hk, s⟩
        · rename_i b hgb
          obtain ⟨β, M, F⟩ := s.parts
          have hv := get_bool (F.f d _ hgb)
          have hy : yielded all a.tmps j = some b := by simp [yielded, hj', hd, hv]
          by_cases e : b = want
          · subst e
            refine .inl ⟨by simp [Region.wanted, hg, hy], _, hk.1 rfl, ?_⟩
            refine Sat.of_parts s.size s.defers M fun t sv e => ?_
            rw [Fr.get_cons] at e
            split at e
            · rename_i et; subst et; cases e; exact F.f d (.v (.bool _)) hgb
            · exact F.f t sv e
          · have e' : b = !want := by cases b <;> cases want <;> simp_all
            refine .inr ⟨by simp [Region.wanted, hg, hy, e], _, hk.2 e', ?_⟩
            refine Sat.of_parts s.size s.defers M fun t sv e => ?_
            rw [Fr.get_cons] at e
            split at e
            · rename_i et; subst et; cases e; rw [← e']; exact F.f d (.v (.bool _)) hgb
            · exact F.f t sv e
        · rename_i q hgb
          obtain ⟨β, M, F⟩ := s.parts
          have hv := F.f d _ hgb
          have hy : yielded all a.tmps j = none := by
            simp only [yielded, hj', hd, Option.bind_some]
            rw [Array.getD_eq_getD_getElem?] at hv
            cases e : a.tmps[d]? with
            | none => rfl
            | some v => rw [e] at hv; simp [conc] at hv; rw [hv]
          exact .inr ⟨by simp [Region.wanted, hg, hy], _, hk, s⟩
        · exact hk.elim
      · exact hk.elim
    · exact hk.elim

theorem put_undef {o : Oper} {a : Act} {w : World} (s : Sat C.nt C.w0 C.h0 C.m0 ρ bx h m a w) (hdst : dstOk C.nt o.dst) : Sat C.nt C.w0 C.h0 C.m0 (upd ρ o.dst (.v undef)) bx h m (a.put o.dst undef) w := by
  obtain ⟨β, M, F⟩ := s.parts
  exact s.put hdst (β := β) (x := .v undef) F.f M.ok M.ne

theorem loadS_ok {P : Program} {β : Nat → Nat} {t : Nat} {s : SV} {K : Value → Prop} (hT : TOk P T) (hpub : ∀ id b cs, BX.get bx id = some (.pub b cs) → β id = b ∧ ∀ i u, cs[i]? = some u → h.c b i = some u)
    (hk : loadS T bx h t s K) : ∃ v b off, K v ∧ conc β s = .pointer (some ⟨b, off, none⟩) ∧ ∀ w, h.on w → (loadVar t ⟨b, off, none⟩).run P w = .ok v w := by
  replace hk := ck_iff.1 hk
  obtain ⟨h1, hk⟩ := hk
  replace hk := ck_iff.1 hk
  obtain ⟨h2, hk⟩ := hk
  replace h2 := oneOkB_ok h2
  split at hk
  · rename_i id off
    split at hk
    · rename_i b cs hg
      obtain ⟨hb, hcs⟩ := hpub id b cs hg
      obtain ⟨vs, hl, hc, hK⟩ := ldB_ex hk
      exact ⟨_, β id, off, hK, rfl, fun w hon => run_loadVar hT h1 h2 hl fun j v e => by rw [hb]; exact hon.c _ _ _ (hcs _ _ (hc j v e))⟩
    · exact hk.elim
  · replace hk := ptrK_ok hk
    obtain ⟨b, off, rfl, hk⟩ := hk
    obtain ⟨vs, hl, hc, hK⟩ := ldK_ex hk
    exact ⟨_, b, off, hK, rfl, fun w hon => run_loadVar hT h1 h2 hl fun j v e => hon.c _ _ _ (hc j v e)⟩
  · exact hk.elim

theorem opS_ok {P : Program} {β : Nat → Nat} {a : Act} {K : SV → Prop} (hT : TOk P T) (F : Frm β ρ bx a) (hpub : ∀ id b cs, BX.get bx id = some (.pub b cs) → β id = b ∧ ∀ i u, cs[i]? = some u → h.c b i = some u) {o : Oper} (hk : opS T ρ bx h o.op o.type K) :
    ∃ s, K s ∧ ∀ w, h.on w → (execOp a.eval o).run P w = .ok (.value (conc β s)) w := by
  obtain ⟨dst, op, ty, pos, after, guard⟩ := o
  simp only at hk
  unfold opS at hk
  split at hk
  · obtain ⟨sv, hk, he⟩ := F.ev hk
    obtain ⟨v, b, off, hk, hc, hr⟩ := loadS_ok hT hpub hk
    refine ⟨_, hk, fun w hon => ?_⟩
    rw [hc] at he
    simp [execOp, he, Instr.loadAt, Instr.sureAddr, hr w hon, conc]
  · obtain ⟨s, hs, hr⟩ := opV_ok (o := { dst, op := _, type := ty, pos, after, guard }) hT F hk
    exact ⟨s, hs, fun w _ => hr w⟩

theorem kq_panic {k : List It} (dst : Option Tmp) (v : Value) : ∀ c (a : Act) (w : World), KQ C k (.panic c) (a.put dst v) w → KQ C k (.panic c) a w := fun c a w hq => by
  simp only [KQ] at hq ⊢
  cases dst <;> exact hq


theorem Sat.drawn {a : Act} {w : World} {n : Nat} (s : Sat C.nt C.w0 C.h0 C.m0 ρ bx h m a w) : Sat C.nt C.w0 C.h0 C.m0 ρ bx h m a { w with drawn := n } := by
  obtain ⟨β, h1, h2, h3⟩ := s.ex
  have st := s.step
  exact ⟨⟨st.os, st.tape, st.output, st.size, st.same, st.le, ⟨st.hon.c, st.hon.o⟩, st.mon, st.disj, st.hnew, st.onew, st.mnew⟩, s.size, s.defers, β, h1, h2, h3⟩

/-! ### a drawn region -/

mutual
def codeOk (G : Gv) : Code → Bool
  | .seq x y => codeOk G x && codeOk G y
  | .block _ x => codeOk G x
  | .cond _ x y => codeOk G x && codeOk G y
  | .loop x => codeOk G x
  | .region id ops true => match schG G.sch id with
    | some s => Region.noSelect ops && chk ops [] s
    | none => true
  | _ => true
end
def itOk (G : Gv) : It → Bool
  | .code c => codeOk G c
  | .draw all done s => Region.noSelect all && chk all done s
  | _ => true
def kOk (G : Gv) : List It → Bool
  | [] => true
  | x :: k => itOk G x && kOk G k

theorem lst_size (n : Nat) : ∀ l : List Nat, (lst n l).size = n
  | [] => by simp [lst]
  | i :: r => by simp [lst, lst_size n r]

/-- What an operation that comes up next is to do. -/
def Comp (C : Cx) (all : Array Oper) (done : List Nat) (k : List It) (ρ : Fr) (bx : BX) (h : RO) (m : Hp) (i : Nat) : Prop :=
  ∀ a w, Sat C.nt C.w0 C.h0 C.m0 ρ bx h m a w →
    wpOp C.P all (KQ C k) i (fun a' w' => h.on w' ∧ wpAnyH C.P .any all (KQ C k) h.on (all.size - (i :: done).length) (lst all.size (i :: done)) a' w') a w

theorem draw_all {all : Array Oper} {done : List Nat} {sch : Sch} (hlt : done.length < all.size) (hne : Region.ready .any all (lst all.size done) ≠ [])
    (hc : ∀ i ∈ Region.ready .any all (lst all.size done), Comp C all done k ρ bx h m i) : Sx C (.draw all done sch :: k) ρ bx h m := .mk fun a w s => by
  show wpAnyH _ _ _ _ _ _ _ _ _
  obtain ⟨q, hq⟩ : ∃ q, all.size - done.length = q + 1 := ⟨all.size - done.length - 1, by omega⟩
  rw [hq]
  refine wpAnyH_all rfl hne fun i hi => ?_
  have := hc i hi a w s
  rw [show all.size - (i :: done).length = q by simp; omega] at this
  exact this

theorem draw_nil {all : Array Oper} {done : List Nat} {sch : Sch} (he : Region.ready .any all (lst all.size done) = []) (hk : Sx C k ρ bx h m) : Sx C (.draw all done sch :: k) ρ bx h m := .mk fun a w s =>
  wpAnyH_done he (hk.wp s) _

theorem nth_some {all : Array Oper} {i : Nat} {o : Oper} (h : nthL all.toList i = some o) : all[i]? = some o := by
  rw [nthL_eq] at h; simpa using h

theorem draw_one {all : Array Oper} {done : List Nat} {sch : Sch} {i : Nat} {o : Oper} (hT : TOk C.P T) (ho : all[i]? = some o) (hs : Region.noSelect all = true) (hlt : done.length < all.size)
    (hf : Region.free .any all (lst all.size done) i = true) (hr : (Region.ready .any all (lst all.size done)).contains i = true) (hdst : dstOk C.nt o.dst) {r : Sch}
    {X : Fr → SV → Prop} {Y : Fr → Prop}
    (hX : ∀ ρ' s, X ρ' s → Sx C (.draw all (i :: done) r :: k) (upd ρ' o.dst s) bx h m) (hY : ∀ ρ', Y ρ' → Sx C (.draw all (i :: done) r :: k) (upd ρ' o.dst (.v undef)) bx h m)
    (hk : guardK all ρ o.guard (fun ρ => opS T ρ bx h o.op o.type (X ρ)) Y) : Sx C (.draw all done sch :: k) ρ bx h m := .mk fun a w s => by
  show wpAnyH _ _ _ _ _ _ _ _ _
  obtain ⟨q, hq⟩ : ∃ q, all.size - done.length = q + 1 := ⟨all.size - done.length - 1, by omega⟩
  rw [hq]
  have hon : h.on w := s.step.hon
  have e1 : all.size - (i :: done).length = q := by simp; omega
  rcases guard_split s hk with ⟨hw, ρ', hx, s'⟩ | ⟨hw, ρ', hy, s'⟩
  · obtain ⟨β, M, F⟩ := s'.parts
    obtain ⟨sv, hx, hrun⟩ := opS_ok hT F (fun id b cs e => M.ok id _ e) hx
    obtain ⟨f1, f2, f3⟩ := frame_put (β := β) s.size hdst (s := sv) F.f
    have := (hX _ _ hx).run _ _ (Sat.of_parts f2 (f3.trans s.defers) M f1)
    refine wpAnyH_take ho hs hf hr (kq_panic _ _) (.inl ⟨hw, hrun⟩) hon ?_
    have h2 : wpAnyH C.P .any all (KQ C k) h.on (all.size - (i :: done).length) (lst all.size (i :: done)) (a.put o.dst (conc β sv)) w := this
    rw [e1] at h2
    exact h2
  · refine wpAnyH_take ho hs hf hr (kq_panic _ _) (.inr ⟨hw, rfl⟩) hon ?_
    have h2 : wpAnyH C.P .any all (KQ C k) h.on (all.size - (i :: done).length) (lst all.size (i :: done)) (a.put o.dst undef) w := (hY _ hy).run _ _ (put_undef s' hdst)
    rw [e1] at h2
    exact h2

theorem draw_comp {all : Array Oper} {done : List Nat} {i : Nat} {o : Oper} {esc : List Nat} (hT : TOk C.P T) (ho : all[i]? = some o) (hdst : dstOk C.nt o.dst) {r : Sch}
    {X : Fr → SV → BX → RO → Hp → Prop} {Y : Fr → Prop}
    (hX : ∀ ρ' s bx' h' m', X ρ' s bx' h' m' → Sx C (.draw all (i :: done) r :: k) (upd ρ' o.dst s) bx' h' m') (hY : ∀ ρ', Y ρ' → Sx C (.draw all (i :: done) r :: k) (upd ρ' o.dst (.v undef)) bx h m)
    (hk : guardK all ρ o.guard (fun ρ => pubK ρ (needPub o.op) bx h fun bx h => opM C.P T esc ρ bx h m o.dst o.op o.type (X ρ) (Resume C (.draw all (i :: done) r :: k) o.dst ρ bx)) Y) : Comp C all done k ρ bx h m i := fun a w s => by
  have key : ∀ {ρ : Fr} {bx : BX} {h' : RO} {m : Hp}, h.le h' → Sx C (.draw all (i :: done) r :: k) ρ bx h' m →
      SK C (fun a' w' => h.on w' ∧ wpAnyH C.P .any all (KQ C k) h.on (all.size - (i :: done).length) (lst all.size (i :: done)) a' w') ρ bx h' m := fun hl hx a w s =>
    ⟨RO.on_le hl s.step.hon, wpAnyH_mono (fun w => RO.on_le hl) _ _ _ _ (hx.run a w s)⟩
  unfold wpOp
  rw [ho]
  rcases guard_split s hk with ⟨hw, ρ', hx, s'⟩ | ⟨hw, ρ', hy, s'⟩
  · simp only [hw, if_true]
    refine .inl ?_
    refine pub_all (Q := fun a w => o.wp C.P a w _ (KQ C k)) (RO.le.refl h) (pubK_imp (fun bx1 h1 hx hl a w s => ?_) hx) a w s'
    refine opM_does hT s hdst ?_ ?_ ?_ ?_ hx (Q := KQ C k) fun c a w q => q
    · exact fun s bx' h' m' hl' q => key (hl.trans hl') (hX _ _ _ _ _ q)
    · exact fun v h' m' hl' q => key (hl.trans hl') q
    · exact fun c h' m' q => q
    · exact fun h' m' q => q
  · simp only [hw, Bool.false_eq_true, if_false]
    exact key (RO.le.refl h) (hY _ hy) _ _ (put_undef s' hdst)

theorem ops_step {all : Array Oper} {o : Oper} {r : List Oper} {esc : List Nat} (hT : TOk C.P T) (hdst : dstOk C.nt o.dst)
    {X : Fr → SV → BX → RO → Hp → Prop} {Y : Fr → Prop}
    (hX : ∀ ρ' s bx' h' m', X ρ' s bx' h' m' → Sx C (.ops all r :: k) (upd ρ' o.dst s) bx' h' m') (hY : ∀ ρ', Y ρ' → Sx C (.ops all r :: k) (upd ρ' o.dst (.v undef)) bx h m)
    (hk : guardK all ρ o.guard (fun ρ => pubK ρ (needPub o.op) bx h fun bx h => opM C.P T esc ρ bx h m o.dst o.op o.type (X ρ) (Resume C (.ops all r :: k) o.dst ρ bx)) Y) : Sx C (.ops all (o :: r) :: k) ρ bx h m := .mk fun a w s => by
  rw [WPx_ops]
  have key : ∀ {ρ : Fr} {bx : BX} {h' : RO} {m : Hp}, Sx C (.ops all r :: k) ρ bx h' m → SK C (wpList C.P all (KQ C k) r) ρ bx h' m := fun hx a w s => by
    have := hx.run a w s
    rw [WPx_ops] at this
    exact this
  refine wpList_step fun K hK => ?_
  rcases guard_split s hk with ⟨hw, ρ', hx, s'⟩ | ⟨hw, ρ', hy, s'⟩
  · rw [if_pos hw]
    refine pub_all (Q := fun a w => o.wp C.P a w _ (KQ C k)) (RO.le.refl h) (pubK_imp (fun bx1 h1 hx hl a w s => ?_) hx) a w s'
    refine Oper.wp_mono hK (opM_does hT s hdst ?_ ?_ ?_ ?_ hx (Q := KQ C k) fun c a w q => q)
    · exact fun s bx' h' m' hl' q => key (hX _ _ _ _ _ q)
    · exact fun v h' m' hl' q => key q
    · exact fun c h' m' q => q
    · exact fun h' m' q => q
  · rw [if_neg (by rw [hw]; exact Bool.false_ne_true)]
    exact hK _ _ (key (hY _ hy) _ _ (put_undef s' hdst))

theorem exitIt_ok {G : Gv} {id : Nat} : ∀ {k k' : List It}, kOk G k = true → exitIt id k = some k' → kOk G k' = true
  | [], _, _, h => by simp [exitIt] at h
  | .blk id' :: k, k', hk, h => by
    simp only [kOk, itOk, Bool.true_and] at hk
    simp only [exitIt] at h
    split at h
    · cases h; exact hk
    · exact exitIt_ok hk h
  | .code _ :: k, _, hk, h => by simp only [kOk, Bool.and_eq_true] at hk; simp only [exitIt] at h; exact exitIt_ok hk.2 h
  | .ops _ _ :: k, _, hk, h => by simp only [kOk, Bool.and_eq_true] at hk; simp only [exitIt] at h; exact exitIt_ok hk.2 h
  | .goal _ :: k, _, hk, h => by simp only [kOk, Bool.and_eq_true] at hk; simp only [exitIt] at h; exact exitIt_ok hk.2 h
  | .draw _ _ _ :: k, _, hk, h => by simp only [kOk, Bool.and_eq_true] at hk; simp only [exitIt] at h; exact exitIt_ok hk.2 h

theorem pubAt_ok {pubs : List Nat} {op : Op} {d : Option Nat} (hk : pubAt pubs ρ op d bx h fun bx h => Sx C k ρ bx h m) : Sx C k ρ bx h m := by
  unfold pubAt at hk
  split at hk
  · split at hk
    · split at hk
      · exact sx_pub hk
      · exact hk
    · exact hk
  · unfold ev at hk
    split at hk
    · split at hk
      · split at hk
        · split at hk
          · exact sx_pub hk
          · exact hk
        · exact hk
      · exact hk.elim
    · exact hk
    · exact hk
    · exact hk
  · exact hk
theorem pubAt_imp {pubs : List Nat} {op : Op} {d : Option Nat} {K K' : BX → RO → Prop} (hh : ∀ bx h, K bx h → K' bx h) (hk : pubAt pubs ρ op d bx h K) : pubAt pubs ρ op d bx h K' := by
  unfold pubAt at hk ⊢
  split at hk
  · split at hk
    · split at hk
      · exact pubK_imp hh hk
      · exact hh _ _ hk
    · exact hh _ _ hk
  · unfold ev at hk ⊢
    split at hk
    · split at hk
      · split at hk
        · split at hk
          · exact pubK_imp hh hk
          · exact hh _ _ hk
        · exact hh _ _ hk
      · exact hk.elim
    · exact hh _ _ hk
    · exact hh _ _ hk
    · exact hh _ _ hk
  · exact hh _ _ hk

/-- What 'vc' asks at a number of steps is enough. -/
def Good (C : Cx) (nt : Nat) (rs : List ResultVar) (R : Ending → RO → Hp → Prop) (T : Nat → TI) (G : Gv) (n : Nat) : Prop :=
  ∀ ⦃k : List It⦄ ⦃ρ : Fr⦄ ⦃bx : BX⦄ ⦃h : RO⦄ ⦃m : Hp⦄, kOk G k = true → vc C C.P nt rs R T G n k ρ bx h m → Sx C k ρ bx h m

theorem fork_ok {nt : Nat} {rs : List ResultVar} {R : Ending → RO → Hp → Prop} {G : Gv} (hn : C.nt = nt) (hT : TOk C.P T) {all : Array Oper} {done : List Nat} (hs : Region.noSelect all = true) (hk : kOk G k = true) :
    ∀ (s : Sch) (n : Nat) (l : List Nat) (top : Sch), (∀ n', n' < n → Good C nt rs R T G n') → chk.chkF all done top l s = true → vc C C.P nt rs R T G n (.draw all done s :: k) ρ bx h m →
      Sx C (.draw all done s :: k) ρ bx h m ∨ ∀ i ∈ Region.ready .any all (lst all.size done), i ∉ l → Comp C all done k ρ bx h m i
  | s, 0, _, _, _, _, hv => .inl hv
  | .nil, n + 1, _, _, _, hc, _ => by simp [chk.chkF] at hc
  | .one _ _, n + 1, _, _, _, hc, _ => by simp [chk.chkF] at hc
  | .stop, n + 1, l, _, _, hc, _ => by
    refine .inr fun i hi hl => ?_
    simp only [chk.chkF, List.all_eq_true] at hc
    exact absurd (by simpa using hc i hi) hl
  | .fork j r s, n + 1, l, top, ih, hc, hv => by
    simp only [chk.chkF, Bool.and_eq_true] at hc
    simp only [vc] at hv
    obtain ⟨h1, h2⟩ := hv
    rcases fork_ok hn hT hs hk s n (j :: l) top (fun n' hn' => ih n' (by omega)) hc.2 h2 with q | q
    · exact .inl ⟨q.run⟩
    · refine .inr fun i hi hl => ?_
      by_cases e : i = j
      · subst e
        split at h1
        · rename_i o ho
          replace h1 := ck_iff.1 h1
          obtain ⟨hd, h1⟩ := h1
          replace hd := dstB_ok hd
          subst hn
          have hg : kOk G (.draw all (i :: done) r :: k) = true := by simp [kOk, itOk, hs, hc.1, hk]
          exact draw_comp hT (nth_some ho) hd (fun _ _ _ _ _ q => pubAt_ok (pubAt_imp (fun bx h q => ih n (by omega) hg q) q)) (fun _ q => ih n (by omega) hg q) h1
        · exact h1.elim
      · exact q i hi (by simp [e, hl])

theorem vc_ok {nt : Nat} {rs : List ResultVar} {R : Ending → RO → Hp → Prop} {G : Gv} (hn : C.nt = nt) (hr : C.fn.results.toList = rs) (hR : C.R = R) (hT : TOk C.P T) (hM : C.P.follows .mixedOrders = true) (n : Nat) : Good C nt rs R T G n := by
  induction n using Nat.strongRecOn with
  | _ n ih =>
  intro k ρ bx h m hg hk
  cases n with
  | zero => exact hk
  | succ n =>
    have ih' : Good C nt rs R T G n := ih n (by omega)
    match k, hg, hk with
    | [], _, hk => subst hR; exact sx_end hT hr hk
    | .goal J :: k, _, hk => exact sx_goal hk
    | .blk id :: k, hg, hk => exact sx_blk (ih' (by simpa [kOk, itOk] using hg) hk)
    | .ops all [] :: k, hg, hk => exact sx_ops_nil (ih' (by simpa [kOk, itOk] using hg) hk)
    | .ops all (o :: r) :: k, hg, hk =>
      subst hn
      simp only [vc] at hk
      have hg' : kOk G (.ops all r :: k) = true := by simpa [kOk, itOk] using hg
      replace hk := ck_iff.1 hk
      exact ops_step hT (dstB_ok hk.1) (fun _ _ _ _ _ q => pubAt_ok (pubAt_imp (fun bx h q => ih' hg' q) q)) (fun _ q => ih' hg' q) hk.2
    | .draw all done s :: k, hg, hk =>
      simp only [kOk, itOk, Bool.and_eq_true] at hg
      obtain ⟨⟨hs, hc⟩, hg⟩ := hg
      cases s with
      | nil => exact draw_nil (by simpa [chk] using hc) (ih' hg hk)
      | stop => simp [chk] at hc
      | one i r =>
        subst hn
        simp only [chk, Bool.and_eq_true] at hc
        obtain ⟨⟨⟨c1, c2⟩, c3⟩, c4⟩ := hc
        simp only [vc] at hk
        split at hk
        · rename_i o ho
          have hg' : kOk G (.draw all (i :: done) r :: k) = true := by simp [kOk, itOk, hs, c4, hg]
          replace hk := ck_iff.1 hk
          exact draw_one (X := fun ρ s => vc C C.P C.nt rs R T G n (.draw all (i :: done) r :: k) (upd ρ o.dst s) bx h m) hT (nth_some ho) hs (by rw [Nat.blt_eq] at c1; exact c1) c2 c3 (dstB_ok hk.1) (fun _ _ q => ih' hg' q) (fun _ q => ih' hg' q) hk.2
        · exact hk.elim
      | fork i r s =>
        simp only [chk, Bool.and_eq_true] at hc
        obtain ⟨⟨⟨c1, c0⟩, c2⟩, c3⟩ := hc
        have hlt : done.length < all.size := by rw [Nat.blt_eq] at c1; exact c1
        have h0 := hk
        simp only [vc] at h0
        have hall := fork_ok hn hT hs hg (.fork i r s) (n + 1) [] s (fun n' hn' => ih n' hn') (by simp only [chk.chkF, Bool.and_eq_true]; exact ⟨c2, c3⟩) hk
        rcases hall with q | q
        · exact q
        · by_cases hne : Region.ready .any all (lst all.size done) = []
          · rw [hne] at c0; simp at c0
          · exact draw_all hlt hne fun i hi => q i hi (by simp)
    | .code c :: k, hg, hk =>
      simp only [kOk, itOk, Bool.and_eq_true] at hg
      obtain ⟨hc, hg⟩ := hg
      cases c with
      | skip => exact sx_skip (ih' hg hk)
      | seq x y =>
        simp only [codeOk, Bool.and_eq_true] at hc
        exact sx_seq (ih' (by simp [kOk, itOk, hc.1, hc.2, hg]) hk)
      | block id x =>
        simp only [codeOk] at hc
        exact sx_block (ih' (by simp [kOk, itOk, hc, hg]) hk)
      | exit id =>
        simp only [vc] at hk
        split at hk
        · rename_i k' he; exact sx_exit he (ih' (exitIt_ok hg he) hk)
        · exact hk.elim
      | ret => subst hR; exact sx_ret hT hr hk
      | cond c x y => exact sx_cond hk
      | region id ops d =>
        cases d with
        | false => exact sx_region (ih' (by simp [kOk, itOk, hg]) hk)
        | true =>
          simp only [vc] at hk
          simp only [codeOk] at hc
          split at hk
          · rename_i s hsch
            rw [hsch] at hc
            simp only [Bool.and_eq_true] at hc
            have := ih' (k := .draw ops [] s :: k) (by simp [kOk, itOk, hc.1, hc.2, hg]) hk
            refine .mk fun a w st => ?_
            rw [WPx_code]
            refine wp_region_held (S := h.on) hM ?_
            exact this.run a _ st.drawn
          · exact hk.go
      | loop x => exact hk.go
      | rangeFunc _ _ _ _ => exact hk.elim
      | scope _ => exact hk.elim
      | label _ => exact hk.elim
      | goto _ => exact hk.elim
      | refuse _ => exact hk.elim

/-- The walk, some steps on. -/
theorem go {P : Program} {nt : Nat} {rs : List ResultVar} {R : Ending → RO → Hp → Prop} (G : Gv) (n : Nat) (hC : Is C P nt rs R T) (hg : kOk G k = true)
    (hk : vc C P nt rs R T G n k ρ bx h m) : Sx C k ρ bx h m := by
  obtain ⟨rfl, h1, h2, h3, h4, h5⟩ := hC
  exact vc_ok h1 h2 h3 h4 h5 n hg hk

def argFr : Nat → List Value → Fr
  | _, [] => []
  | n, v :: r => (n, .v v) :: argFr (n + 1) r
theorem argFr_get : ∀ (n : Nat) (l : List Value) (t : Nat) (s : SV), Fr.get (argFr n l) t = some s → ∃ v, s = .v v ∧ n ≤ t ∧ l[t - n]? = some v
  | n, [], t, s, h => by simp [argFr, Fr.get] at h
  | n, v :: r, t, s, h => by
    simp only [argFr] at h
    rw [Fr.get_cons] at h
    split at h
    · rename_i e; subst e; cases h; exact ⟨v, rfl, Nat.le_refl _, by simp⟩
    · obtain ⟨u, e1, e2, e3⟩ := argFr_get (n + 1) r t s h
      refine ⟨u, e1, by omega, ?_⟩
      rw [show t - n = (t - (n + 1)) + 1 by omega]; simpa using e3

/-- A function's contract, by its walk. -/
theorem fn_of {P : Program} {f nt : Nat} {fn : Func} {c : Code} {args : List Value} {R : Ending → RO → Hp → Prop} (T : Nat → TI) (hf : P.funcs[f]? = some fn) (hb : fn.body = some c)
    (hnm : (fn.name == "runtime.NumGoroutine") = false) (hnt : fn.ntmps = nt) (hal : args.length ≤ nt) (hT : TOk P T) (hM : P.follows .mixedOrders = true)
    (hk : ∀ C : Cx, Is C P nt fn.results.toList R T → Sx C [.code c] (argFr 0 args) [] h m) : Con P f args h m R := by
  refine ⟨⟨fn, hf, hnm, by simp [hb]⟩, ?_⟩
  intro w h1 h2 h3
  refine calls_of_wp hf hb ?_
  have := (hk ⟨P, fn, nt, w, h, m, R⟩ ⟨rfl, rfl, rfl, rfl, hT, hM⟩).run { tmps := args.toArray ++ Array.replicate (fn.ntmps - args.toArray.size) undef, defers := [] } w ?_
  · rw [WPx_code] at this
    refine wp_mono this ?_
    intro e a' w' hq
    cases e <;> simp only [KQ, WP, WX] at hq <;> first | exact hq | exact hq.elim
  · refine ⟨⟨rfl, rfl, rfl, Nat.le_refl _, fun _ _ _ => rfl, RO.le.refl h, h1, h2, h3, fun _ _ _ e => .inl e, fun _ _ e => .inl e, fun b x e => .inl (by show m b ≠ none; rw [e]; simp)⟩, ?_, rfl, id, ?_, ?_, ?_⟩
    · simp [hnt]; omega
    · intro t s e
      obtain ⟨v, rfl, _, e3⟩ := argFr_get 0 args t s e
      simp only [Nat.sub_zero] at e3
      have hlt : t < args.length := (List.getElem?_eq_some_iff.1 e3).1
      rw [Array.getD_eq_getD_getElem?, Array.getElem?_append_left (by simpa using hlt)]
      simp [e3, conc]
    · intro id s e; simp [BX.get] at e
    · intro i j s t b _ e; simp [BX.get] at e

end
end Go.SX
/-
  The types that the walk knows: made by a program (gent.py) out of the seat's translation; held against the program by the kernel.
-/
namespace Go.Proofs.YtoefoaabnjeofaaGreat
open Go.SX
def tab : TTree := (.node 179 ⟨true, [.int .i64, .int .i64], 16, .struct [(0, 3), (1, 3)]⟩
 (.node 63 ⟨true, [.int .u16], 2, .int .u16⟩
 (.node 25 ⟨true, [.slc, .slc, .slc], 72, .struct [(0, 22), (1, 23), (2, 24)]⟩
 (.node 13 ⟨true, [.str, .int .u64], 24, .struct [(0, 9), (1, 12)]⟩
 (.node 5 ⟨true, [.int .u8], 1, .int .u8⟩
 (.node 3 ⟨true, [.int .i64], 8, .int .i64⟩
 (.node 2 ⟨true, [.int .i64], 8, .int .i64⟩
 .leaf .leaf) (.node 4 ⟨true, [.bool], 1, .bool⟩
 .leaf .leaf)) (.node 9 ⟨true, [.str], 16, .str⟩
 (.node 7 ⟨true, [.int .i64, .int .i64, .bool, .int .u8], 24, .struct [(0, 2), (1, 3), (2, 4), (3, 6)]⟩
 .leaf .leaf) (.node 12 ⟨true, [.int .u64], 8, .int .u64⟩
 .leaf .leaf))) (.node 22 ⟨true, [.slc], 24, .slice 3⟩
 (.node 20 ⟨true, [.ifc], 16, .ifc⟩
 (.node 18 ⟨true, [.ptr], 8, .struct [(0, 17)]⟩
 .leaf .leaf) (.node 21 ⟨true, [.int .i32], 4, .int .i32⟩
 .leaf .leaf)) (.node 24 ⟨true, [.slc], 24, .slice 22⟩
 (.node 23 ⟨true, [.slc], 24, .slice 49⟩
 .leaf .leaf) .leaf))) (.node 35 ⟨true, [.int .i64], 8, .int .i64⟩
 (.node 31 ⟨true, [.slc, .slc], 48, .struct [(0, 22), (1, 29)]⟩
 (.node 29 ⟨true, [.slc], 24, .slice 158⟩
 (.node 26 ⟨true, [.slc, .slc, .slc], 72, .struct [(0, 22), (1, 23), (2, 24)]⟩
 .leaf .leaf) (.node 30 ⟨true, [.slc, .slc], 48, .struct [(0, 22), (1, 29)]⟩
 .leaf .leaf)) (.node 33 ⟨true, [.slc, .slc, .slc], 72, .struct [(0, 31), (2, 32)]⟩
 (.node 32 ⟨true, [.slc], 24, .slice 47⟩
 .leaf .leaf) (.node 34 ⟨true, [.slc, .slc, .slc], 72, .struct [(0, 31), (2, 32)]⟩
 .leaf .leaf))) (.node 48 ⟨true, [.int .i64, .slc], 32, .struct [(0, 3), (1, 22)]⟩
 (.node 46 ⟨true, [.int .i64, .int .i64], 16, .struct [(0, 3), (1, 3)]⟩
 (.node 38 ⟨true, [.slc], 24, .slice 72⟩
 .leaf .leaf) (.node 47 ⟨true, [.int .i64, .int .i64], 16, .struct [(0, 3), (1, 3)]⟩
 .leaf .leaf)) (.node 50 ⟨true, [.int .u64], 8, .int .u64⟩
 (.node 49 ⟨true, [.int .i64, .slc], 32, .struct [(0, 3), (1, 22)]⟩
 .leaf .leaf) .leaf)))) (.node 111 ⟨true, [.bool, .slc], 32, .struct [(0, 4), (1, 110)]⟩
 (.node 85 ⟨true, [.int .u8], 1, .int .u8⟩
 (.node 71 ⟨true, [.int .i64, .slc, .slc], 56, .struct [(0, 3), (1, 22), (2, 69)]⟩
 (.node 69 ⟨true, [.slc], 24, .slice 4⟩
 (.node 65 ⟨true, [.slc], 24, .slice 71⟩
 .leaf .leaf) (.node 70 ⟨true, [.int .i64, .slc, .slc], 56, .struct [(0, 3), (1, 22), (2, 69)]⟩
 .leaf .leaf)) (.node 77 ⟨true, [.slc, .slc, .int .i64, .int .i64], 64, .struct [(0, 31), (2, 3), (3, 3)]⟩
 (.node 72 ⟨true, [.int .i64, .slc], 32, .struct [(0, 3), (1, 22)]⟩
 .leaf .leaf) (.node 78 ⟨true, [.slc, .slc, .int .i64, .int .i64], 64, .struct [(0, 31), (2, 3), (3, 3)]⟩
 .leaf .leaf))) (.node 98 ⟨true, [.slc, .slc, .bool], 56, .struct [(0, 31), (2, 4)]⟩
 (.node 87 ⟨true, [.int .u8, .slc, .int .i64], 40, .struct [(0, 85), (1, 24), (2, 2)]⟩
 (.node 86 ⟨true, [.int .u8, .slc, .int .i64], 40, .struct [(0, 85), (1, 24), (2, 2)]⟩
 .leaf .leaf) (.node 93 ⟨true, [.ptr], 8, .ptr 99⟩
 .leaf .leaf)) (.node 110 ⟨true, [.slc], 24, .slice 263⟩
 (.node 99 ⟨true, [.slc, .slc, .bool], 56, .struct [(0, 31), (2, 4)]⟩
 .leaf .leaf) .leaf))) (.node 146 ⟨true, [.slc, .slc, .slc, .map, .slc], 104, .struct [(0, 26), (3, 145), (4, 38)]⟩
 (.node 134 ⟨true, [.int .u8, .slc, .int .i64], 40, .struct [(0, 85), (1, 22), (2, 2)]⟩
 (.node 113 ⟨true, [.int .u8, .slc, .slc, .bool, .slc, .int .i64], 96, .struct [(0, 85), (1, 22), (2, 22), (3, 112), (5, 2)]⟩
 (.node 112 ⟨true, [.bool, .slc], 32, .struct [(0, 4), (1, 110)]⟩
 .leaf .leaf) (.node 114 ⟨true, [.int .u8, .slc, .slc, .bool, .slc, .int .i64], 96, .struct [(0, 85), (1, 22), (2, 22), (3, 112), (5, 2)]⟩
 .leaf .leaf)) (.node 142 ⟨true, [.ptr], 8, .ptr 147⟩
 (.node 135 ⟨true, [.int .u8, .slc, .int .i64], 40, .struct [(0, 85), (1, 22), (2, 2)]⟩
 .leaf .leaf) (.node 145 ⟨true, [.map], 8, .map 237 3⟩
 .leaf .leaf))) (.node 158 ⟨true, [.int .i64, .int .i64], 16, .array 2 3⟩
 (.node 148 ⟨true, [.map], 8, .map 3 24⟩
 (.node 147 ⟨true, [.slc, .slc, .slc, .map, .slc], 104, .struct [(0, 26), (3, 145), (4, 38)]⟩
 .leaf .leaf) (.node 149 ⟨true, [.ptr], 8, .ptr 243⟩
 .leaf .leaf)) (.node 177 ⟨true, [.ptr], 8, .ptr 183⟩
 (.node 164 ⟨true, [.map], 8, .map 3 22⟩
 .leaf .leaf) .leaf))))) (.node 277 ⟨true, [.fn, .fn], 16, .struct [(0, 274), (1, 275)]⟩
 (.node 228 ⟨true, [.slc], 24, .slice 69⟩
 (.node 195 ⟨true, [.ptr], 8, .ptr 199⟩
 (.node 183 ⟨true, [.slc, .slc, .int .i64, .int .i64, .int .i64, .int .i64, .int .i64, .slc, .int .i64], 120, .struct [(0, 78), (4, 180), (6, 3), (7, 181), (8, 3)]⟩
 (.node 181 ⟨true, [.slc], 24, .slice 22⟩
 (.node 180 ⟨true, [.int .i64, .int .i64], 16, .struct [(0, 3), (1, 3)]⟩
 .leaf .leaf) (.node 182 ⟨true, [.slc, .slc, .int .i64, .int .i64, .int .i64, .int .i64, .int .i64, .slc, .int .i64], 120, .struct [(0, 78), (4, 180), (6, 3), (7, 181), (8, 3)]⟩
 .leaf .leaf)) (.node 192 ⟨true, [.int .u8, .slc, .slc, .bool, .slc, .int .i64], 96, .struct [(0, 114)]⟩
 (.node 191 ⟨true, [.map], 8, .map 3 4⟩
 .leaf .leaf) (.node 193 ⟨true, [.int .u8, .slc, .slc, .bool, .slc, .int .i64], 96, .struct [(0, 114)]⟩
 .leaf .leaf))) (.node 199 ⟨true, [.slc, .slc, .int .i64, .int .i64, .slc, .map, .map, .map, .slc, .slc, .int .i64, .map, .slc], 200, .struct [(0, 24), (1, 22), (2, 2), (3, 2), (4, 22), (5, 191), (6, 196), (7, 196), (8, 22), (9, 22), (10, 3), (11, 197), (12, 110)]⟩
 (.node 197 ⟨true, [.map], 8, .map 3 265⟩
 (.node 196 ⟨true, [.map], 8, .map 3 3⟩
 .leaf .leaf) (.node 198 ⟨true, [.slc, .slc, .int .i64, .int .i64, .slc, .map, .map, .map, .slc, .slc, .int .i64, .map, .slc], 200, .struct [(0, 24), (1, 22), (2, 2), (3, 2), (4, 22), (5, 191), (6, 196), (7, 196), (8, 22), (9, 22), (10, 3), (11, 197), (12, 110)]⟩
 .leaf .leaf)) (.node 214 ⟨true, [.slc, .slc, .slc, .bool, .int .i64], 88, .struct [(0, 31), (2, 22), (3, 4), (4, 2)]⟩
 (.node 213 ⟨true, [.slc, .slc, .slc, .bool, .int .i64], 88, .struct [(0, 31), (2, 22), (3, 4), (4, 2)]⟩
 .leaf .leaf) .leaf))) (.node 263 ⟨true, [.int .u8, .int .i64, .int .i64, .int .i64, .slc], 56, .struct [(0, 261), (1, 3), (2, 3), (3, 3), (4, 22)]⟩
 (.node 242 ⟨true, [.bool, .slc, .slc, .map, .map, .bool], 80, .struct [(0, 4), (1, 31), (3, 241), (4, 196), (5, 4)]⟩
 (.node 237 ⟨true, [.int .i64, .str], 24, .struct [(0, 3), (1, 9)]⟩
 (.node 236 ⟨true, [.int .i64, .str], 24, .struct [(0, 3), (1, 9)]⟩
 .leaf .leaf) (.node 241 ⟨true, [.map], 8, .map 158 3⟩
 .leaf .leaf)) (.node 261 ⟨true, [.int .u8], 1, .int .u8⟩
 (.node 243 ⟨true, [.bool, .slc, .slc, .map, .map, .bool], 80, .struct [(0, 4), (1, 31), (3, 241), (4, 196), (5, 4)]⟩
 .leaf .leaf) (.node 262 ⟨true, [.int .u8, .int .i64, .int .i64, .int .i64, .slc], 56, .struct [(0, 261), (1, 3), (2, 3), (3, 3), (4, 22)]⟩
 .leaf .leaf))) (.node 269 ⟨true, [.slc, .int .i64], 32, .struct [(0, 22), (1, 3)]⟩
 (.node 266 ⟨true, [.ptr], 8, .ptr 269⟩
 (.node 265 ⟨true, [.slc], 24, .slice 266⟩
 .leaf .leaf) (.node 268 ⟨true, [.slc, .int .i64], 32, .struct [(0, 22), (1, 3)]⟩
 .leaf .leaf)) (.node 276 ⟨true, [.fn, .fn], 16, .struct [(0, 274), (1, 275)]⟩
 (.node 273 ⟨true, [.ptr], 8, .ptr 322⟩
 .leaf .leaf) .leaf)))) (.node 336 ⟨true, [.map], 8, .map 292 335⟩
 (.node 296 ⟨true, [.map], 8, .map 9 4⟩
 (.node 284 ⟨true, [.ptr, .slc, .slc, .slc, .slc, .map, .map, .slc, .int .i64, .int .i64, .bool], 168, .struct [(0, 149), (1, 22), (2, 29), (3, 24), (4, 228), (5, 196), (6, 282), (7, 22), (8, 2), (9, 2), (10, 4)]⟩
 (.node 282 ⟨true, [.map], 8, .map 9 22⟩
 (.node 281 ⟨true, [.ptr], 8, .ptr 284⟩
 .leaf .leaf) (.node 283 ⟨true, [.ptr, .slc, .slc, .slc, .slc, .map, .map, .slc, .int .i64, .int .i64, .bool], 168, .struct [(0, 149), (1, 22), (2, 29), (3, 24), (4, 228), (5, 196), (6, 282), (7, 22), (8, 2), (9, 2), (10, 4)]⟩
 .leaf .leaf)) (.node 293 ⟨true, [.int .i64, .int .u8, .slc], 40, .struct [(0, 3), (1, 292), (2, 22)]⟩
 (.node 292 ⟨true, [.int .u8], 1, .int .u8⟩
 .leaf .leaf) (.node 294 ⟨true, [.int .i64, .int .u8, .slc], 40, .struct [(0, 3), (1, 292), (2, 22)]⟩
 .leaf .leaf))) (.node 321 ⟨true, [.ptr, .map, .int .i64], 24, .struct [(0, 149), (1, 316), (2, 35)]⟩
 (.node 308 ⟨true, [.ptr], 8, .ptr 181⟩
 (.node 299 ⟨true, [.slc], 24, .slice 5⟩
 .leaf .leaf) (.node 316 ⟨true, [.map], 8, .map 3 5⟩
 .leaf .leaf)) (.node 333 ⟨true, [.slc], 24, .slice 22⟩
 (.node 322 ⟨true, [.ptr, .map, .int .i64], 24, .struct [(0, 149), (1, 316), (2, 35)]⟩
 .leaf .leaf) .leaf))) (.node 373 ⟨true, [.ptr], 8, .ptr 3⟩
 (.node 353 ⟨true, [.int .u64], 8, .int .u64⟩
 (.node 344 ⟨true, [.int .i64], 8, .int .i64⟩
 (.node 339 ⟨true, [.ptr], 8, .ptr 333⟩
 .leaf .leaf) (.node 351 ⟨true, [.int .u32], 4, .int .u32⟩
 .leaf .leaf)) (.node 367 ⟨true, [.int .i64, .int .i64, .int .i64, .int .i64, .int .i64, .int .i64], 48, .array 2 366⟩
 (.node 366 ⟨true, [.int .i64, .int .i64, .int .i64], 24, .array 3 3⟩
 .leaf .leaf) (.node 369 ⟨true, [.int .u64], 8, .int .u64⟩
 .leaf .leaf))) (.node 387 ⟨true, [], 0, .struct [(0, 386)]⟩
 (.node 384 ⟨true, [.ptr, .ptr, .ptr, .str], 40, .struct [(0, 17), (1, 17), (2, 17), (3, 9)]⟩
 (.node 379 ⟨true, [.ptr], 8, .ptr 369⟩
 .leaf .leaf) (.node 386 ⟨true, [], 0, .array 0 16⟩
 .leaf .leaf)) (.node 395 ⟨true, [.int .u64, .int .u64, .int .u32, .int .u8, .int .u8, .int .u8, .int .u8, .fn, .ptr, .int .i32, .int .i32], 48, .struct [(0, 12), (1, 12), (2, 351), (3, 389), (4, 5), (5, 5), (6, 390), (7, 391), (8, 392), (9, 393), (10, 394)]⟩
 (.node 392 ⟨true, [.ptr], 8, .ptr 5⟩
 .leaf .leaf) .leaf))))))
def T : Nat → TI := tab.get
theorem T_ok : TOk Tryz.prog T := TTree.ok (by kernel_rfl)
theorem T_mixed : Tryz.prog.follows .mixedOrders = true := by kernel_rfl
theorem T_2 : T 2 = ⟨true, [.int .i64], 8, .int .i64⟩ := by kernel_rfl
theorem T_3 : T 3 = ⟨true, [.int .i64], 8, .int .i64⟩ := by kernel_rfl
theorem T_4 : T 4 = ⟨true, [.bool], 1, .bool⟩ := by kernel_rfl
theorem T_5 : T 5 = ⟨true, [.int .u8], 1, .int .u8⟩ := by kernel_rfl
theorem T_7 : T 7 = ⟨true, [.int .i64, .int .i64, .bool, .int .u8], 24, .struct [(0, 2), (1, 3), (2, 4), (3, 6)]⟩ := by kernel_rfl
theorem T_9 : T 9 = ⟨true, [.str], 16, .str⟩ := by kernel_rfl
theorem T_12 : T 12 = ⟨true, [.int .u64], 8, .int .u64⟩ := by kernel_rfl
theorem T_13 : T 13 = ⟨true, [.str, .int .u64], 24, .struct [(0, 9), (1, 12)]⟩ := by kernel_rfl
theorem T_18 : T 18 = ⟨true, [.ptr], 8, .struct [(0, 17)]⟩ := by kernel_rfl
theorem T_20 : T 20 = ⟨true, [.ifc], 16, .ifc⟩ := by kernel_rfl
theorem T_21 : T 21 = ⟨true, [.int .i32], 4, .int .i32⟩ := by kernel_rfl
theorem T_22 : T 22 = ⟨true, [.slc], 24, .slice 3⟩ := by kernel_rfl
theorem T_23 : T 23 = ⟨true, [.slc], 24, .slice 49⟩ := by kernel_rfl
theorem T_24 : T 24 = ⟨true, [.slc], 24, .slice 22⟩ := by kernel_rfl
theorem T_25 : T 25 = ⟨true, [.slc, .slc, .slc], 72, .struct [(0, 22), (1, 23), (2, 24)]⟩ := by kernel_rfl
theorem T_26 : T 26 = ⟨true, [.slc, .slc, .slc], 72, .struct [(0, 22), (1, 23), (2, 24)]⟩ := by kernel_rfl
theorem T_29 : T 29 = ⟨true, [.slc], 24, .slice 158⟩ := by kernel_rfl
theorem T_30 : T 30 = ⟨true, [.slc, .slc], 48, .struct [(0, 22), (1, 29)]⟩ := by kernel_rfl
theorem T_31 : T 31 = ⟨true, [.slc, .slc], 48, .struct [(0, 22), (1, 29)]⟩ := by kernel_rfl
theorem T_32 : T 32 = ⟨true, [.slc], 24, .slice 47⟩ := by kernel_rfl
theorem T_33 : T 33 = ⟨true, [.slc, .slc, .slc], 72, .struct [(0, 31), (2, 32)]⟩ := by kernel_rfl
theorem T_34 : T 34 = ⟨true, [.slc, .slc, .slc], 72, .struct [(0, 31), (2, 32)]⟩ := by kernel_rfl
theorem T_35 : T 35 = ⟨true, [.int .i64], 8, .int .i64⟩ := by kernel_rfl
theorem T_38 : T 38 = ⟨true, [.slc], 24, .slice 72⟩ := by kernel_rfl
theorem T_46 : T 46 = ⟨true, [.int .i64, .int .i64], 16, .struct [(0, 3), (1, 3)]⟩ := by kernel_rfl
theorem T_47 : T 47 = ⟨true, [.int .i64, .int .i64], 16, .struct [(0, 3), (1, 3)]⟩ := by kernel_rfl
theorem T_48 : T 48 = ⟨true, [.int .i64, .slc], 32, .struct [(0, 3), (1, 22)]⟩ := by kernel_rfl
theorem T_49 : T 49 = ⟨true, [.int .i64, .slc], 32, .struct [(0, 3), (1, 22)]⟩ := by kernel_rfl
theorem T_50 : T 50 = ⟨true, [.int .u64], 8, .int .u64⟩ := by kernel_rfl
theorem T_63 : T 63 = ⟨true, [.int .u16], 2, .int .u16⟩ := by kernel_rfl
theorem T_65 : T 65 = ⟨true, [.slc], 24, .slice 71⟩ := by kernel_rfl
theorem T_69 : T 69 = ⟨true, [.slc], 24, .slice 4⟩ := by kernel_rfl
theorem T_70 : T 70 = ⟨true, [.int .i64, .slc, .slc], 56, .struct [(0, 3), (1, 22), (2, 69)]⟩ := by kernel_rfl
theorem T_71 : T 71 = ⟨true, [.int .i64, .slc, .slc], 56, .struct [(0, 3), (1, 22), (2, 69)]⟩ := by kernel_rfl
theorem T_72 : T 72 = ⟨true, [.int .i64, .slc], 32, .struct [(0, 3), (1, 22)]⟩ := by kernel_rfl
theorem T_77 : T 77 = ⟨true, [.slc, .slc, .int .i64, .int .i64], 64, .struct [(0, 31), (2, 3), (3, 3)]⟩ := by kernel_rfl
theorem T_78 : T 78 = ⟨true, [.slc, .slc, .int .i64, .int .i64], 64, .struct [(0, 31), (2, 3), (3, 3)]⟩ := by kernel_rfl
theorem T_85 : T 85 = ⟨true, [.int .u8], 1, .int .u8⟩ := by kernel_rfl
theorem T_86 : T 86 = ⟨true, [.int .u8, .slc, .int .i64], 40, .struct [(0, 85), (1, 24), (2, 2)]⟩ := by kernel_rfl
theorem T_87 : T 87 = ⟨true, [.int .u8, .slc, .int .i64], 40, .struct [(0, 85), (1, 24), (2, 2)]⟩ := by kernel_rfl
theorem T_93 : T 93 = ⟨true, [.ptr], 8, .ptr 99⟩ := by kernel_rfl
theorem T_98 : T 98 = ⟨true, [.slc, .slc, .bool], 56, .struct [(0, 31), (2, 4)]⟩ := by kernel_rfl
theorem T_99 : T 99 = ⟨true, [.slc, .slc, .bool], 56, .struct [(0, 31), (2, 4)]⟩ := by kernel_rfl
theorem T_110 : T 110 = ⟨true, [.slc], 24, .slice 263⟩ := by kernel_rfl
theorem T_111 : T 111 = ⟨true, [.bool, .slc], 32, .struct [(0, 4), (1, 110)]⟩ := by kernel_rfl
theorem T_112 : T 112 = ⟨true, [.bool, .slc], 32, .struct [(0, 4), (1, 110)]⟩ := by kernel_rfl
theorem T_113 : T 113 = ⟨true, [.int .u8, .slc, .slc, .bool, .slc, .int .i64], 96, .struct [(0, 85), (1, 22), (2, 22), (3, 112), (5, 2)]⟩ := by kernel_rfl
theorem T_114 : T 114 = ⟨true, [.int .u8, .slc, .slc, .bool, .slc, .int .i64], 96, .struct [(0, 85), (1, 22), (2, 22), (3, 112), (5, 2)]⟩ := by kernel_rfl
theorem T_134 : T 134 = ⟨true, [.int .u8, .slc, .int .i64], 40, .struct [(0, 85), (1, 22), (2, 2)]⟩ := by kernel_rfl
theorem T_135 : T 135 = ⟨true, [.int .u8, .slc, .int .i64], 40, .struct [(0, 85), (1, 22), (2, 2)]⟩ := by kernel_rfl
theorem T_142 : T 142 = ⟨true, [.ptr], 8, .ptr 147⟩ := by kernel_rfl
theorem T_145 : T 145 = ⟨true, [.map], 8, .map 237 3⟩ := by kernel_rfl
theorem T_146 : T 146 = ⟨true, [.slc, .slc, .slc, .map, .slc], 104, .struct [(0, 26), (3, 145), (4, 38)]⟩ := by kernel_rfl
theorem T_147 : T 147 = ⟨true, [.slc, .slc, .slc, .map, .slc], 104, .struct [(0, 26), (3, 145), (4, 38)]⟩ := by kernel_rfl
theorem T_148 : T 148 = ⟨true, [.map], 8, .map 3 24⟩ := by kernel_rfl
theorem T_149 : T 149 = ⟨true, [.ptr], 8, .ptr 243⟩ := by kernel_rfl
theorem T_158 : T 158 = ⟨true, [.int .i64, .int .i64], 16, .array 2 3⟩ := by kernel_rfl
theorem T_164 : T 164 = ⟨true, [.map], 8, .map 3 22⟩ := by kernel_rfl
theorem T_177 : T 177 = ⟨true, [.ptr], 8, .ptr 183⟩ := by kernel_rfl
theorem T_179 : T 179 = ⟨true, [.int .i64, .int .i64], 16, .struct [(0, 3), (1, 3)]⟩ := by kernel_rfl
theorem T_180 : T 180 = ⟨true, [.int .i64, .int .i64], 16, .struct [(0, 3), (1, 3)]⟩ := by kernel_rfl
theorem T_181 : T 181 = ⟨true, [.slc], 24, .slice 22⟩ := by kernel_rfl
theorem T_182 : T 182 = ⟨true, [.slc, .slc, .int .i64, .int .i64, .int .i64, .int .i64, .int .i64, .slc, .int .i64], 120, .struct [(0, 78), (4, 180), (6, 3), (7, 181), (8, 3)]⟩ := by kernel_rfl
theorem T_183 : T 183 = ⟨true, [.slc, .slc, .int .i64, .int .i64, .int .i64, .int .i64, .int .i64, .slc, .int .i64], 120, .struct [(0, 78), (4, 180), (6, 3), (7, 181), (8, 3)]⟩ := by kernel_rfl
theorem T_191 : T 191 = ⟨true, [.map], 8, .map 3 4⟩ := by kernel_rfl
theorem T_192 : T 192 = ⟨true, [.int .u8, .slc, .slc, .bool, .slc, .int .i64], 96, .struct [(0, 114)]⟩ := by kernel_rfl
theorem T_193 : T 193 = ⟨true, [.int .u8, .slc, .slc, .bool, .slc, .int .i64], 96, .struct [(0, 114)]⟩ := by kernel_rfl
theorem T_195 : T 195 = ⟨true, [.ptr], 8, .ptr 199⟩ := by kernel_rfl
theorem T_196 : T 196 = ⟨true, [.map], 8, .map 3 3⟩ := by kernel_rfl
theorem T_197 : T 197 = ⟨true, [.map], 8, .map 3 265⟩ := by kernel_rfl
theorem T_198 : T 198 = ⟨true, [.slc, .slc, .int .i64, .int .i64, .slc, .map, .map, .map, .slc, .slc, .int .i64, .map, .slc], 200, .struct [(0, 24), (1, 22), (2, 2), (3, 2), (4, 22), (5, 191), (6, 196), (7, 196), (8, 22), (9, 22), (10, 3), (11, 197), (12, 110)]⟩ := by kernel_rfl
theorem T_199 : T 199 = ⟨true, [.slc, .slc, .int .i64, .int .i64, .slc, .map, .map, .map, .slc, .slc, .int .i64, .map, .slc], 200, .struct [(0, 24), (1, 22), (2, 2), (3, 2), (4, 22), (5, 191), (6, 196), (7, 196), (8, 22), (9, 22), (10, 3), (11, 197), (12, 110)]⟩ := by kernel_rfl
theorem T_213 : T 213 = ⟨true, [.slc, .slc, .slc, .bool, .int .i64], 88, .struct [(0, 31), (2, 22), (3, 4), (4, 2)]⟩ := by kernel_rfl
theorem T_214 : T 214 = ⟨true, [.slc, .slc, .slc, .bool, .int .i64], 88, .struct [(0, 31), (2, 22), (3, 4), (4, 2)]⟩ := by kernel_rfl
theorem T_228 : T 228 = ⟨true, [.slc], 24, .slice 69⟩ := by kernel_rfl
theorem T_236 : T 236 = ⟨true, [.int .i64, .str], 24, .struct [(0, 3), (1, 9)]⟩ := by kernel_rfl
theorem T_237 : T 237 = ⟨true, [.int .i64, .str], 24, .struct [(0, 3), (1, 9)]⟩ := by kernel_rfl
theorem T_241 : T 241 = ⟨true, [.map], 8, .map 158 3⟩ := by kernel_rfl
theorem T_242 : T 242 = ⟨true, [.bool, .slc, .slc, .map, .map, .bool], 80, .struct [(0, 4), (1, 31), (3, 241), (4, 196), (5, 4)]⟩ := by kernel_rfl
theorem T_243 : T 243 = ⟨true, [.bool, .slc, .slc, .map, .map, .bool], 80, .struct [(0, 4), (1, 31), (3, 241), (4, 196), (5, 4)]⟩ := by kernel_rfl
theorem T_261 : T 261 = ⟨true, [.int .u8], 1, .int .u8⟩ := by kernel_rfl
theorem T_262 : T 262 = ⟨true, [.int .u8, .int .i64, .int .i64, .int .i64, .slc], 56, .struct [(0, 261), (1, 3), (2, 3), (3, 3), (4, 22)]⟩ := by kernel_rfl
theorem T_263 : T 263 = ⟨true, [.int .u8, .int .i64, .int .i64, .int .i64, .slc], 56, .struct [(0, 261), (1, 3), (2, 3), (3, 3), (4, 22)]⟩ := by kernel_rfl
theorem T_265 : T 265 = ⟨true, [.slc], 24, .slice 266⟩ := by kernel_rfl
theorem T_266 : T 266 = ⟨true, [.ptr], 8, .ptr 269⟩ := by kernel_rfl
theorem T_268 : T 268 = ⟨true, [.slc, .int .i64], 32, .struct [(0, 22), (1, 3)]⟩ := by kernel_rfl
theorem T_269 : T 269 = ⟨true, [.slc, .int .i64], 32, .struct [(0, 22), (1, 3)]⟩ := by kernel_rfl
theorem T_273 : T 273 = ⟨true, [.ptr], 8, .ptr 322⟩ := by kernel_rfl
theorem T_276 : T 276 = ⟨true, [.fn, .fn], 16, .struct [(0, 274), (1, 275)]⟩ := by kernel_rfl
theorem T_277 : T 277 = ⟨true, [.fn, .fn], 16, .struct [(0, 274), (1, 275)]⟩ := by kernel_rfl
theorem T_281 : T 281 = ⟨true, [.ptr], 8, .ptr 284⟩ := by kernel_rfl
theorem T_282 : T 282 = ⟨true, [.map], 8, .map 9 22⟩ := by kernel_rfl
theorem T_283 : T 283 = ⟨true, [.ptr, .slc, .slc, .slc, .slc, .map, .map, .slc, .int .i64, .int .i64, .bool], 168, .struct [(0, 149), (1, 22), (2, 29), (3, 24), (4, 228), (5, 196), (6, 282), (7, 22), (8, 2), (9, 2), (10, 4)]⟩ := by kernel_rfl
theorem T_284 : T 284 = ⟨true, [.ptr, .slc, .slc, .slc, .slc, .map, .map, .slc, .int .i64, .int .i64, .bool], 168, .struct [(0, 149), (1, 22), (2, 29), (3, 24), (4, 228), (5, 196), (6, 282), (7, 22), (8, 2), (9, 2), (10, 4)]⟩ := by kernel_rfl
theorem T_292 : T 292 = ⟨true, [.int .u8], 1, .int .u8⟩ := by kernel_rfl
theorem T_293 : T 293 = ⟨true, [.int .i64, .int .u8, .slc], 40, .struct [(0, 3), (1, 292), (2, 22)]⟩ := by kernel_rfl
theorem T_294 : T 294 = ⟨true, [.int .i64, .int .u8, .slc], 40, .struct [(0, 3), (1, 292), (2, 22)]⟩ := by kernel_rfl
theorem T_296 : T 296 = ⟨true, [.map], 8, .map 9 4⟩ := by kernel_rfl
theorem T_299 : T 299 = ⟨true, [.slc], 24, .slice 5⟩ := by kernel_rfl
theorem T_308 : T 308 = ⟨true, [.ptr], 8, .ptr 181⟩ := by kernel_rfl
theorem T_316 : T 316 = ⟨true, [.map], 8, .map 3 5⟩ := by kernel_rfl
theorem T_321 : T 321 = ⟨true, [.ptr, .map, .int .i64], 24, .struct [(0, 149), (1, 316), (2, 35)]⟩ := by kernel_rfl
theorem T_322 : T 322 = ⟨true, [.ptr, .map, .int .i64], 24, .struct [(0, 149), (1, 316), (2, 35)]⟩ := by kernel_rfl
theorem T_333 : T 333 = ⟨true, [.slc], 24, .slice 22⟩ := by kernel_rfl
theorem T_336 : T 336 = ⟨true, [.map], 8, .map 292 335⟩ := by kernel_rfl
theorem T_339 : T 339 = ⟨true, [.ptr], 8, .ptr 333⟩ := by kernel_rfl
theorem T_344 : T 344 = ⟨true, [.int .i64], 8, .int .i64⟩ := by kernel_rfl
theorem T_351 : T 351 = ⟨true, [.int .u32], 4, .int .u32⟩ := by kernel_rfl
theorem T_353 : T 353 = ⟨true, [.int .u64], 8, .int .u64⟩ := by kernel_rfl
theorem T_366 : T 366 = ⟨true, [.int .i64, .int .i64, .int .i64], 24, .array 3 3⟩ := by kernel_rfl
theorem T_367 : T 367 = ⟨true, [.int .i64, .int .i64, .int .i64, .int .i64, .int .i64, .int .i64], 48, .array 2 366⟩ := by kernel_rfl
theorem T_369 : T 369 = ⟨true, [.int .u64], 8, .int .u64⟩ := by kernel_rfl
theorem T_373 : T 373 = ⟨true, [.ptr], 8, .ptr 3⟩ := by kernel_rfl
theorem T_379 : T 379 = ⟨true, [.ptr], 8, .ptr 369⟩ := by kernel_rfl
theorem T_384 : T 384 = ⟨true, [.ptr, .ptr, .ptr, .str], 40, .struct [(0, 17), (1, 17), (2, 17), (3, 9)]⟩ := by kernel_rfl
theorem T_386 : T 386 = ⟨true, [], 0, .array 0 16⟩ := by kernel_rfl
theorem T_387 : T 387 = ⟨true, [], 0, .struct [(0, 386)]⟩ := by kernel_rfl
theorem T_392 : T 392 = ⟨true, [.ptr], 8, .ptr 5⟩ := by kernel_rfl
theorem T_395 : T 395 = ⟨true, [.int .u64, .int .u64, .int .u32, .int .u8, .int .u8, .int .u8, .int .u8, .fn, .ptr, .int .i32, .int .i32], 48, .struct [(0, 12), (1, 12), (2, 351), (3, 389), (4, 5), (5, 5), (6, 390), (7, 391), (8, 392), (9, 393), (10, 394)]⟩ := by kernel_rfl
end Go.Proofs.YtoefoaabnjeofaaGreat
/-
  SX, part P: ints and lists of ints as the program has them.
-/
namespace Go.SX

theorem w64 {x : Int} (h0 : -9223372036854775808 ≤ x) (h1 : x < 9223372036854775808) : IntKind.i64.wrap x = x := by
  rw [IntKind.wrap_i64]; omega
def R64 (x : Int) : Prop := -9223372036854775808 ≤ x ∧ x < 9223372036854775808
theorem w64r (x : Int) : R64 (IntKind.i64.wrap x) := by rw [IntKind.wrap_i64]; unfold R64; omega
theorem w64i {i : Nat} (h : i ≤ 17592186044416) : IntKind.i64.wrap ((i : Int) + 1) = ((i + 1 : Nat) : Int) := by
  rw [w64 (by omega) (by omega)]; rfl

theorem d1 {X Y : Prop} (h : X) : (true = true → X) ∧ (true = false → Y) := ⟨fun _ => h, fun e => (nomatch e)⟩
theorem d2 {X Y : Prop} (h : Y) : (false = true → X) ∧ (false = false → Y) := ⟨fun e => (nomatch e), fun _ => h⟩
theorem d3 {X Y : Prop} (h : Y) : (true = false → X) ∧ (true = true → Y) := ⟨fun e => (nomatch e), fun _ => h⟩
theorem d4 {X Y : Prop} (h : X) : (false = false → X) ∧ (false = true → Y) := ⟨fun _ => h, fun e => (nomatch e)⟩
theorem stepI {i : Nat} (h : i ≤ 17592186044416) : Value.int .i64 ((i + 1 : Nat) : Int) = .int .i64 (IntKind.i64.wrap ((i : Int) + 1)) := by rw [w64i h]
theorem predI {i : Nat} (h : i ≤ 17592186044416) (h0 : 0 < i) : IntKind.i64.wrap ((i : Int) - 1) = ((i - 1 : Nat) : Int) := by rw [w64 (by omega) (by omega)]; omega
theorem allS {i : Nat} {p : Nat → Bool} (h : ∀ j, j < i → p j = true) (hi : p i = true) : ∀ j, j < i + 1 → p j = true := fun j hj => by
  by_cases e : j = i
  · subst e; exact hi
  · exact h j (by omega)

def ints (l : List Int) : List Value := l.map (.int .i64)
theorem ints_length (l : List Int) : (ints l).length = l.length := by simp [ints]
theorem ints_one (l : List Int) : ∀ u ∈ ints l, u.oneCell' = true := by
  intro u hu; simp only [ints, List.mem_map] at hu; obtain ⟨x, _, rfl⟩ := hu; rfl
/-- The i-th. -/
def g (l : List Int) (i : Nat) : Int := l.getD i 0
theorem g_get {l : List Int} {i : Nat} (h : i < l.length) : l[i]? = some (g l i) := by simp [g, h]
theorem g_mem {l : List Int} {i : Nat} (h : i < l.length) : g l i ∈ l := List.mem_of_getElem? (g_get h)

theorem g_ext {a b : List Int} (h : a.length = b.length) (hg : ∀ i, i < a.length → g a i = g b i) : a = b := by
  refine List.ext_getElem h fun i h1 h2 => ?_
  have := hg i h1
  simpa [g, h1, h2] using this

/-- What may be changed behind a call may be told shorter. -/
theorem Con.drop {P : Program} {f : Nat} {args : List Value} {h : RO} {m : Hp} {R : Ending → RO → Hp → Prop} (k : Con P f args h m fun e h' m' => ∃ m'', Hp.sub m'' m' ∧ R e h' m'') : Con P f args h m R := by
  refine ⟨k.1, fun w a b c => (k.2 w a b c).mono ?_⟩
  rintro e w' ⟨h', m', s, m'', hs, r⟩
  have key : ∀ x, m' x = none → m'' x = none := fun x hx => by
    cases q : m'' x with
    | none => rfl
    | some o => rw [hs x o q] at hx; cases hx
  exact ⟨h', m'', ⟨s.os, s.tape, s.output, s.size, s.same, s.le, s.hon, fun x o e => s.mon x o (hs x o e),
    ⟨fun x i v e => key x (s.disj.c x i v e), fun x v e => key x (s.disj.o x v e)⟩, s.hnew, s.onew, fun x o e => s.mnew x o (hs x o e)⟩, r⟩

/-- A row that might be changed becomes readable. -/
theorem sx_pubM {C : Cx} {k : List It} {ρ : Fr} {bx : BX} {h : RO} {m : Hp} {b : Nat} {cs : Array Value} {ty : Nat} {f : Nat × Nat} (hg : m b = some (.cells cs ty f))
    (hk : ∀ h', h.le h' → (∀ i v, cs[i]? = some v → h'.c b i = some v) → Sx C k ρ bx h' (m.unset b)) : Sx C k ρ bx h m := .mk fun a w s => by
  obtain ⟨β, M, F⟩ := s.parts
  obtain ⟨h', hle, hc, M'⟩ := M.pubM hg
  exact WPx_mono hle ((hk h' hle hc).run a w (Sat.of_parts s.size s.defers M' F.f))

/-- A slice of ints. -/
structure IntS (h : RO) (v : Value) (l : List Int) : Prop where
  s : ∃ a c, v = .slice a l.length c ∧ Row h 1 (.slice a l.length c) (ints l)
  len : l.length ≤ 17592186044416
  rng : ∀ x ∈ l, R64 x
theorem Row.mono' {h h' : RO} {sz : Nat} {v : Value} {cs : List Value} (r : Row h sz v cs) (hl : h.le h') : Row h' sz v cs := Row.mono hl r
theorem IntS.mono {h h' : RO} {v : Value} {l : List Int} (r : IntS h v l) (hl : h.le h') : IntS h' v l :=
  ⟨let ⟨a, c, e, q⟩ := r.s; ⟨a, c, e, q.mono' hl⟩, r.len, r.rng⟩
theorem Row.cells {h : RO} {sz n c : Nat} {a : Option Addr} {cs : List Value} (r : Row h sz (.slice a n c) cs) (h0 : 0 < n) :
    ∃ b off, a = some ⟨b, off, none⟩ ∧ ∀ i u, cs[i]? = some u → h.c b (off + i) = some u := by
  obtain ⟨a', n', c', e, h1, h2, h3⟩ := r
  cases e
  rcases h3 with ⟨h3, _⟩ | h3
  · omega
  · exact h3
/-- Its cells. -/
theorem IntS.get {h : RO} {a : Option Addr} {n c : Nat} {l : List Int} (r : IntS h (.slice a n c) l) {i : Nat} (hi : i < l.length) :
    ∃ b off, a = some ⟨b, off, none⟩ ∧ ∀ j, j < l.length → h.c b (off + j) = some (.int .i64 (g l j)) := by
  obtain ⟨⟨a', c', e, q⟩, _, _⟩ := r
  cases e
  obtain ⟨b, off, e2, hc⟩ := q.cells (by omega)
  exact ⟨b, off, e2, fun j hj => hc j _ (by simp [ints, g_get hj])⟩
theorem IntS.n {h : RO} {a : Option Addr} {n c : Nat} {l : List Int} (r : IntS h (.slice a n c) l) : n = l.length := by
  obtain ⟨⟨a', c', e, q⟩, _, _⟩ := r; cases e; rfl
theorem IntS.sl {h : RO} {v : Value} {l : List Int} (r : IntS h v l) : ∃ a c, v = .slice a l.length c ∧ Row h 1 (.slice a l.length c) (ints l) := r.s

theorem IntS.nil (h : RO) : IntS h (.slice none 0 0) [] := ⟨⟨none, 0, rfl, ⟨none, 0, 0, rfl, rfl, Nat.le_refl _, .inl ⟨rfl, rfl⟩⟩⟩, by simp, by simp⟩

/-- All up to n. -/
def allN (n : Nat) (p : Nat → Bool) : Bool := (List.range n).all p
theorem allN_true {n : Nat} {p : Nat → Bool} (h : ∀ i, i < n → p i = true) : allN n p = true := by simp [allN]; exact h
theorem allN_false {n i : Nat} {p : Nat → Bool} (hi : i < n) (h : p i = false) : allN n p = false := by
  simp only [allN, List.all_eq_false, List.mem_range]; exact ⟨i, hi, by simp [h]⟩
theorem allN_iff {n : Nat} {p : Nat → Bool} : allN n p = true ↔ ∀ i, i < n → p i = true := by simp [allN]

def abs64 (x : Int) : Int := if x < 0 then IntKind.i64.wrap (0 - x) else x
theorem abs64_r {x : Int} (h : R64 x) : R64 (abs64 x) := by unfold abs64; split; exact w64r _; exact h

/-! ### lists of lists, and of structs with an int and a list -/

def gl (l : List (List Int)) (i : Nat) : List Int := l.getD i []
theorem gl_get {l : List (List Int)} {i : Nat} (h : i < l.length) : l[i]? = some (gl l i) := by simp [gl, h]

/-- A slice of slices of ints. -/
structure LLS (h : RO) (v : Value) (ls : List (List Int)) : Prop where
  s : ∃ (a : Option Addr) (c : Nat) (vs : List Value), v = .slice a ls.length c ∧ Row h 1 (.slice a ls.length c) vs ∧ ∀ (i : Nat) (l : List Int), ls[i]? = some l → ∃ u, vs[i]? = some u ∧ IntS h u l
  len : ls.length ≤ 17592186044416
theorem LLS.mono {h h' : RO} {v : Value} {ls : List (List Int)} (r : LLS h v ls) (hl : h.le h') : LLS h' v ls :=
  ⟨let ⟨a, c, vs, e, q, k⟩ := r.s; ⟨a, c, vs, e, q.mono' hl, fun i l hi => let ⟨u, e, k⟩ := k i l hi; ⟨u, e, k.mono hl⟩⟩, r.len⟩
theorem LLS.sl {h : RO} {v : Value} {ls : List (List Int)} (r : LLS h v ls) : ∃ a c, v = .slice a ls.length c := let ⟨a, c, _, e, _⟩ := r.s; ⟨a, c, e⟩
theorem LLS.get {h : RO} {a : Option Addr} {n c : Nat} {ls : List (List Int)} (r : LLS h (.slice a n c) ls) {i : Nat} (hi : i < ls.length) :
    ∃ b off, a = some ⟨b, off, none⟩ ∧ ∀ j, j < ls.length → ∃ a' c', h.c b (off + j) = some (.slice a' (gl ls j).length c') ∧ IntS h (.slice a' (gl ls j).length c') (gl ls j) := by
  obtain ⟨⟨a', c', vs, e, q, k⟩, _⟩ := r
  cases e
  obtain ⟨b, off, e2, hc⟩ := q.cells (by omega)
  refine ⟨b, off, e2, fun j hj => ?_⟩
  obtain ⟨u, hu, hi⟩ := k j _ (gl_get hj)
  obtain ⟨a2, c2, rfl, _⟩ := hi.s
  exact ⟨a2, c2, hc j _ hu, hi⟩

/-- How many ints there are in all. -/
def tot (ls : List (List Int)) : Nat := (ls.map List.length).sum
theorem tot_take {ls : List (List Int)} {i : Nat} (h : i < ls.length) : tot (ls.take (i + 1)) = tot (ls.take i) + (gl ls i).length := by
  rw [List.take_add_one, gl_get h]; simp [tot]
theorem tot_le (ls : List (List Int)) (i : Nat) : tot (ls.take i) ≤ tot ls := by
  have : tot ls = tot (ls.take i) + tot (ls.drop i) := by
    rw [tot, tot, tot, ← List.sum_append, ← List.map_append, List.take_append_drop]
  omega
def gd (l : List (Int × List Int)) (i : Nat) : Int × List Int := l.getD i (0, [])
theorem gd_get {l : List (Int × List Int)} {i : Nat} (h : i < l.length) : l[i]? = some (gd l i) := by simp [gd, h]

/-- A slice of structs: an int, a slice of ints. -/
structure DepS (h : RO) (v : Value) (ds : List (Int × List Int)) : Prop where
  s : ∃ (a : Option Addr) (c : Nat) (vs : List Value), v = .slice a ds.length c ∧ Row h 2 (.slice a ds.length c) vs ∧ ∀ (i : Nat) (d : Int × List Int), ds[i]? = some d → vs[i * 2]? = some (.int .i64 d.1) ∧ ∃ u, vs[i * 2 + 1]? = some u ∧ IntS h u d.2
  len : ds.length ≤ 17592186044416
  rng : ∀ d ∈ ds, R64 d.1
theorem DepS.mono {h h' : RO} {v : Value} {ds : List (Int × List Int)} (r : DepS h v ds) (hl : h.le h') : DepS h' v ds :=
  ⟨let ⟨a, c, vs, e, q, k⟩ := r.s; ⟨a, c, vs, e, q.mono' hl, fun i d hi => let ⟨x, u, e, k⟩ := k i d hi; ⟨x, u, e, k.mono hl⟩⟩, r.len, r.rng⟩
theorem DepS.sl {h : RO} {v : Value} {ds : List (Int × List Int)} (r : DepS h v ds) : ∃ a c, v = .slice a ds.length c := let ⟨a, c, _, e, _⟩ := r.s; ⟨a, c, e⟩
theorem DepS.get {h : RO} {a : Option Addr} {n c : Nat} {ds : List (Int × List Int)} (r : DepS h (.slice a n c) ds) {i : Nat} (hi : i < ds.length) :
    ∃ b off, a = some ⟨b, off, none⟩ ∧ ∀ j, j < ds.length → h.c b (off + j * 2) = some (.int .i64 (gd ds j).1) ∧
      ∃ a' c', h.c b (off + j * 2 + 1) = some (.slice a' (gd ds j).2.length c') ∧ IntS h (.slice a' (gd ds j).2.length c') (gd ds j).2 := by
  obtain ⟨⟨a', c', vs, e, q, k⟩, _, _⟩ := r
  cases e
  obtain ⟨b, off, e2, hc⟩ := q.cells (by omega)
  refine ⟨b, off, e2, fun j hj => ?_⟩
  obtain ⟨hx, u, hu, hi⟩ := k j _ (gd_get hj)
  obtain ⟨a2, c2, rfl, _⟩ := hi.s
  exact ⟨hc _ _ hx, a2, c2, by rw [Nat.add_assoc]; exact hc _ _ hu, hi⟩

/-- 'l[:i]' -/
theorem IntS.take {h : RO} {a : Option Addr} {n c : Nat} {l : List Int} (r : IntS h (.slice a n c) l) {i : Nat} (hi : i ≤ l.length) : IntS h (.slice (slA a 0 c 1) i c) (l.take i) := by
  have hlen := r.len
  have hr := r.rng
  obtain ⟨⟨a', c', e, a2, n2, c2, e2, h1, h2, h3⟩, _, _⟩ := r
  cases e; cases e2
  have ht : (l.take i).length = i := by simp; omega
  refine ⟨⟨slA a 0 c 1, c, by rw [ht], slA a 0 c 1, i, c, by rw [ht], by simp [ints]; omega, by omega, ?_⟩, by omega, fun x hx => hr x (List.mem_of_mem_take hx)⟩
  by_cases hc : c = 0
  · exact .inl ⟨by omega, hc⟩
  · rcases h3 with h3 | ⟨b, off, e, h3⟩
    · omega
    · refine .inr ⟨b, off, by subst e; simp [slA, hc, Addr.add], fun j u hu => h3 j u ?_⟩
      simp only [ints, List.map_take, List.getElem?_take] at hu
      split at hu
      · exact hu
      · cases hu
/-- 'l[i:]' -/
theorem IntS.drop {h : RO} {a : Option Addr} {n c : Nat} {l : List Int} (r : IntS h (.slice a n c) l) {i : Nat} (hi : i ≤ l.length) : IntS h (.slice (slA a i c 1) (n - i) (c - i)) (l.drop i) := by
  have hlen := r.len
  have hr := r.rng
  obtain ⟨⟨a', c', e, a2, n2, c2, e2, h1, h2, h3⟩, _, _⟩ := r
  cases e; cases e2
  have ht : (l.drop i).length = l.length - i := by simp
  refine ⟨⟨slA a i c 1, c - i, by rw [ht], slA a i c 1, l.length - i, c - i, by rw [ht], by simp [ints], by omega, ?_⟩, by omega, fun x hx => hr x (List.mem_of_mem_drop hx)⟩
  by_cases hc : c = 0
  · exact .inl ⟨by omega, by omega⟩
  · rcases h3 with h3 | ⟨b, off, e, h3⟩
    · omega
    · subst e
      by_cases hci : c = i
      · exact .inl ⟨by omega, by omega⟩
      · refine .inr ⟨b, off + i, by simp [slA, hci, add_eq], fun j u hu => ?_⟩
        rw [Nat.add_assoc]
        refine h3 (i + j) u ?_
        simpa [ints] using hu
theorem IntS.cap {h : RO} {a : Option Addr} {n c : Nat} {l : List Int} (r : IntS h (.slice a n c) l) : l.length ≤ c := by
  obtain ⟨⟨a', c', e, a2, n2, c2, e2, h1, h2, h3⟩, _, _⟩ := r
  cases e; cases e2; exact h2
end Go.SX
namespace Go.Proofs.YtoefoaabnjeofaaGreat
open Go.SX
set_option maxHeartbeats 2000000
set_option maxRecDepth 20000

def okN (l : List Int) (i : Nat) : Bool := !(g l i < -65536 || g l i > 65536 || g l i == 0 || (i > 0 && abs64 (g l (i - 1)) >= abs64 (g l i)))
def normal (l : List Int) : Bool := allN l.length (okN l)
def okR (l : List Int) (i : Nat) : Bool := !(g l i < 1 || g l i > 65536 || (i > 0 && g l (i - 1) >= g l i))
def rises (l : List Int) : Bool := allN l.length (okR l)
def G87 : Gv := ⟨[], [], []⟩
theorem abs09 {x : Int} {h : RO} {m : Hp} : Con Tryz.prog 87 [.int .i64 x] h m fun e h' m' => e = .returned (.int .i64 (abs64 x)) ∧ h' = h ∧ m' = m := by
  refine fn_of (nt := 8) T Tryz.func87 rfl (by kernel_rfl) Tryz.ntmps87 (by simp) T_ok T_mixed fun C hC => ?_
  simp only [Tryz.f87, argFr, Nat.zero_add, Nat.reduceAdd] at hC ⊢
  ((try (conv => whnf)); repeat ((first | refine And.intro ?_ True.intro | refine And.intro ⟨by omega, by omega⟩ ?_ | refine ⟨_, (by assumption : RO.c _ _ _ = _), ?_⟩ | refine ⟨_, _, _, (by assumption : (_ : Option Obj) = _), ?_⟩ | refine ⟨_, _, _, (by assumption : RO.c _ _ _ = _), ?_⟩ | refine ⟨_, (by assumption : Row _ _ _ _), ?_⟩ | refine ⟨_, (by assumption : Cell _ _ _ _ _), ?_⟩ | refine ⟨_, _, _, (by assumption : Cell _ _ _ _ _), ?_⟩ | refine ⟨_, Or.inl (by assumption), ?_⟩ | refine ⟨_, _, _, Or.inl (by assumption), ?_⟩ | refine And.intro (ints_one _) ?_ | refine And.intro (by omega) ?_ | refine d1 ?_ | refine d2 ?_ | refine d3 ?_ | refine d4 ?_ | refine go G87 400 hC (by kernel_rfl) ?_); (conv => whnf)))
  refine ⟨fun hx => ?_, fun hx => ?_⟩
  · ((try (conv => whnf)); repeat ((first | refine And.intro ?_ True.intro | refine And.intro ⟨by omega, by omega⟩ ?_ | refine ⟨_, (by assumption : RO.c _ _ _ = _), ?_⟩ | refine ⟨_, _, _, (by assumption : (_ : Option Obj) = _), ?_⟩ | refine ⟨_, _, _, (by assumption : RO.c _ _ _ = _), ?_⟩ | refine ⟨_, (by assumption : Row _ _ _ _), ?_⟩ | refine ⟨_, (by assumption : Cell _ _ _ _ _), ?_⟩ | refine ⟨_, _, _, (by assumption : Cell _ _ _ _ _), ?_⟩ | refine ⟨_, Or.inl (by assumption), ?_⟩ | refine ⟨_, _, _, Or.inl (by assumption), ?_⟩ | refine And.intro (ints_one _) ?_ | refine And.intro (by omega) ?_ | refine d1 ?_ | refine d2 ?_ | refine d3 ?_ | refine d4 ?_ | refine go G87 400 hC (by kernel_rfl) ?_); (conv => whnf)))
    have hx : x < 0 := by simpa using hx
    exact ⟨by rw [abs64, if_pos hx]; rfl, rfl, rfl⟩
  · ((try (conv => whnf)); repeat ((first | refine And.intro ?_ True.intro | refine And.intro ⟨by omega, by omega⟩ ?_ | refine ⟨_, (by assumption : RO.c _ _ _ = _), ?_⟩ | refine ⟨_, _, _, (by assumption : (_ : Option Obj) = _), ?_⟩ | refine ⟨_, _, _, (by assumption : RO.c _ _ _ = _), ?_⟩ | refine ⟨_, (by assumption : Row _ _ _ _), ?_⟩ | refine ⟨_, (by assumption : Cell _ _ _ _ _), ?_⟩ | refine ⟨_, _, _, (by assumption : Cell _ _ _ _ _), ?_⟩ | refine ⟨_, Or.inl (by assumption), ?_⟩ | refine ⟨_, _, _, Or.inl (by assumption), ?_⟩ | refine And.intro (ints_one _) ?_ | refine And.intro (by omega) ?_ | refine d1 ?_ | refine d2 ?_ | refine d3 ?_ | refine d4 ?_ | refine go G87 400 hC (by kernel_rfl) ?_); (conv => whnf)))
    have hx : ¬ x < 0 := by simpa using hx
    exact ⟨by rw [abs64, if_neg hx]; rfl, rfl, rfl⟩

def G251 : Gv := ⟨[], [], []⟩
theorem abs03 {x : Int} {h : RO} {m : Hp} : Con Tryz.prog 251 [.int .i64 x] h m fun e h' m' => e = .returned (.int .i64 (abs64 x)) ∧ h' = h ∧ m' = m := by
  refine fn_of (nt := 8) T Tryz.func251 rfl (by kernel_rfl) Tryz.ntmps251 (by simp) T_ok T_mixed fun C hC => ?_
  simp only [Tryz.f251, argFr, Nat.zero_add, Nat.reduceAdd] at hC ⊢
  ((try (conv => whnf)); repeat ((first | refine And.intro ?_ True.intro | refine And.intro ⟨by omega, by omega⟩ ?_ | refine ⟨_, (by assumption : RO.c _ _ _ = _), ?_⟩ | refine ⟨_, _, _, (by assumption : (_ : Option Obj) = _), ?_⟩ | refine ⟨_, _, _, (by assumption : RO.c _ _ _ = _), ?_⟩ | refine ⟨_, (by assumption : Row _ _ _ _), ?_⟩ | refine ⟨_, (by assumption : Cell _ _ _ _ _), ?_⟩ | refine ⟨_, _, _, (by assumption : Cell _ _ _ _ _), ?_⟩ | refine ⟨_, Or.inl (by assumption), ?_⟩ | refine ⟨_, _, _, Or.inl (by assumption), ?_⟩ | refine And.intro (ints_one _) ?_ | refine And.intro (by omega) ?_ | refine d1 ?_ | refine d2 ?_ | refine d3 ?_ | refine d4 ?_ | refine go G251 400 hC (by kernel_rfl) ?_); (conv => whnf)))
  refine ⟨fun hx => ?_, fun hx => ?_⟩
  · ((try (conv => whnf)); repeat ((first | refine And.intro ?_ True.intro | refine And.intro ⟨by omega, by omega⟩ ?_ | refine ⟨_, (by assumption : RO.c _ _ _ = _), ?_⟩ | refine ⟨_, _, _, (by assumption : (_ : Option Obj) = _), ?_⟩ | refine ⟨_, _, _, (by assumption : RO.c _ _ _ = _), ?_⟩ | refine ⟨_, (by assumption : Row _ _ _ _), ?_⟩ | refine ⟨_, (by assumption : Cell _ _ _ _ _), ?_⟩ | refine ⟨_, _, _, (by assumption : Cell _ _ _ _ _), ?_⟩ | refine ⟨_, Or.inl (by assumption), ?_⟩ | refine ⟨_, _, _, Or.inl (by assumption), ?_⟩ | refine And.intro (ints_one _) ?_ | refine And.intro (by omega) ?_ | refine d1 ?_ | refine d2 ?_ | refine d3 ?_ | refine d4 ?_ | refine go G251 400 hC (by kernel_rfl) ?_); (conv => whnf)))
    have hx : x < 0 := by simpa using hx
    exact ⟨by rw [abs64, if_pos hx]; rfl, rfl, rfl⟩
  · ((try (conv => whnf)); repeat ((first | refine And.intro ?_ True.intro | refine And.intro ⟨by omega, by omega⟩ ?_ | refine ⟨_, (by assumption : RO.c _ _ _ = _), ?_⟩ | refine ⟨_, _, _, (by assumption : (_ : Option Obj) = _), ?_⟩ | refine ⟨_, _, _, (by assumption : RO.c _ _ _ = _), ?_⟩ | refine ⟨_, (by assumption : Row _ _ _ _), ?_⟩ | refine ⟨_, (by assumption : Cell _ _ _ _ _), ?_⟩ | refine ⟨_, _, _, (by assumption : Cell _ _ _ _ _), ?_⟩ | refine ⟨_, Or.inl (by assumption), ?_⟩ | refine ⟨_, _, _, Or.inl (by assumption), ?_⟩ | refine And.intro (ints_one _) ?_ | refine And.intro (by omega) ?_ | refine d1 ?_ | refine d2 ?_ | refine d3 ?_ | refine d4 ?_ | refine go G251 400 hC (by kernel_rfl) ?_); (conv => whnf)))
    have hx : ¬ x < 0 := by simpa using hx
    exact ⟨by rw [abs64, if_neg hx]; rfl, rfl, rfl⟩

def G86 : Gv := ⟨[], [], [(4, .one 0 (.one 1 (.one 2 (.one 3 (.one 4 (.one 5 (.one 6 (.one 7 (.one 8 (.one 9 (.one 10 (.one 11 (.one 12 (.one 13 (.one 14 (.one 15 (.one 16 (.one 17 (.one 18 (.one 19 (.one 20 (.one 21 (.one 22 (.one 23 (.one 24 (.one 25 (.one 26 (.one 27 (.one 29 (.one 30 (.one 31 (.one 32 (.fork 28 (.fork 33 (.one 34 (.one 35 (.one 36 (.nil)))) .stop) .stop)))))))))))))))))))))))))))))))))]⟩
theorem normal09 {u : Value} {l : List Int} {h : RO} {m : Hp} (ha : IntS h u l) :
    Con Tryz.prog 86 [u] h m fun e h' m' => e = .returned (.bool (normal l)) ∧ h' = h ∧ m' = m := by
  obtain ⟨x, c, rfl, hr⟩ := ha.s
  have hla := ha.len
  refine fn_of (nt := 47) T Tryz.func86 rfl (by kernel_rfl) Tryz.ntmps86 (by simp) T_ok T_mixed fun C hC => ?_
  simp only [Tryz.f86, argFr, Nat.zero_add, Nat.reduceAdd] at hC ⊢
  ((try (conv => whnf)); repeat ((first | refine And.intro ?_ True.intro | refine And.intro ⟨by omega, by omega⟩ ?_ | refine ⟨_, (by assumption : RO.c _ _ _ = _), ?_⟩ | refine ⟨_, _, _, (by assumption : (_ : Option Obj) = _), ?_⟩ | refine ⟨_, _, _, (by assumption : RO.c _ _ _ = _), ?_⟩ | refine ⟨_, (by assumption : Row _ _ _ _), ?_⟩ | refine ⟨_, (by assumption : Cell _ _ _ _ _), ?_⟩ | refine ⟨_, _, _, (by assumption : Cell _ _ _ _ _), ?_⟩ | refine ⟨_, Or.inl (by assumption), ?_⟩ | refine ⟨_, _, _, Or.inl (by assumption), ?_⟩ | refine And.intro (ints_one _) ?_ | refine And.intro (by omega) ?_ | refine d1 ?_ | refine d2 ?_ | refine d3 ?_ | refine d4 ?_ | refine go G86 400 hC (by kernel_rfl) ?_); (conv => whnf)))
  refine halt (sx_loop (X := Nat) (fun i => [(0, .v (.slice x l.length c)), (3, .v (.int .i64 i))]) (fun _ => [])
    (fun i h' m' => i ≤ l.length ∧ (∀ j, j < i → okN l j = true) ∧ h' = h ∧ m' = m) (fun i => l.length - i) 0 ⟨[], ?_⟩ ⟨by omega, by simp, rfl, rfl⟩ ?_)
  · exact ⟨trivial, ⟨rfl, rfl, trivial⟩, trivial⟩
  rintro i h' m' _ ⟨hi, hn, rfl, rfl⟩
  ((try (conv => whnf)); repeat ((first | refine And.intro ?_ True.intro | refine And.intro ⟨by omega, by omega⟩ ?_ | refine ⟨_, (by assumption : RO.c _ _ _ = _), ?_⟩ | refine ⟨_, _, _, (by assumption : (_ : Option Obj) = _), ?_⟩ | refine ⟨_, _, _, (by assumption : RO.c _ _ _ = _), ?_⟩ | refine ⟨_, (by assumption : Row _ _ _ _), ?_⟩ | refine ⟨_, (by assumption : Cell _ _ _ _ _), ?_⟩ | refine ⟨_, _, _, (by assumption : Cell _ _ _ _ _), ?_⟩ | refine ⟨_, Or.inl (by assumption), ?_⟩ | refine ⟨_, _, _, Or.inl (by assumption), ?_⟩ | refine And.intro (ints_one _) ?_ | refine And.intro (by omega) ?_ | refine d1 ?_ | refine d2 ?_ | refine d3 ?_ | refine d4 ?_ | refine go G86 400 hC (by kernel_rfl) ?_); (conv => whnf)))
  refine ⟨fun hlt => ?_, fun hge => ?_⟩
  · have hlt : i < l.length := by simpa using hlt
    obtain ⟨p, q, rfl, hc⟩ := ha.get hlt
    have c1 := hc i hlt
    have bad : okN l i = false → Ending.returned (.bool false) = Ending.returned (.bool (normal l)) := fun hb => by rw [normal, allN_false hlt hb]
    ((try (conv => whnf)); repeat ((first | refine And.intro ?_ True.intro | refine And.intro ⟨by omega, by omega⟩ ?_ | refine ⟨_, (by assumption : RO.c _ _ _ = _), ?_⟩ | refine ⟨_, _, _, (by assumption : (_ : Option Obj) = _), ?_⟩ | refine ⟨_, _, _, (by assumption : RO.c _ _ _ = _), ?_⟩ | refine ⟨_, (by assumption : Row _ _ _ _), ?_⟩ | refine ⟨_, (by assumption : Cell _ _ _ _ _), ?_⟩ | refine ⟨_, _, _, (by assumption : Cell _ _ _ _ _), ?_⟩ | refine ⟨_, Or.inl (by assumption), ?_⟩ | refine ⟨_, _, _, Or.inl (by assumption), ?_⟩ | refine And.intro (ints_one _) ?_ | refine And.intro (by omega) ?_ | refine d1 ?_ | refine d2 ?_ | refine d3 ?_ | refine d4 ?_ | refine go G86 400 hC (by kernel_rfl) ?_); (conv => whnf)))
    by_cases h0 : 0 < i
    · have e0 := predI (i := i) (by omega) h0
      have c0 : h'.c p (q + (IntKind.i64.wrap ((i : Int) - 1)).toNat) = some (.int .i64 (g l (i - 1))) := by rw [e0]; exact hc (i - 1) (by omega)
      iterate 4 (all_goals try ((refine ⟨fun _ => ?_, fun _ => ?_⟩) <;> ((try (conv => whnf)); repeat ((first | refine And.intro ?_ True.intro | refine And.intro ⟨by omega, by omega⟩ ?_ | refine ⟨_, (by assumption : RO.c _ _ _ = _), ?_⟩ | refine ⟨_, _, _, (by assumption : (_ : Option Obj) = _), ?_⟩ | refine ⟨_, _, _, (by assumption : RO.c _ _ _ = _), ?_⟩ | refine ⟨_, (by assumption : Row _ _ _ _), ?_⟩ | refine ⟨_, (by assumption : Cell _ _ _ _ _), ?_⟩ | refine ⟨_, _, _, (by assumption : Cell _ _ _ _ _), ?_⟩ | refine ⟨_, Or.inl (by assumption), ?_⟩ | refine ⟨_, _, _, Or.inl (by assumption), ?_⟩ | refine And.intro (ints_one _) ?_ | refine And.intro (by omega) ?_ | refine d1 ?_ | refine d2 ?_ | refine d3 ?_ | refine d4 ?_ | refine go G86 400 hC (by kernel_rfl) ?_); (conv => whnf)))))
      (all_goals try (refine Con.mono (abs09) ?_; rintro _ _ _ - ⟨rfl, rfl, rfl⟩; ((try (conv => whnf)); repeat ((first | refine And.intro ?_ True.intro | refine And.intro ⟨by omega, by omega⟩ ?_ | refine ⟨_, (by assumption : RO.c _ _ _ = _), ?_⟩ | refine ⟨_, _, _, (by assumption : (_ : Option Obj) = _), ?_⟩ | refine ⟨_, _, _, (by assumption : RO.c _ _ _ = _), ?_⟩ | refine ⟨_, (by assumption : Row _ _ _ _), ?_⟩ | refine ⟨_, (by assumption : Cell _ _ _ _ _), ?_⟩ | refine ⟨_, _, _, (by assumption : Cell _ _ _ _ _), ?_⟩ | refine ⟨_, Or.inl (by assumption), ?_⟩ | refine ⟨_, _, _, Or.inl (by assumption), ?_⟩ | refine And.intro (ints_one _) ?_ | refine And.intro (by omega) ?_ | refine d1 ?_ | refine d2 ?_ | refine d3 ?_ | refine d4 ?_ | refine go G86 400 hC (by kernel_rfl) ?_); (conv => whnf))))); (all_goals try (refine Con.mono (abs09) ?_; rintro _ _ _ - ⟨rfl, rfl, rfl⟩; ((try (conv => whnf)); repeat ((first | refine And.intro ?_ True.intro | refine And.intro ⟨by omega, by omega⟩ ?_ | refine ⟨_, (by assumption : RO.c _ _ _ = _), ?_⟩ | refine ⟨_, _, _, (by assumption : (_ : Option Obj) = _), ?_⟩ | refine ⟨_, _, _, (by assumption : RO.c _ _ _ = _), ?_⟩ | refine ⟨_, (by assumption : Row _ _ _ _), ?_⟩ | refine ⟨_, (by assumption : Cell _ _ _ _ _), ?_⟩ | refine ⟨_, _, _, (by assumption : Cell _ _ _ _ _), ?_⟩ | refine ⟨_, Or.inl (by assumption), ?_⟩ | refine ⟨_, _, _, Or.inl (by assumption), ?_⟩ | refine And.intro (ints_one _) ?_ | refine And.intro (by omega) ?_ | refine d1 ?_ | refine d2 ?_ | refine d3 ?_ | refine d4 ?_ | refine go G86 400 hC (by kernel_rfl) ?_); (conv => whnf)))))
      all_goals try ((refine ⟨fun _ => ?_, fun _ => ?_⟩) <;> ((try (conv => whnf)); repeat ((first | refine And.intro ?_ True.intro | refine And.intro ⟨by omega, by omega⟩ ?_ | refine ⟨_, (by assumption : RO.c _ _ _ = _), ?_⟩ | refine ⟨_, _, _, (by assumption : (_ : Option Obj) = _), ?_⟩ | refine ⟨_, _, _, (by assumption : RO.c _ _ _ = _), ?_⟩ | refine ⟨_, (by assumption : Row _ _ _ _), ?_⟩ | refine ⟨_, (by assumption : Cell _ _ _ _ _), ?_⟩ | refine ⟨_, _, _, (by assumption : Cell _ _ _ _ _), ?_⟩ | refine ⟨_, Or.inl (by assumption), ?_⟩ | refine ⟨_, _, _, Or.inl (by assumption), ?_⟩ | refine And.intro (ints_one _) ?_ | refine And.intro (by omega) ?_ | refine d1 ?_ | refine d2 ?_ | refine d3 ?_ | refine d4 ?_ | refine go G86 400 hC (by kernel_rfl) ?_); (conv => whnf))))
      all_goals first
        | exact ⟨bad (by clear hC hn bad hc ha hr c1; (try clear c0 e0); simp_all [okN]), rfl, rfl⟩
        | exact halt ⟨i + 1, [], ⟨trivial, ⟨rfl, stepI (by omega), trivial⟩, trivial⟩, RO.le.refl _, ⟨hlt, allS hn (by clear hC hn bad hc ha hr c1; (try clear c0 e0); simp_all [okN]), rfl, rfl⟩, by omega⟩
    · iterate 4 (all_goals try ((refine ⟨fun _ => ?_, fun _ => ?_⟩) <;> ((try (conv => whnf)); repeat ((first | refine And.intro ?_ True.intro | refine And.intro ⟨by omega, by omega⟩ ?_ | refine ⟨_, (by assumption : RO.c _ _ _ = _), ?_⟩ | refine ⟨_, _, _, (by assumption : (_ : Option Obj) = _), ?_⟩ | refine ⟨_, _, _, (by assumption : RO.c _ _ _ = _), ?_⟩ | refine ⟨_, (by assumption : Row _ _ _ _), ?_⟩ | refine ⟨_, (by assumption : Cell _ _ _ _ _), ?_⟩ | refine ⟨_, _, _, (by assumption : Cell _ _ _ _ _), ?_⟩ | refine ⟨_, Or.inl (by assumption), ?_⟩ | refine ⟨_, _, _, Or.inl (by assumption), ?_⟩ | refine And.intro (ints_one _) ?_ | refine And.intro (by omega) ?_ | refine d1 ?_ | refine d2 ?_ | refine d3 ?_ | refine d4 ?_ | refine go G86 400 hC (by kernel_rfl) ?_); (conv => whnf)))))
      all_goals first
        | exact absurd (by simpa using ‹decide ((i : Int) > 0) = true›) h0
        | exact ⟨bad (by clear hC hn bad hc ha hr c1; (try clear c0 e0); simp_all [okN]), rfl, rfl⟩
        | exact halt ⟨i + 1, [], ⟨trivial, ⟨rfl, stepI (by omega), trivial⟩, trivial⟩, RO.le.refl _, ⟨hlt, allS hn (by clear hC hn bad hc ha hr c1; (try clear c0 e0); simp_all [okN]), rfl, rfl⟩, by omega⟩
  · have hge : i = l.length := by simp at hge; omega
    ((try (conv => whnf)); repeat ((first | refine And.intro ?_ True.intro | refine And.intro ⟨by omega, by omega⟩ ?_ | refine ⟨_, (by assumption : RO.c _ _ _ = _), ?_⟩ | refine ⟨_, _, _, (by assumption : (_ : Option Obj) = _), ?_⟩ | refine ⟨_, _, _, (by assumption : RO.c _ _ _ = _), ?_⟩ | refine ⟨_, (by assumption : Row _ _ _ _), ?_⟩ | refine ⟨_, (by assumption : Cell _ _ _ _ _), ?_⟩ | refine ⟨_, _, _, (by assumption : Cell _ _ _ _ _), ?_⟩ | refine ⟨_, Or.inl (by assumption), ?_⟩ | refine ⟨_, _, _, Or.inl (by assumption), ?_⟩ | refine And.intro (ints_one _) ?_ | refine And.intro (by omega) ?_ | refine d1 ?_ | refine d2 ?_ | refine d3 ?_ | refine d4 ?_ | refine go G86 400 hC (by kernel_rfl) ?_); (conv => whnf)))
    exact ⟨by rw [normal, allN_true (hge ▸ hn)]; rfl, rfl, rfl⟩

def G250 : Gv := ⟨[], [], [(4, .one 0 (.one 1 (.one 2 (.one 3 (.one 4 (.one 5 (.one 6 (.one 7 (.one 8 (.one 9 (.one 10 (.one 11 (.one 12 (.one 13 (.one 14 (.one 15 (.one 16 (.one 17 (.one 18 (.one 19 (.one 20 (.one 21 (.one 22 (.one 23 (.one 24 (.one 25 (.one 26 (.one 27 (.one 29 (.one 30 (.one 31 (.one 32 (.fork 28 (.fork 33 (.one 34 (.one 35 (.one 36 (.nil)))) .stop) .stop)))))))))))))))))))))))))))))))))]⟩
theorem normal03 {u : Value} {l : List Int} {h : RO} {m : Hp} (ha : IntS h u l) :
    Con Tryz.prog 250 [u] h m fun e h' m' => e = .returned (.bool (normal l)) ∧ h' = h ∧ m' = m := by
  obtain ⟨x, c, rfl, hr⟩ := ha.s
  have hla := ha.len
  refine fn_of (nt := 47) T Tryz.func250 rfl (by kernel_rfl) Tryz.ntmps250 (by simp) T_ok T_mixed fun C hC => ?_
  simp only [Tryz.f250, argFr, Nat.zero_add, Nat.reduceAdd] at hC ⊢
  ((try (conv => whnf)); repeat ((first | refine And.intro ?_ True.intro | refine And.intro ⟨by omega, by omega⟩ ?_ | refine ⟨_, (by assumption : RO.c _ _ _ = _), ?_⟩ | refine ⟨_, _, _, (by assumption : (_ : Option Obj) = _), ?_⟩ | refine ⟨_, _, _, (by assumption : RO.c _ _ _ = _), ?_⟩ | refine ⟨_, (by assumption : Row _ _ _ _), ?_⟩ | refine ⟨_, (by assumption : Cell _ _ _ _ _), ?_⟩ | refine ⟨_, _, _, (by assumption : Cell _ _ _ _ _), ?_⟩ | refine ⟨_, Or.inl (by assumption), ?_⟩ | refine ⟨_, _, _, Or.inl (by assumption), ?_⟩ | refine And.intro (ints_one _) ?_ | refine And.intro (by omega) ?_ | refine d1 ?_ | refine d2 ?_ | refine d3 ?_ | refine d4 ?_ | refine go G250 400 hC (by kernel_rfl) ?_); (conv => whnf)))
  refine halt (sx_loop (X := Nat) (fun i => [(0, .v (.slice x l.length c)), (3, .v (.int .i64 i))]) (fun _ => [])
    (fun i h' m' => i ≤ l.length ∧ (∀ j, j < i → okN l j = true) ∧ h' = h ∧ m' = m) (fun i => l.length - i) 0 ⟨[], ?_⟩ ⟨by omega, by simp, rfl, rfl⟩ ?_)
  · exact ⟨trivial, ⟨rfl, rfl, trivial⟩, trivial⟩
  rintro i h' m' _ ⟨hi, hn, rfl, rfl⟩
  ((try (conv => whnf)); repeat ((first | refine And.intro ?_ True.intro | refine And.intro ⟨by omega, by omega⟩ ?_ | refine ⟨_, (by assumption : RO.c _ _ _ = _), ?_⟩ | refine ⟨_, _, _, (by assumption : (_ : Option Obj) = _), ?_⟩ | refine ⟨_, _, _, (by assumption : RO.c _ _ _ = _), ?_⟩ | refine ⟨_, (by assumption : Row _ _ _ _), ?_⟩ | refine ⟨_, (by assumption : Cell _ _ _ _ _), ?_⟩ | refine ⟨_, _, _, (by assumption : Cell _ _ _ _ _), ?_⟩ | refine ⟨_, Or.inl (by assumption), ?_⟩ | refine ⟨_, _, _, Or.inl (by assumption), ?_⟩ | refine And.intro (ints_one _) ?_ | refine And.intro (by omega) ?_ | refine d1 ?_ | refine d2 ?_ | refine d3 ?_ | refine d4 ?_ | refine go G250 400 hC (by kernel_rfl) ?_); (conv => whnf)))
  refine ⟨fun hlt => ?_, fun hge => ?_⟩
  · have hlt : i < l.length := by simpa using hlt
    obtain ⟨p, q, rfl, hc⟩ := ha.get hlt
    have c1 := hc i hlt
    have bad : okN l i = false → Ending.returned (.bool false) = Ending.returned (.bool (normal l)) := fun hb => by rw [normal, allN_false hlt hb]
    ((try (conv => whnf)); repeat ((first | refine And.intro ?_ True.intro | refine And.intro ⟨by omega, by omega⟩ ?_ | refine ⟨_, (by assumption : RO.c _ _ _ = _), ?_⟩ | refine ⟨_, _, _, (by assumption : (_ : Option Obj) = _), ?_⟩ | refine ⟨_, _, _, (by assumption : RO.c _ _ _ = _), ?_⟩ | refine ⟨_, (by assumption : Row _ _ _ _), ?_⟩ | refine ⟨_, (by assumption : Cell _ _ _ _ _), ?_⟩ | refine ⟨_, _, _, (by assumption : Cell _ _ _ _ _), ?_⟩ | refine ⟨_, Or.inl (by assumption), ?_⟩ | refine ⟨_, _, _, Or.inl (by assumption), ?_⟩ | refine And.intro (ints_one _) ?_ | refine And.intro (by omega) ?_ | refine d1 ?_ | refine d2 ?_ | refine d3 ?_ | refine d4 ?_ | refine go G250 400 hC (by kernel_rfl) ?_); (conv => whnf)))
    by_cases h0 : 0 < i
    · have e0 := predI (i := i) (by omega) h0
      have c0 : h'.c p (q + (IntKind.i64.wrap ((i : Int) - 1)).toNat) = some (.int .i64 (g l (i - 1))) := by rw [e0]; exact hc (i - 1) (by omega)
      iterate 4 (all_goals try ((refine ⟨fun _ => ?_, fun _ => ?_⟩) <;> ((try (conv => whnf)); repeat ((first | refine And.intro ?_ True.intro | refine And.intro ⟨by omega, by omega⟩ ?_ | refine ⟨_, (by assumption : RO.c _ _ _ = _), ?_⟩ | refine ⟨_, _, _, (by assumption : (_ : Option Obj) = _), ?_⟩ | refine ⟨_, _, _, (by assumption : RO.c _ _ _ = _), ?_⟩ | refine ⟨_, (by assumption : Row _ _ _ _), ?_⟩ | refine ⟨_, (by assumption : Cell _ _ _ _ _), ?_⟩ | refine ⟨_, _, _, (by assumption : Cell _ _ _ _ _), ?_⟩ | refine ⟨_, Or.inl (by assumption), ?_⟩ | refine ⟨_, _, _, Or.inl (by assumption), ?_⟩ | refine And.intro (ints_one _) ?_ | refine And.intro (by omega) ?_ | refine d1 ?_ | refine d2 ?_ | refine d3 ?_ | refine d4 ?_ | refine go G250 400 hC (by kernel_rfl) ?_); (conv => whnf)))))
      (all_goals try (refine Con.mono (abs03) ?_; rintro _ _ _ - ⟨rfl, rfl, rfl⟩; ((try (conv => whnf)); repeat ((first | refine And.intro ?_ True.intro | refine And.intro ⟨by omega, by omega⟩ ?_ | refine ⟨_, (by assumption : RO.c _ _ _ = _), ?_⟩ | refine ⟨_, _, _, (by assumption : (_ : Option Obj) = _), ?_⟩ | refine ⟨_, _, _, (by assumption : RO.c _ _ _ = _), ?_⟩ | refine ⟨_, (by assumption : Row _ _ _ _), ?_⟩ | refine ⟨_, (by assumption : Cell _ _ _ _ _), ?_⟩ | refine ⟨_, _, _, (by assumption : Cell _ _ _ _ _), ?_⟩ | refine ⟨_, Or.inl (by assumption), ?_⟩ | refine ⟨_, _, _, Or.inl (by assumption), ?_⟩ | refine And.intro (ints_one _) ?_ | refine And.intro (by omega) ?_ | refine d1 ?_ | refine d2 ?_ | refine d3 ?_ | refine d4 ?_ | refine go G250 400 hC (by kernel_rfl) ?_); (conv => whnf))))); (all_goals try (refine Con.mono (abs03) ?_; rintro _ _ _ - ⟨rfl, rfl, rfl⟩; ((try (conv => whnf)); repeat ((first | refine And.intro ?_ True.intro | refine And.intro ⟨by omega, by omega⟩ ?_ | refine ⟨_, (by assumption : RO.c _ _ _ = _), ?_⟩ | refine ⟨_, _, _, (by assumption : (_ : Option Obj) = _), ?_⟩ | refine ⟨_, _, _, (by assumption : RO.c _ _ _ = _), ?_⟩ | refine ⟨_, (by assumption : Row _ _ _ _), ?_⟩ | refine ⟨_, (by assumption : Cell _ _ _ _ _), ?_⟩ | refine ⟨_, _, _, (by assumption : Cell _ _ _ _ _), ?_⟩ | refine ⟨_, Or.inl (by assumption), ?_⟩ | refine ⟨_, _, _, Or.inl (by assumption), ?_⟩ | refine And.intro (ints_one _) ?_ | refine And.intro (by omega) ?_ | refine d1 ?_ | refine d2 ?_ | refine d3 ?_ | refine d4 ?_ | refine go G250 400 hC (by kernel_rfl) ?_); (conv => whnf)))))
      all_goals try ((refine ⟨fun _ => ?_, fun _ => ?_⟩) <;> ((try (conv => whnf)); repeat ((first | refine And.intro ?_ True.intro | refine And.intro ⟨by omega, by omega⟩ ?_ | refine ⟨_, (by assumption : RO.c _ _ _ = _), ?_⟩ | refine ⟨_, _, _, (by assumption : (_ : Option Obj) = _), ?_⟩ | refine ⟨_, _, _, (by assumption : RO.c _ _ _ = _), ?_⟩ | refine ⟨_, (by assumption : Row _ _ _ _), ?_⟩ | refine ⟨_, (by assumption : Cell _ _ _ _ _), ?_⟩ | refine ⟨_, _, _, (by assumption : Cell _ _ _ _ _), ?_⟩ | refine ⟨_, Or.inl (by assumption), ?_⟩ | refine ⟨_, _, _, Or.inl (by assumption), ?_⟩ | refine And.intro (ints_one _) ?_ | refine And.intro (by omega) ?_ | refine d1 ?_ | refine d2 ?_ | refine d3 ?_ | refine d4 ?_ | refine go G250 400 hC (by kernel_rfl) ?_); (conv => whnf))))
      all_goals first
        | exact ⟨bad (by clear hC hn bad hc ha hr c1; (try clear c0 e0); simp_all [okN]), rfl, rfl⟩
        | exact halt ⟨i + 1, [], ⟨trivial, ⟨rfl, stepI (by omega), trivial⟩, trivial⟩, RO.le.refl _, ⟨hlt, allS hn (by clear hC hn bad hc ha hr c1; (try clear c0 e0); simp_all [okN]), rfl, rfl⟩, by omega⟩
    · iterate 4 (all_goals try ((refine ⟨fun _ => ?_, fun _ => ?_⟩) <;> ((try (conv => whnf)); repeat ((first | refine And.intro ?_ True.intro | refine And.intro ⟨by omega, by omega⟩ ?_ | refine ⟨_, (by assumption : RO.c _ _ _ = _), ?_⟩ | refine ⟨_, _, _, (by assumption : (_ : Option Obj) = _), ?_⟩ | refine ⟨_, _, _, (by assumption : RO.c _ _ _ = _), ?_⟩ | refine ⟨_, (by assumption : Row _ _ _ _), ?_⟩ | refine ⟨_, (by assumption : Cell _ _ _ _ _), ?_⟩ | refine ⟨_, _, _, (by assumption : Cell _ _ _ _ _), ?_⟩ | refine ⟨_, Or.inl (by assumption), ?_⟩ | refine ⟨_, _, _, Or.inl (by assumption), ?_⟩ | refine And.intro (ints_one _) ?_ | refine And.intro (by omega) ?_ | refine d1 ?_ | refine d2 ?_ | refine d3 ?_ | refine d4 ?_ | refine go G250 400 hC (by kernel_rfl) ?_); (conv => whnf)))))
      all_goals first
        | exact absurd (by simpa using ‹decide ((i : Int) > 0) = true›) h0
        | exact ⟨bad (by clear hC hn bad hc ha hr c1; (try clear c0 e0); simp_all [okN]), rfl, rfl⟩
        | exact halt ⟨i + 1, [], ⟨trivial, ⟨rfl, stepI (by omega), trivial⟩, trivial⟩, RO.le.refl _, ⟨hlt, allS hn (by clear hC hn bad hc ha hr c1; (try clear c0 e0); simp_all [okN]), rfl, rfl⟩, by omega⟩
  · have hge : i = l.length := by simp at hge; omega
    ((try (conv => whnf)); repeat ((first | refine And.intro ?_ True.intro | refine And.intro ⟨by omega, by omega⟩ ?_ | refine ⟨_, (by assumption : RO.c _ _ _ = _), ?_⟩ | refine ⟨_, _, _, (by assumption : (_ : Option Obj) = _), ?_⟩ | refine ⟨_, _, _, (by assumption : RO.c _ _ _ = _), ?_⟩ | refine ⟨_, (by assumption : Row _ _ _ _), ?_⟩ | refine ⟨_, (by assumption : Cell _ _ _ _ _), ?_⟩ | refine ⟨_, _, _, (by assumption : Cell _ _ _ _ _), ?_⟩ | refine ⟨_, Or.inl (by assumption), ?_⟩ | refine ⟨_, _, _, Or.inl (by assumption), ?_⟩ | refine And.intro (ints_one _) ?_ | refine And.intro (by omega) ?_ | refine d1 ?_ | refine d2 ?_ | refine d3 ?_ | refine d4 ?_ | refine go G250 400 hC (by kernel_rfl) ?_); (conv => whnf)))
    exact ⟨by rw [normal, allN_true (hge ▸ hn)]; rfl, rfl, rfl⟩

def G178 : Gv := ⟨[], [], [(4, .one 0 (.one 1 (.one 2 (.one 3 (.one 4 (.one 5 (.one 6 (.one 7 (.one 8 (.one 9 (.one 10 (.one 11 (.one 12 (.one 13 (.one 14 (.one 15 (.one 16 (.one 17 (.one 18 (.one 19 (.one 20 (.one 21 (.one 22 (.one 23 (.one 24 (.one 25 (.one 26 (.one 27 (.nil)))))))))))))))))))))))))))))]⟩
theorem rises03 {u : Value} {l : List Int} {h : RO} {m : Hp} (ha : IntS h u l) :
    Con Tryz.prog 178 [u] h m fun e h' m' => e = .returned (.bool (rises l)) ∧ h' = h ∧ m' = m := by
  obtain ⟨x, c, rfl, hr⟩ := ha.s
  have hla := ha.len
  refine fn_of (nt := 38) T Tryz.func178 rfl (by kernel_rfl) Tryz.ntmps178 (by simp) T_ok T_mixed fun C hC => ?_
  simp only [Tryz.f178, argFr, Nat.zero_add, Nat.reduceAdd] at hC ⊢
  ((try (conv => whnf)); repeat ((first | refine And.intro ?_ True.intro | refine And.intro ⟨by omega, by omega⟩ ?_ | refine ⟨_, (by assumption : RO.c _ _ _ = _), ?_⟩ | refine ⟨_, _, _, (by assumption : (_ : Option Obj) = _), ?_⟩ | refine ⟨_, _, _, (by assumption : RO.c _ _ _ = _), ?_⟩ | refine ⟨_, (by assumption : Row _ _ _ _), ?_⟩ | refine ⟨_, (by assumption : Cell _ _ _ _ _), ?_⟩ | refine ⟨_, _, _, (by assumption : Cell _ _ _ _ _), ?_⟩ | refine ⟨_, Or.inl (by assumption), ?_⟩ | refine ⟨_, _, _, Or.inl (by assumption), ?_⟩ | refine And.intro (ints_one _) ?_ | refine And.intro (by omega) ?_ | refine d1 ?_ | refine d2 ?_ | refine d3 ?_ | refine d4 ?_ | refine go G178 400 hC (by kernel_rfl) ?_); (conv => whnf)))
  refine halt (sx_loop (X := Nat) (fun i => [(0, .v (.slice x l.length c)), (3, .v (.int .i64 i))]) (fun _ => [])
    (fun i h' m' => i ≤ l.length ∧ (∀ j, j < i → okR l j = true) ∧ h' = h ∧ m' = m) (fun i => l.length - i) 0 ⟨[], ?_⟩ ⟨by omega, by simp, rfl, rfl⟩ ?_)
  · exact ⟨trivial, ⟨rfl, rfl, trivial⟩, trivial⟩
  rintro i h' m' _ ⟨hi, hn, rfl, rfl⟩
  ((try (conv => whnf)); repeat ((first | refine And.intro ?_ True.intro | refine And.intro ⟨by omega, by omega⟩ ?_ | refine ⟨_, (by assumption : RO.c _ _ _ = _), ?_⟩ | refine ⟨_, _, _, (by assumption : (_ : Option Obj) = _), ?_⟩ | refine ⟨_, _, _, (by assumption : RO.c _ _ _ = _), ?_⟩ | refine ⟨_, (by assumption : Row _ _ _ _), ?_⟩ | refine ⟨_, (by assumption : Cell _ _ _ _ _), ?_⟩ | refine ⟨_, _, _, (by assumption : Cell _ _ _ _ _), ?_⟩ | refine ⟨_, Or.inl (by assumption), ?_⟩ | refine ⟨_, _, _, Or.inl (by assumption), ?_⟩ | refine And.intro (ints_one _) ?_ | refine And.intro (by omega) ?_ | refine d1 ?_ | refine d2 ?_ | refine d3 ?_ | refine d4 ?_ | refine go G178 400 hC (by kernel_rfl) ?_); (conv => whnf)))
  refine ⟨fun hlt => ?_, fun hge => ?_⟩
  · have hlt : i < l.length := by simpa using hlt
    obtain ⟨p, q, rfl, hc⟩ := ha.get hlt
    have c1 := hc i hlt
    have bad : okR l i = false → Ending.returned (.bool false) = Ending.returned (.bool (rises l)) := fun hb => by rw [rises, allN_false hlt hb]
    ((try (conv => whnf)); repeat ((first | refine And.intro ?_ True.intro | refine And.intro ⟨by omega, by omega⟩ ?_ | refine ⟨_, (by assumption : RO.c _ _ _ = _), ?_⟩ | refine ⟨_, _, _, (by assumption : (_ : Option Obj) = _), ?_⟩ | refine ⟨_, _, _, (by assumption : RO.c _ _ _ = _), ?_⟩ | refine ⟨_, (by assumption : Row _ _ _ _), ?_⟩ | refine ⟨_, (by assumption : Cell _ _ _ _ _), ?_⟩ | refine ⟨_, _, _, (by assumption : Cell _ _ _ _ _), ?_⟩ | refine ⟨_, Or.inl (by assumption), ?_⟩ | refine ⟨_, _, _, Or.inl (by assumption), ?_⟩ | refine And.intro (ints_one _) ?_ | refine And.intro (by omega) ?_ | refine d1 ?_ | refine d2 ?_ | refine d3 ?_ | refine d4 ?_ | refine go G178 400 hC (by kernel_rfl) ?_); (conv => whnf)))
    by_cases h0 : 0 < i
    · have e0 := predI (i := i) (by omega) h0
      have c0 : h'.c p (q + (IntKind.i64.wrap ((i : Int) - 1)).toNat) = some (.int .i64 (g l (i - 1))) := by rw [e0]; exact hc (i - 1) (by omega)
      iterate 4 (all_goals try ((refine ⟨fun _ => ?_, fun _ => ?_⟩) <;> ((try (conv => whnf)); repeat ((first | refine And.intro ?_ True.intro | refine And.intro ⟨by omega, by omega⟩ ?_ | refine ⟨_, (by assumption : RO.c _ _ _ = _), ?_⟩ | refine ⟨_, _, _, (by assumption : (_ : Option Obj) = _), ?_⟩ | refine ⟨_, _, _, (by assumption : RO.c _ _ _ = _), ?_⟩ | refine ⟨_, (by assumption : Row _ _ _ _), ?_⟩ | refine ⟨_, (by assumption : Cell _ _ _ _ _), ?_⟩ | refine ⟨_, _, _, (by assumption : Cell _ _ _ _ _), ?_⟩ | refine ⟨_, Or.inl (by assumption), ?_⟩ | refine ⟨_, _, _, Or.inl (by assumption), ?_⟩ | refine And.intro (ints_one _) ?_ | refine And.intro (by omega) ?_ | refine d1 ?_ | refine d2 ?_ | refine d3 ?_ | refine d4 ?_ | refine go G178 400 hC (by kernel_rfl) ?_); (conv => whnf)))))
      skip
      all_goals try ((refine ⟨fun _ => ?_, fun _ => ?_⟩) <;> ((try (conv => whnf)); repeat ((first | refine And.intro ?_ True.intro | refine And.intro ⟨by omega, by omega⟩ ?_ | refine ⟨_, (by assumption : RO.c _ _ _ = _), ?_⟩ | refine ⟨_, _, _, (by assumption : (_ : Option Obj) = _), ?_⟩ | refine ⟨_, _, _, (by assumption : RO.c _ _ _ = _), ?_⟩ | refine ⟨_, (by assumption : Row _ _ _ _), ?_⟩ | refine ⟨_, (by assumption : Cell _ _ _ _ _), ?_⟩ | refine ⟨_, _, _, (by assumption : Cell _ _ _ _ _), ?_⟩ | refine ⟨_, Or.inl (by assumption), ?_⟩ | refine ⟨_, _, _, Or.inl (by assumption), ?_⟩ | refine And.intro (ints_one _) ?_ | refine And.intro (by omega) ?_ | refine d1 ?_ | refine d2 ?_ | refine d3 ?_ | refine d4 ?_ | refine go G178 400 hC (by kernel_rfl) ?_); (conv => whnf))))
      all_goals first
        | exact ⟨bad (by clear hC hn bad hc ha hr c1; (try clear c0 e0); simp_all [okR]), rfl, rfl⟩
        | exact halt ⟨i + 1, [], ⟨trivial, ⟨rfl, stepI (by omega), trivial⟩, trivial⟩, RO.le.refl _, ⟨hlt, allS hn (by clear hC hn bad hc ha hr c1; (try clear c0 e0); simp_all [okR]), rfl, rfl⟩, by omega⟩
    · iterate 4 (all_goals try ((refine ⟨fun _ => ?_, fun _ => ?_⟩) <;> ((try (conv => whnf)); repeat ((first | refine And.intro ?_ True.intro | refine And.intro ⟨by omega, by omega⟩ ?_ | refine ⟨_, (by assumption : RO.c _ _ _ = _), ?_⟩ | refine ⟨_, _, _, (by assumption : (_ : Option Obj) = _), ?_⟩ | refine ⟨_, _, _, (by assumption : RO.c _ _ _ = _), ?_⟩ | refine ⟨_, (by assumption : Row _ _ _ _), ?_⟩ | refine ⟨_, (by assumption : Cell _ _ _ _ _), ?_⟩ | refine ⟨_, _, _, (by assumption : Cell _ _ _ _ _), ?_⟩ | refine ⟨_, Or.inl (by assumption), ?_⟩ | refine ⟨_, _, _, Or.inl (by assumption), ?_⟩ | refine And.intro (ints_one _) ?_ | refine And.intro (by omega) ?_ | refine d1 ?_ | refine d2 ?_ | refine d3 ?_ | refine d4 ?_ | refine go G178 400 hC (by kernel_rfl) ?_); (conv => whnf)))))
      all_goals first
        | exact absurd (by simpa using ‹decide ((i : Int) > 0) = true›) h0
        | exact ⟨bad (by clear hC hn bad hc ha hr c1; (try clear c0 e0); simp_all [okR]), rfl, rfl⟩
        | exact halt ⟨i + 1, [], ⟨trivial, ⟨rfl, stepI (by omega), trivial⟩, trivial⟩, RO.le.refl _, ⟨hlt, allS hn (by clear hC hn bad hc ha hr c1; (try clear c0 e0); simp_all [okR]), rfl, rfl⟩, by omega⟩
  · have hge : i = l.length := by simp at hge; omega
    ((try (conv => whnf)); repeat ((first | refine And.intro ?_ True.intro | refine And.intro ⟨by omega, by omega⟩ ?_ | refine ⟨_, (by assumption : RO.c _ _ _ = _), ?_⟩ | refine ⟨_, _, _, (by assumption : (_ : Option Obj) = _), ?_⟩ | refine ⟨_, _, _, (by assumption : RO.c _ _ _ = _), ?_⟩ | refine ⟨_, (by assumption : Row _ _ _ _), ?_⟩ | refine ⟨_, (by assumption : Cell _ _ _ _ _), ?_⟩ | refine ⟨_, _, _, (by assumption : Cell _ _ _ _ _), ?_⟩ | refine ⟨_, Or.inl (by assumption), ?_⟩ | refine ⟨_, _, _, Or.inl (by assumption), ?_⟩ | refine And.intro (ints_one _) ?_ | refine And.intro (by omega) ?_ | refine d1 ?_ | refine d2 ?_ | refine d3 ?_ | refine d4 ?_ | refine go G178 400 hC (by kernel_rfl) ?_); (conv => whnf)))
    exact ⟨by rw [rises, allN_true (hge ▸ hn)]; rfl, rfl, rfl⟩

def G92 : Gv := ⟨[], [], []⟩
theorem has09 {u : Value} {l : List Int} {x : Int} {h : RO} {m : Hp} (ha : IntS h u l) :
    Con Tryz.prog 92 [u, .int .i64 x] h m fun e h' m' => e = .returned (.bool (l.contains x)) ∧ h' = h ∧ m' = m := by
  obtain ⟨a, c, rfl, hr⟩ := ha.s
  have hla := ha.len
  refine fn_of (nt := 18) T Tryz.func92 rfl (by kernel_rfl) Tryz.ntmps92 (by simp) T_ok T_mixed fun C hC => ?_
  simp only [Tryz.f92, argFr, Nat.zero_add, Nat.reduceAdd] at hC ⊢
  ((try (conv => whnf)); repeat ((first | refine And.intro ?_ True.intro | refine And.intro ⟨by omega, by omega⟩ ?_ | refine ⟨_, (by assumption : RO.c _ _ _ = _), ?_⟩ | refine ⟨_, _, _, (by assumption : (_ : Option Obj) = _), ?_⟩ | refine ⟨_, _, _, (by assumption : RO.c _ _ _ = _), ?_⟩ | refine ⟨_, (by assumption : Row _ _ _ _), ?_⟩ | refine ⟨_, (by assumption : Cell _ _ _ _ _), ?_⟩ | refine ⟨_, _, _, (by assumption : Cell _ _ _ _ _), ?_⟩ | refine ⟨_, Or.inl (by assumption), ?_⟩ | refine ⟨_, _, _, Or.inl (by assumption), ?_⟩ | refine And.intro (ints_one _) ?_ | refine And.intro (by omega) ?_ | refine d1 ?_ | refine d2 ?_ | refine d3 ?_ | refine d4 ?_ | refine go G92 400 hC (by kernel_rfl) ?_); (conv => whnf)))
  refine halt (sx_loop (X := Nat) (fun i => [(0, .v (.slice a l.length c)), (1, .v (.int .i64 x)), (5, .v (.int .i64 i))]) (fun _ => [])
    (fun i h' m' => i ≤ l.length ∧ (∀ j, j < i → g l j ≠ x) ∧ h' = h ∧ m' = m) (fun i => l.length - i) 0 ⟨[], ?_⟩ ⟨by omega, by simp, rfl, rfl⟩ ?_)
  · exact ⟨trivial, ⟨rfl, rfl, rfl, trivial⟩, trivial⟩
  rintro i h' m' _ ⟨hi, hn, rfl, rfl⟩
  ((try (conv => whnf)); repeat ((first | refine And.intro ?_ True.intro | refine And.intro ⟨by omega, by omega⟩ ?_ | refine ⟨_, (by assumption : RO.c _ _ _ = _), ?_⟩ | refine ⟨_, _, _, (by assumption : (_ : Option Obj) = _), ?_⟩ | refine ⟨_, _, _, (by assumption : RO.c _ _ _ = _), ?_⟩ | refine ⟨_, (by assumption : Row _ _ _ _), ?_⟩ | refine ⟨_, (by assumption : Cell _ _ _ _ _), ?_⟩ | refine ⟨_, _, _, (by assumption : Cell _ _ _ _ _), ?_⟩ | refine ⟨_, Or.inl (by assumption), ?_⟩ | refine ⟨_, _, _, Or.inl (by assumption), ?_⟩ | refine And.intro (ints_one _) ?_ | refine And.intro (by omega) ?_ | refine d1 ?_ | refine d2 ?_ | refine d3 ?_ | refine d4 ?_ | refine go G92 400 hC (by kernel_rfl) ?_); (conv => whnf)))
  refine ⟨fun hlt => ?_, fun hge => ?_⟩
  · have hlt : i < l.length := by simpa using hlt
    obtain ⟨p, q, rfl, hc⟩ := ha.get hlt
    have c1 := hc i hlt
    ((try (conv => whnf)); repeat ((first | refine And.intro ?_ True.intro | refine And.intro ⟨by omega, by omega⟩ ?_ | refine ⟨_, (by assumption : RO.c _ _ _ = _), ?_⟩ | refine ⟨_, _, _, (by assumption : (_ : Option Obj) = _), ?_⟩ | refine ⟨_, _, _, (by assumption : RO.c _ _ _ = _), ?_⟩ | refine ⟨_, (by assumption : Row _ _ _ _), ?_⟩ | refine ⟨_, (by assumption : Cell _ _ _ _ _), ?_⟩ | refine ⟨_, _, _, (by assumption : Cell _ _ _ _ _), ?_⟩ | refine ⟨_, Or.inl (by assumption), ?_⟩ | refine ⟨_, _, _, Or.inl (by assumption), ?_⟩ | refine And.intro (ints_one _) ?_ | refine And.intro (by omega) ?_ | refine d1 ?_ | refine d2 ?_ | refine d3 ?_ | refine d4 ?_ | refine go G92 400 hC (by kernel_rfl) ?_); (conv => whnf)))
    refine ⟨fun he => ?_, fun he => ?_⟩
    · ((try (conv => whnf)); repeat ((first | refine And.intro ?_ True.intro | refine And.intro ⟨by omega, by omega⟩ ?_ | refine ⟨_, (by assumption : RO.c _ _ _ = _), ?_⟩ | refine ⟨_, _, _, (by assumption : (_ : Option Obj) = _), ?_⟩ | refine ⟨_, _, _, (by assumption : RO.c _ _ _ = _), ?_⟩ | refine ⟨_, (by assumption : Row _ _ _ _), ?_⟩ | refine ⟨_, (by assumption : Cell _ _ _ _ _), ?_⟩ | refine ⟨_, _, _, (by assumption : Cell _ _ _ _ _), ?_⟩ | refine ⟨_, Or.inl (by assumption), ?_⟩ | refine ⟨_, _, _, Or.inl (by assumption), ?_⟩ | refine And.intro (ints_one _) ?_ | refine And.intro (by omega) ?_ | refine d1 ?_ | refine d2 ?_ | refine d3 ?_ | refine d4 ?_ | refine go G92 400 hC (by kernel_rfl) ?_); (conv => whnf)))
      have he : g l i = x := by simpa using he
      exact ⟨by rw [show l.contains x = true by simpa using he ▸ g_mem hlt]; rfl, rfl, rfl⟩
    · ((try (conv => whnf)); repeat ((first | refine And.intro ?_ True.intro | refine And.intro ⟨by omega, by omega⟩ ?_ | refine ⟨_, (by assumption : RO.c _ _ _ = _), ?_⟩ | refine ⟨_, _, _, (by assumption : (_ : Option Obj) = _), ?_⟩ | refine ⟨_, _, _, (by assumption : RO.c _ _ _ = _), ?_⟩ | refine ⟨_, (by assumption : Row _ _ _ _), ?_⟩ | refine ⟨_, (by assumption : Cell _ _ _ _ _), ?_⟩ | refine ⟨_, _, _, (by assumption : Cell _ _ _ _ _), ?_⟩ | refine ⟨_, Or.inl (by assumption), ?_⟩ | refine ⟨_, _, _, Or.inl (by assumption), ?_⟩ | refine And.intro (ints_one _) ?_ | refine And.intro (by omega) ?_ | refine d1 ?_ | refine d2 ?_ | refine d3 ?_ | refine d4 ?_ | refine go G92 400 hC (by kernel_rfl) ?_); (conv => whnf)))
      have he : g l i ≠ x := by simpa using he
      refine halt ⟨i + 1, [], ⟨trivial, ⟨rfl, rfl, stepI (by omega), trivial⟩, trivial⟩, RO.le.refl _, ⟨hlt, fun j hj => ?_, rfl, rfl⟩, by omega⟩
      by_cases e : j = i
      · exact e ▸ he
      · exact hn j (by omega)
  · have hge : i = l.length := by simp at hge; omega
    ((try (conv => whnf)); repeat ((first | refine And.intro ?_ True.intro | refine And.intro ⟨by omega, by omega⟩ ?_ | refine ⟨_, (by assumption : RO.c _ _ _ = _), ?_⟩ | refine ⟨_, _, _, (by assumption : (_ : Option Obj) = _), ?_⟩ | refine ⟨_, _, _, (by assumption : RO.c _ _ _ = _), ?_⟩ | refine ⟨_, (by assumption : Row _ _ _ _), ?_⟩ | refine ⟨_, (by assumption : Cell _ _ _ _ _), ?_⟩ | refine ⟨_, _, _, (by assumption : Cell _ _ _ _ _), ?_⟩ | refine ⟨_, Or.inl (by assumption), ?_⟩ | refine ⟨_, _, _, Or.inl (by assumption), ?_⟩ | refine And.intro (ints_one _) ?_ | refine And.intro (by omega) ?_ | refine d1 ?_ | refine d2 ?_ | refine d3 ?_ | refine d4 ?_ | refine go G92 400 hC (by kernel_rfl) ?_); (conv => whnf)))
    have : l.contains x = false := by
      simp only [List.contains_eq_mem, decide_eq_false_iff_not]
      intro hx
      obtain ⟨j, hj, e⟩ := List.getElem_of_mem hx
      exact hn j (by omega) (by simp [g, hj, e])
    exact ⟨by rw [this]; rfl, rfl, rfl⟩

def G90 : Gv := ⟨[], [], []⟩
theorem has03 {u : Value} {l : List Int} {x : Int} {h : RO} {m : Hp} (ha : IntS h u l) :
    Con Tryz.prog 90 [u, .int .i64 x] h m fun e h' m' => e = .returned (.bool (l.contains x)) ∧ h' = h ∧ m' = m := by
  obtain ⟨a, c, rfl, hr⟩ := ha.s
  have hla := ha.len
  refine fn_of (nt := 18) T Tryz.func90 rfl (by kernel_rfl) Tryz.ntmps90 (by simp) T_ok T_mixed fun C hC => ?_
  simp only [Tryz.f90, argFr, Nat.zero_add, Nat.reduceAdd] at hC ⊢
  ((try (conv => whnf)); repeat ((first | refine And.intro ?_ True.intro | refine And.intro ⟨by omega, by omega⟩ ?_ | refine ⟨_, (by assumption : RO.c _ _ _ = _), ?_⟩ | refine ⟨_, _, _, (by assumption : (_ : Option Obj) = _), ?_⟩ | refine ⟨_, _, _, (by assumption : RO.c _ _ _ = _), ?_⟩ | refine ⟨_, (by assumption : Row _ _ _ _), ?_⟩ | refine ⟨_, (by assumption : Cell _ _ _ _ _), ?_⟩ | refine ⟨_, _, _, (by assumption : Cell _ _ _ _ _), ?_⟩ | refine ⟨_, Or.inl (by assumption), ?_⟩ | refine ⟨_, _, _, Or.inl (by assumption), ?_⟩ | refine And.intro (ints_one _) ?_ | refine And.intro (by omega) ?_ | refine d1 ?_ | refine d2 ?_ | refine d3 ?_ | refine d4 ?_ | refine go G90 400 hC (by kernel_rfl) ?_); (conv => whnf)))
  refine halt (sx_loop (X := Nat) (fun i => [(0, .v (.slice a l.length c)), (1, .v (.int .i64 x)), (5, .v (.int .i64 i))]) (fun _ => [])
    (fun i h' m' => i ≤ l.length ∧ (∀ j, j < i → g l j ≠ x) ∧ h' = h ∧ m' = m) (fun i => l.length - i) 0 ⟨[], ?_⟩ ⟨by omega, by simp, rfl, rfl⟩ ?_)
  · exact ⟨trivial, ⟨rfl, rfl, rfl, trivial⟩, trivial⟩
  rintro i h' m' _ ⟨hi, hn, rfl, rfl⟩
  ((try (conv => whnf)); repeat ((first | refine And.intro ?_ True.intro | refine And.intro ⟨by omega, by omega⟩ ?_ | refine ⟨_, (by assumption : RO.c _ _ _ = _), ?_⟩ | refine ⟨_, _, _, (by assumption : (_ : Option Obj) = _), ?_⟩ | refine ⟨_, _, _, (by assumption : RO.c _ _ _ = _), ?_⟩ | refine ⟨_, (by assumption : Row _ _ _ _), ?_⟩ | refine ⟨_, (by assumption : Cell _ _ _ _ _), ?_⟩ | refine ⟨_, _, _, (by assumption : Cell _ _ _ _ _), ?_⟩ | refine ⟨_, Or.inl (by assumption), ?_⟩ | refine ⟨_, _, _, Or.inl (by assumption), ?_⟩ | refine And.intro (ints_one _) ?_ | refine And.intro (by omega) ?_ | refine d1 ?_ | refine d2 ?_ | refine d3 ?_ | refine d4 ?_ | refine go G90 400 hC (by kernel_rfl) ?_); (conv => whnf)))
  refine ⟨fun hlt => ?_, fun hge => ?_⟩
  · have hlt : i < l.length := by simpa using hlt
    obtain ⟨p, q, rfl, hc⟩ := ha.get hlt
    have c1 := hc i hlt
    ((try (conv => whnf)); repeat ((first | refine And.intro ?_ True.intro | refine And.intro ⟨by omega, by omega⟩ ?_ | refine ⟨_, (by assumption : RO.c _ _ _ = _), ?_⟩ | refine ⟨_, _, _, (by assumption : (_ : Option Obj) = _), ?_⟩ | refine ⟨_, _, _, (by assumption : RO.c _ _ _ = _), ?_⟩ | refine ⟨_, (by assumption : Row _ _ _ _), ?_⟩ | refine ⟨_, (by assumption : Cell _ _ _ _ _), ?_⟩ | refine ⟨_, _, _, (by assumption : Cell _ _ _ _ _), ?_⟩ | refine ⟨_, Or.inl (by assumption), ?_⟩ | refine ⟨_, _, _, Or.inl (by assumption), ?_⟩ | refine And.intro (ints_one _) ?_ | refine And.intro (by omega) ?_ | refine d1 ?_ | refine d2 ?_ | refine d3 ?_ | refine d4 ?_ | refine go G90 400 hC (by kernel_rfl) ?_); (conv => whnf)))
    refine ⟨fun he => ?_, fun he => ?_⟩
    · ((try (conv => whnf)); repeat ((first | refine And.intro ?_ True.intro | refine And.intro ⟨by omega, by omega⟩ ?_ | refine ⟨_, (by assumption : RO.c _ _ _ = _), ?_⟩ | refine ⟨_, _, _, (by assumption : (_ : Option Obj) = _), ?_⟩ | refine ⟨_, _, _, (by assumption : RO.c _ _ _ = _), ?_⟩ | refine ⟨_, (by assumption : Row _ _ _ _), ?_⟩ | refine ⟨_, (by assumption : Cell _ _ _ _ _), ?_⟩ | refine ⟨_, _, _, (by assumption : Cell _ _ _ _ _), ?_⟩ | refine ⟨_, Or.inl (by assumption), ?_⟩ | refine ⟨_, _, _, Or.inl (by assumption), ?_⟩ | refine And.intro (ints_one _) ?_ | refine And.intro (by omega) ?_ | refine d1 ?_ | refine d2 ?_ | refine d3 ?_ | refine d4 ?_ | refine go G90 400 hC (by kernel_rfl) ?_); (conv => whnf)))
      have he : g l i = x := by simpa using he
      exact ⟨by rw [show l.contains x = true by simpa using he ▸ g_mem hlt]; rfl, rfl, rfl⟩
    · ((try (conv => whnf)); repeat ((first | refine And.intro ?_ True.intro | refine And.intro ⟨by omega, by omega⟩ ?_ | refine ⟨_, (by assumption : RO.c _ _ _ = _), ?_⟩ | refine ⟨_, _, _, (by assumption : (_ : Option Obj) = _), ?_⟩ | refine ⟨_, _, _, (by assumption : RO.c _ _ _ = _), ?_⟩ | refine ⟨_, (by assumption : Row _ _ _ _), ?_⟩ | refine ⟨_, (by assumption : Cell _ _ _ _ _), ?_⟩ | refine ⟨_, _, _, (by assumption : Cell _ _ _ _ _), ?_⟩ | refine ⟨_, Or.inl (by assumption), ?_⟩ | refine ⟨_, _, _, Or.inl (by assumption), ?_⟩ | refine And.intro (ints_one _) ?_ | refine And.intro (by omega) ?_ | refine d1 ?_ | refine d2 ?_ | refine d3 ?_ | refine d4 ?_ | refine go G90 400 hC (by kernel_rfl) ?_); (conv => whnf)))
      have he : g l i ≠ x := by simpa using he
      refine halt ⟨i + 1, [], ⟨trivial, ⟨rfl, rfl, stepI (by omega), trivial⟩, trivial⟩, RO.le.refl _, ⟨hlt, fun j hj => ?_, rfl, rfl⟩, by omega⟩
      by_cases e : j = i
      · exact e ▸ he
      · exact hn j (by omega)
  · have hge : i = l.length := by simp at hge; omega
    ((try (conv => whnf)); repeat ((first | refine And.intro ?_ True.intro | refine And.intro ⟨by omega, by omega⟩ ?_ | refine ⟨_, (by assumption : RO.c _ _ _ = _), ?_⟩ | refine ⟨_, _, _, (by assumption : (_ : Option Obj) = _), ?_⟩ | refine ⟨_, _, _, (by assumption : RO.c _ _ _ = _), ?_⟩ | refine ⟨_, (by assumption : Row _ _ _ _), ?_⟩ | refine ⟨_, (by assumption : Cell _ _ _ _ _), ?_⟩ | refine ⟨_, _, _, (by assumption : Cell _ _ _ _ _), ?_⟩ | refine ⟨_, Or.inl (by assumption), ?_⟩ | refine ⟨_, _, _, Or.inl (by assumption), ?_⟩ | refine And.intro (ints_one _) ?_ | refine And.intro (by omega) ?_ | refine d1 ?_ | refine d2 ?_ | refine d3 ?_ | refine d4 ?_ | refine go G90 400 hC (by kernel_rfl) ?_); (conv => whnf)))
    have : l.contains x = false := by
      simp only [List.contains_eq_mem, decide_eq_false_iff_not]
      intro hx
      obtain ⟨j, hj, e⟩ := List.getElem_of_mem hx
      exact hn j (by omega) (by simp [g, hj, e])
    exact ⟨by rw [this]; rfl, rfl, rfl⟩

def G21 : Gv := ⟨[], [], [(6, .one 0 (.one 1 (.one 2 (.one 3 (.one 4 (.one 5 (.one 6 (.one 7 (.one 8 (.nil))))))))))]⟩
theorem same09 {u v : Value} {a b : List Int} {h : RO} {m : Hp} (ha : IntS h u a) (hb : IntS h v b) :
    Con Tryz.prog 21 [u, v] h m fun e h' m' => e = .returned (.bool (a == b)) ∧ h' = h ∧ m' = m := by
  obtain ⟨x, c, rfl, hr⟩ := ha.s
  obtain ⟨y, d, rfl, hs⟩ := hb.s
  have hla := ha.len
  refine fn_of (nt := 26) T Tryz.func21 rfl (by kernel_rfl) Tryz.ntmps21 (by simp) T_ok T_mixed fun C hC => ?_
  simp only [Tryz.f21, argFr, Nat.zero_add, Nat.reduceAdd] at hC ⊢
  ((try (conv => whnf)); repeat ((first | refine And.intro ?_ True.intro | refine And.intro ⟨by omega, by omega⟩ ?_ | refine ⟨_, (by assumption : RO.c _ _ _ = _), ?_⟩ | refine ⟨_, _, _, (by assumption : (_ : Option Obj) = _), ?_⟩ | refine ⟨_, _, _, (by assumption : RO.c _ _ _ = _), ?_⟩ | refine ⟨_, (by assumption : Row _ _ _ _), ?_⟩ | refine ⟨_, (by assumption : Cell _ _ _ _ _), ?_⟩ | refine ⟨_, _, _, (by assumption : Cell _ _ _ _ _), ?_⟩ | refine ⟨_, Or.inl (by assumption), ?_⟩ | refine ⟨_, _, _, Or.inl (by assumption), ?_⟩ | refine And.intro (ints_one _) ?_ | refine And.intro (by omega) ?_ | refine d1 ?_ | refine d2 ?_ | refine d3 ?_ | refine d4 ?_ | refine go G21 400 hC (by kernel_rfl) ?_); (conv => whnf)))
  refine ⟨fun hx => ?_, fun hx => ?_⟩
  · ((try (conv => whnf)); repeat ((first | refine And.intro ?_ True.intro | refine And.intro ⟨by omega, by omega⟩ ?_ | refine ⟨_, (by assumption : RO.c _ _ _ = _), ?_⟩ | refine ⟨_, _, _, (by assumption : (_ : Option Obj) = _), ?_⟩ | refine ⟨_, _, _, (by assumption : RO.c _ _ _ = _), ?_⟩ | refine ⟨_, (by assumption : Row _ _ _ _), ?_⟩ | refine ⟨_, (by assumption : Cell _ _ _ _ _), ?_⟩ | refine ⟨_, _, _, (by assumption : Cell _ _ _ _ _), ?_⟩ | refine ⟨_, Or.inl (by assumption), ?_⟩ | refine ⟨_, _, _, Or.inl (by assumption), ?_⟩ | refine And.intro (ints_one _) ?_ | refine And.intro (by omega) ?_ | refine d1 ?_ | refine d2 ?_ | refine d3 ?_ | refine d4 ?_ | refine go G21 400 hC (by kernel_rfl) ?_); (conv => whnf)))
    have hx : a.length ≠ b.length := by simp at hx; omega
    exact ⟨by rw [show (a == b) = false by simp; exact fun e => hx (by rw [e])]; rfl, rfl, rfl⟩
  have hl : a.length = b.length := by simp at hx; omega
  ((try (conv => whnf)); repeat ((first | refine And.intro ?_ True.intro | refine And.intro ⟨by omega, by omega⟩ ?_ | refine ⟨_, (by assumption : RO.c _ _ _ = _), ?_⟩ | refine ⟨_, _, _, (by assumption : (_ : Option Obj) = _), ?_⟩ | refine ⟨_, _, _, (by assumption : RO.c _ _ _ = _), ?_⟩ | refine ⟨_, (by assumption : Row _ _ _ _), ?_⟩ | refine ⟨_, (by assumption : Cell _ _ _ _ _), ?_⟩ | refine ⟨_, _, _, (by assumption : Cell _ _ _ _ _), ?_⟩ | refine ⟨_, Or.inl (by assumption), ?_⟩ | refine ⟨_, _, _, Or.inl (by assumption), ?_⟩ | refine And.intro (ints_one _) ?_ | refine And.intro (by omega) ?_ | refine d1 ?_ | refine d2 ?_ | refine d3 ?_ | refine d4 ?_ | refine go G21 400 hC (by kernel_rfl) ?_); (conv => whnf)))
  refine halt (sx_loop (X := Nat) (fun i => [(0, .v (.slice x a.length c)), (1, .v (.slice y b.length d)), (5, .v (.int .i64 i))]) (fun _ => [])
    (fun i h' m' => i ≤ a.length ∧ (∀ j, j < i → g a j = g b j) ∧ h' = h ∧ m' = m) (fun i => a.length - i) 0 ⟨[], ?_⟩ ⟨by omega, by simp, rfl, rfl⟩ ?_)
  · exact ⟨trivial, ⟨rfl, rfl, rfl, trivial⟩, trivial⟩
  rintro i h' m' _ ⟨hi, hn, rfl, rfl⟩
  ((try (conv => whnf)); repeat ((first | refine And.intro ?_ True.intro | refine And.intro ⟨by omega, by omega⟩ ?_ | refine ⟨_, (by assumption : RO.c _ _ _ = _), ?_⟩ | refine ⟨_, _, _, (by assumption : (_ : Option Obj) = _), ?_⟩ | refine ⟨_, _, _, (by assumption : RO.c _ _ _ = _), ?_⟩ | refine ⟨_, (by assumption : Row _ _ _ _), ?_⟩ | refine ⟨_, (by assumption : Cell _ _ _ _ _), ?_⟩ | refine ⟨_, _, _, (by assumption : Cell _ _ _ _ _), ?_⟩ | refine ⟨_, Or.inl (by assumption), ?_⟩ | refine ⟨_, _, _, Or.inl (by assumption), ?_⟩ | refine And.intro (ints_one _) ?_ | refine And.intro (by omega) ?_ | refine d1 ?_ | refine d2 ?_ | refine d3 ?_ | refine d4 ?_ | refine go G21 400 hC (by kernel_rfl) ?_); (conv => whnf)))
  refine ⟨fun hlt => ?_, fun hge => ?_⟩
  · have hlt : i < a.length := by simpa using hlt
    have hlt' : i < b.length := hl ▸ hlt
    obtain ⟨p, q, rfl, hc⟩ := ha.get hlt
    obtain ⟨p', q', rfl, hd⟩ := hb.get hlt'
    have c1 := hc i hlt
    have c2 := hd i hlt'
    ((try (conv => whnf)); repeat ((first | refine And.intro ?_ True.intro | refine And.intro ⟨by omega, by omega⟩ ?_ | refine ⟨_, (by assumption : RO.c _ _ _ = _), ?_⟩ | refine ⟨_, _, _, (by assumption : (_ : Option Obj) = _), ?_⟩ | refine ⟨_, _, _, (by assumption : RO.c _ _ _ = _), ?_⟩ | refine ⟨_, (by assumption : Row _ _ _ _), ?_⟩ | refine ⟨_, (by assumption : Cell _ _ _ _ _), ?_⟩ | refine ⟨_, _, _, (by assumption : Cell _ _ _ _ _), ?_⟩ | refine ⟨_, Or.inl (by assumption), ?_⟩ | refine ⟨_, _, _, Or.inl (by assumption), ?_⟩ | refine And.intro (ints_one _) ?_ | refine And.intro (by omega) ?_ | refine d1 ?_ | refine d2 ?_ | refine d3 ?_ | refine d4 ?_ | refine go G21 400 hC (by kernel_rfl) ?_); (conv => whnf)))
    refine ⟨fun he => ?_, fun he => ?_⟩
    · ((try (conv => whnf)); repeat ((first | refine And.intro ?_ True.intro | refine And.intro ⟨by omega, by omega⟩ ?_ | refine ⟨_, (by assumption : RO.c _ _ _ = _), ?_⟩ | refine ⟨_, _, _, (by assumption : (_ : Option Obj) = _), ?_⟩ | refine ⟨_, _, _, (by assumption : RO.c _ _ _ = _), ?_⟩ | refine ⟨_, (by assumption : Row _ _ _ _), ?_⟩ | refine ⟨_, (by assumption : Cell _ _ _ _ _), ?_⟩ | refine ⟨_, _, _, (by assumption : Cell _ _ _ _ _), ?_⟩ | refine ⟨_, Or.inl (by assumption), ?_⟩ | refine ⟨_, _, _, Or.inl (by assumption), ?_⟩ | refine And.intro (ints_one _) ?_ | refine And.intro (by omega) ?_ | refine d1 ?_ | refine d2 ?_ | refine d3 ?_ | refine d4 ?_ | refine go G21 400 hC (by kernel_rfl) ?_); (conv => whnf)))
      have he : g a i ≠ g b i := by simpa using he
      exact ⟨by rw [show (a == b) = false by simp; exact fun e => he (by rw [e])]; rfl, rfl, rfl⟩
    · ((try (conv => whnf)); repeat ((first | refine And.intro ?_ True.intro | refine And.intro ⟨by omega, by omega⟩ ?_ | refine ⟨_, (by assumption : RO.c _ _ _ = _), ?_⟩ | refine ⟨_, _, _, (by assumption : (_ : Option Obj) = _), ?_⟩ | refine ⟨_, _, _, (by assumption : RO.c _ _ _ = _), ?_⟩ | refine ⟨_, (by assumption : Row _ _ _ _), ?_⟩ | refine ⟨_, (by assumption : Cell _ _ _ _ _), ?_⟩ | refine ⟨_, _, _, (by assumption : Cell _ _ _ _ _), ?_⟩ | refine ⟨_, Or.inl (by assumption), ?_⟩ | refine ⟨_, _, _, Or.inl (by assumption), ?_⟩ | refine And.intro (ints_one _) ?_ | refine And.intro (by omega) ?_ | refine d1 ?_ | refine d2 ?_ | refine d3 ?_ | refine d4 ?_ | refine go G21 400 hC (by kernel_rfl) ?_); (conv => whnf)))
      have he : g a i = g b i := by simpa using he
      refine halt ⟨i + 1, [], ⟨trivial, ⟨rfl, rfl, stepI (by omega), trivial⟩, trivial⟩, RO.le.refl _, ⟨hlt, fun j hj => ?_, rfl, rfl⟩, by omega⟩
      by_cases e : j = i
      · exact e ▸ he
      · exact hn j (by omega)
  · have hge : i = a.length := by simp at hge; omega
    ((try (conv => whnf)); repeat ((first | refine And.intro ?_ True.intro | refine And.intro ⟨by omega, by omega⟩ ?_ | refine ⟨_, (by assumption : RO.c _ _ _ = _), ?_⟩ | refine ⟨_, _, _, (by assumption : (_ : Option Obj) = _), ?_⟩ | refine ⟨_, _, _, (by assumption : RO.c _ _ _ = _), ?_⟩ | refine ⟨_, (by assumption : Row _ _ _ _), ?_⟩ | refine ⟨_, (by assumption : Cell _ _ _ _ _), ?_⟩ | refine ⟨_, _, _, (by assumption : Cell _ _ _ _ _), ?_⟩ | refine ⟨_, Or.inl (by assumption), ?_⟩ | refine ⟨_, _, _, Or.inl (by assumption), ?_⟩ | refine And.intro (ints_one _) ?_ | refine And.intro (by omega) ?_ | refine d1 ?_ | refine d2 ?_ | refine d3 ?_ | refine d4 ?_ | refine go G21 400 hC (by kernel_rfl) ?_); (conv => whnf)))
    have : a = b := g_ext hl fun j hj => hn j (by omega)
    exact ⟨by rw [this]; simp; rfl, rfl, rfl⟩

end Go.Proofs.YtoefoaabnjeofaaGreat
namespace Go.Proofs.YtoefoaabnjeofaaGreat
open Go.SX
set_option maxHeartbeats 2000000
set_option maxRecDepth 20000

def okP (b a : List Int) (i : Nat) : Bool := b.contains (g a i)
def part (a b : List Int) : Bool := allN a.length (okP b a)
def G23 : Gv := ⟨[], [], []⟩
theorem part03 {u v : Value} {a b : List Int} {h : RO} {m : Hp} (ha : IntS h u a) (hb : IntS h v b) :
    Con Tryz.prog 23 [u, v] h m fun e h' m' => e = .returned (.bool (part a b)) ∧ h' = h ∧ m' = m := by
  obtain ⟨x, c, rfl, hr⟩ := ha.s
  obtain ⟨y, d, rfl, hs⟩ := hb.s
  have hla := ha.len
  refine fn_of (nt := 19) T Tryz.func23 rfl (by kernel_rfl) Tryz.ntmps23 (by simp) T_ok T_mixed fun C hC => ?_
  simp only [Tryz.f23, argFr, Nat.zero_add, Nat.reduceAdd] at hC ⊢
  ((try (conv => whnf)); repeat ((first | refine And.intro ?_ True.intro | refine And.intro ⟨by omega, by omega⟩ ?_ | refine ⟨_, (by assumption : RO.c _ _ _ = _), ?_⟩ | refine ⟨_, _, _, (by assumption : (_ : Option Obj) = _), ?_⟩ | refine ⟨_, _, _, (by assumption : RO.c _ _ _ = _), ?_⟩ | refine ⟨_, (by assumption : Row _ _ _ _), ?_⟩ | refine ⟨_, (by assumption : Cell _ _ _ _ _), ?_⟩ | refine ⟨_, _, _, (by assumption : Cell _ _ _ _ _), ?_⟩ | refine ⟨_, Or.inl (by assumption), ?_⟩ | refine ⟨_, _, _, Or.inl (by assumption), ?_⟩ | refine And.intro (ints_one _) ?_ | refine And.intro (by omega) ?_ | refine d1 ?_ | refine d2 ?_ | refine d3 ?_ | refine d4 ?_ | refine go G23 400 hC (by kernel_rfl) ?_); (conv => whnf)))
  refine halt (sx_loop (X := Nat) (fun i => [(0, .v (.slice x a.length c)), (1, .v (.slice y b.length d)), (5, .v (.int .i64 i))]) (fun _ => [])
    (fun i h' m' => i ≤ a.length ∧ (∀ j, j < i → okP b a j = true) ∧ h' = h ∧ m' = m) (fun i => a.length - i) 0 ⟨[], ?_⟩ ⟨by omega, by simp, rfl, rfl⟩ ?_)
  · exact ⟨trivial, ⟨rfl, rfl, rfl, trivial⟩, trivial⟩
  rintro i h' m' _ ⟨hi, hn, rfl, rfl⟩
  ((try (conv => whnf)); repeat ((first | refine And.intro ?_ True.intro | refine And.intro ⟨by omega, by omega⟩ ?_ | refine ⟨_, (by assumption : RO.c _ _ _ = _), ?_⟩ | refine ⟨_, _, _, (by assumption : (_ : Option Obj) = _), ?_⟩ | refine ⟨_, _, _, (by assumption : RO.c _ _ _ = _), ?_⟩ | refine ⟨_, (by assumption : Row _ _ _ _), ?_⟩ | refine ⟨_, (by assumption : Cell _ _ _ _ _), ?_⟩ | refine ⟨_, _, _, (by assumption : Cell _ _ _ _ _), ?_⟩ | refine ⟨_, Or.inl (by assumption), ?_⟩ | refine ⟨_, _, _, Or.inl (by assumption), ?_⟩ | refine And.intro (ints_one _) ?_ | refine And.intro (by omega) ?_ | refine d1 ?_ | refine d2 ?_ | refine d3 ?_ | refine d4 ?_ | refine go G23 400 hC (by kernel_rfl) ?_); (conv => whnf)))
  refine ⟨fun hlt => ?_, fun hge => ?_⟩
  · have hlt : i < a.length := by simpa using hlt
    obtain ⟨p, q, rfl, hc⟩ := ha.get hlt
    have c1 := hc i hlt
    ((try (conv => whnf)); repeat ((first | refine And.intro ?_ True.intro | refine And.intro ⟨by omega, by omega⟩ ?_ | refine ⟨_, (by assumption : RO.c _ _ _ = _), ?_⟩ | refine ⟨_, _, _, (by assumption : (_ : Option Obj) = _), ?_⟩ | refine ⟨_, _, _, (by assumption : RO.c _ _ _ = _), ?_⟩ | refine ⟨_, (by assumption : Row _ _ _ _), ?_⟩ | refine ⟨_, (by assumption : Cell _ _ _ _ _), ?_⟩ | refine ⟨_, _, _, (by assumption : Cell _ _ _ _ _), ?_⟩ | refine ⟨_, Or.inl (by assumption), ?_⟩ | refine ⟨_, _, _, Or.inl (by assumption), ?_⟩ | refine And.intro (ints_one _) ?_ | refine And.intro (by omega) ?_ | refine d1 ?_ | refine d2 ?_ | refine d3 ?_ | refine d4 ?_ | refine go G23 400 hC (by kernel_rfl) ?_); (conv => whnf)))
    (refine Con.mono (has03 hb) ?_; rintro _ _ _ - ⟨rfl, rfl, rfl⟩; ((try (conv => whnf)); repeat ((first | refine And.intro ?_ True.intro | refine And.intro ⟨by omega, by omega⟩ ?_ | refine ⟨_, (by assumption : RO.c _ _ _ = _), ?_⟩ | refine ⟨_, _, _, (by assumption : (_ : Option Obj) = _), ?_⟩ | refine ⟨_, _, _, (by assumption : RO.c _ _ _ = _), ?_⟩ | refine ⟨_, (by assumption : Row _ _ _ _), ?_⟩ | refine ⟨_, (by assumption : Cell _ _ _ _ _), ?_⟩ | refine ⟨_, _, _, (by assumption : Cell _ _ _ _ _), ?_⟩ | refine ⟨_, Or.inl (by assumption), ?_⟩ | refine ⟨_, _, _, Or.inl (by assumption), ?_⟩ | refine And.intro (ints_one _) ?_ | refine And.intro (by omega) ?_ | refine d1 ?_ | refine d2 ?_ | refine d3 ?_ | refine d4 ?_ | refine go G23 400 hC (by kernel_rfl) ?_); (conv => whnf))))
    refine ⟨fun he => ?_, fun he => ?_⟩
    · ((try (conv => whnf)); repeat ((first | refine And.intro ?_ True.intro | refine And.intro ⟨by omega, by omega⟩ ?_ | refine ⟨_, (by assumption : RO.c _ _ _ = _), ?_⟩ | refine ⟨_, _, _, (by assumption : (_ : Option Obj) = _), ?_⟩ | refine ⟨_, _, _, (by assumption : RO.c _ _ _ = _), ?_⟩ | refine ⟨_, (by assumption : Row _ _ _ _), ?_⟩ | refine ⟨_, (by assumption : Cell _ _ _ _ _), ?_⟩ | refine ⟨_, _, _, (by assumption : Cell _ _ _ _ _), ?_⟩ | refine ⟨_, Or.inl (by assumption), ?_⟩ | refine ⟨_, _, _, Or.inl (by assumption), ?_⟩ | refine And.intro (ints_one _) ?_ | refine And.intro (by omega) ?_ | refine d1 ?_ | refine d2 ?_ | refine d3 ?_ | refine d4 ?_ | refine go G23 400 hC (by kernel_rfl) ?_); (conv => whnf)))
      have he : b.contains (g a i) = false := by simpa using he
      exact ⟨by rw [part, allN_false hlt he]; rfl, rfl, rfl⟩
    · ((try (conv => whnf)); repeat ((first | refine And.intro ?_ True.intro | refine And.intro ⟨by omega, by omega⟩ ?_ | refine ⟨_, (by assumption : RO.c _ _ _ = _), ?_⟩ | refine ⟨_, _, _, (by assumption : (_ : Option Obj) = _), ?_⟩ | refine ⟨_, _, _, (by assumption : RO.c _ _ _ = _), ?_⟩ | refine ⟨_, (by assumption : Row _ _ _ _), ?_⟩ | refine ⟨_, (by assumption : Cell _ _ _ _ _), ?_⟩ | refine ⟨_, _, _, (by assumption : Cell _ _ _ _ _), ?_⟩ | refine ⟨_, Or.inl (by assumption), ?_⟩ | refine ⟨_, _, _, Or.inl (by assumption), ?_⟩ | refine And.intro (ints_one _) ?_ | refine And.intro (by omega) ?_ | refine d1 ?_ | refine d2 ?_ | refine d3 ?_ | refine d4 ?_ | refine go G23 400 hC (by kernel_rfl) ?_); (conv => whnf)))
      have he : b.contains (g a i) = true := by simpa using he
      exact halt ⟨i + 1, [], ⟨trivial, ⟨rfl, rfl, stepI (by omega), trivial⟩, trivial⟩, RO.le.refl _, ⟨hlt, allS hn he, rfl, rfl⟩, by omega⟩
  · have hge : i = a.length := by simp at hge; omega
    ((try (conv => whnf)); repeat ((first | refine And.intro ?_ True.intro | refine And.intro ⟨by omega, by omega⟩ ?_ | refine ⟨_, (by assumption : RO.c _ _ _ = _), ?_⟩ | refine ⟨_, _, _, (by assumption : (_ : Option Obj) = _), ?_⟩ | refine ⟨_, _, _, (by assumption : RO.c _ _ _ = _), ?_⟩ | refine ⟨_, (by assumption : Row _ _ _ _), ?_⟩ | refine ⟨_, (by assumption : Cell _ _ _ _ _), ?_⟩ | refine ⟨_, _, _, (by assumption : Cell _ _ _ _ _), ?_⟩ | refine ⟨_, Or.inl (by assumption), ?_⟩ | refine ⟨_, _, _, Or.inl (by assumption), ?_⟩ | refine And.intro (ints_one _) ?_ | refine And.intro (by omega) ?_ | refine d1 ?_ | refine d2 ?_ | refine d3 ?_ | refine d4 ?_ | refine go G23 400 hC (by kernel_rfl) ?_); (conv => whnf)))
    exact ⟨by rw [part, allN_true (hge ▸ hn)]; rfl, rfl, rfl⟩

def okW2 (vars : List Int) (l : List Int) (k : Nat) : Bool := vars.contains (abs64 (g l k))
def okW (vars : List Int) (ls : List (List Int)) (i : Nat) : Bool := allN (gl ls i).length (okW2 vars (gl ls i))
def within (ls : List (List Int)) (vars : List Int) : Bool := allN ls.length (okW vars ls)
def G180 : Gv := ⟨[], [], []⟩
theorem within03 {u v : Value} {ls : List (List Int)} {b : List Int} {h : RO} {m : Hp} (ha : LLS h u ls) (hb : IntS h v b) :
    Con Tryz.prog 180 [u, v] h m fun e h' m' => e = .returned (.bool (within ls b)) ∧ h' = h ∧ m' = m := by
  obtain ⟨x, c, rfl⟩ := ha.sl
  obtain ⟨y, d, rfl, hs⟩ := hb.s
  have hla := ha.len
  refine fn_of (nt := 33) T Tryz.func180 rfl (by kernel_rfl) Tryz.ntmps180 (by simp) T_ok T_mixed fun C hC => ?_
  simp only [Tryz.f180, argFr, Nat.zero_add, Nat.reduceAdd] at hC ⊢
  ((try (conv => whnf)); repeat ((first | refine And.intro ?_ True.intro | refine And.intro ⟨by omega, by omega⟩ ?_ | refine ⟨_, (by assumption : RO.c _ _ _ = _), ?_⟩ | refine ⟨_, _, _, (by assumption : (_ : Option Obj) = _), ?_⟩ | refine ⟨_, _, _, (by assumption : RO.c _ _ _ = _), ?_⟩ | refine ⟨_, (by assumption : Row _ _ _ _), ?_⟩ | refine ⟨_, (by assumption : Cell _ _ _ _ _), ?_⟩ | refine ⟨_, _, _, (by assumption : Cell _ _ _ _ _), ?_⟩ | refine ⟨_, Or.inl (by assumption), ?_⟩ | refine ⟨_, _, _, Or.inl (by assumption), ?_⟩ | refine And.intro (ints_one _) ?_ | refine And.intro (by omega) ?_ | refine d1 ?_ | refine d2 ?_ | refine d3 ?_ | refine d4 ?_ | refine go G180 400 hC (by kernel_rfl) ?_); (conv => whnf)))
  refine halt (sx_loop (X := Nat) (fun i => [(0, .v (.slice x ls.length c)), (1, .v (.slice y b.length d)), (5, .v (.int .i64 i))]) (fun _ => [])
    (fun i h' m' => i ≤ ls.length ∧ (∀ j, j < i → okW b ls j = true) ∧ h' = h ∧ m' = m) (fun i => ls.length - i) 0 ⟨[], ?_⟩ ⟨by omega, by simp, rfl, rfl⟩ ?_)
  · exact ⟨trivial, ⟨rfl, rfl, rfl, trivial⟩, trivial⟩
  rintro i h' m' _ ⟨hi, hn, rfl, rfl⟩
  ((try (conv => whnf)); repeat ((first | refine And.intro ?_ True.intro | refine And.intro ⟨by omega, by omega⟩ ?_ | refine ⟨_, (by assumption : RO.c _ _ _ = _), ?_⟩ | refine ⟨_, _, _, (by assumption : (_ : Option Obj) = _), ?_⟩ | refine ⟨_, _, _, (by assumption : RO.c _ _ _ = _), ?_⟩ | refine ⟨_, (by assumption : Row _ _ _ _), ?_⟩ | refine ⟨_, (by assumption : Cell _ _ _ _ _), ?_⟩ | refine ⟨_, _, _, (by assumption : Cell _ _ _ _ _), ?_⟩ | refine ⟨_, Or.inl (by assumption), ?_⟩ | refine ⟨_, _, _, Or.inl (by assumption), ?_⟩ | refine And.intro (ints_one _) ?_ | refine And.intro (by omega) ?_ | refine d1 ?_ | refine d2 ?_ | refine d3 ?_ | refine d4 ?_ | refine go G180 400 hC (by kernel_rfl) ?_); (conv => whnf)))
  refine ⟨fun hlt => ?_, fun hge => ?_⟩
  · have hlt : i < ls.length := by simpa using hlt
    obtain ⟨p, q, rfl, hc⟩ := ha.get hlt
    obtain ⟨a', c', c1, hi1⟩ := hc i hlt
    have hl2 := hi1.len
    ((try (conv => whnf)); repeat ((first | refine And.intro ?_ True.intro | refine And.intro ⟨by omega, by omega⟩ ?_ | refine ⟨_, (by assumption : RO.c _ _ _ = _), ?_⟩ | refine ⟨_, _, _, (by assumption : (_ : Option Obj) = _), ?_⟩ | refine ⟨_, _, _, (by assumption : RO.c _ _ _ = _), ?_⟩ | refine ⟨_, (by assumption : Row _ _ _ _), ?_⟩ | refine ⟨_, (by assumption : Cell _ _ _ _ _), ?_⟩ | refine ⟨_, _, _, (by assumption : Cell _ _ _ _ _), ?_⟩ | refine ⟨_, Or.inl (by assumption), ?_⟩ | refine ⟨_, _, _, Or.inl (by assumption), ?_⟩ | refine And.intro (ints_one _) ?_ | refine And.intro (by omega) ?_ | refine d1 ?_ | refine d2 ?_ | refine d3 ?_ | refine d4 ?_ | refine go G180 400 hC (by kernel_rfl) ?_); (conv => whnf)))
    refine halt (sx_loop (X := Nat) (fun k => [(0, .v (.slice (some ⟨p, q, none⟩) ls.length c)), (1, .v (.slice y b.length d)), (5, .v (.int .i64 i)), (6, .v (.int .i64 k))]) (fun _ => [])
      (fun k h'' m'' => k ≤ (gl ls i).length ∧ (∀ j, j < k → okW2 b (gl ls i) j = true) ∧ h'' = h' ∧ m'' = m') (fun k => (gl ls i).length - k) 0 ⟨[], ?_⟩ ⟨by omega, by simp, rfl, rfl⟩ ?_)
    · exact ⟨trivial, ⟨rfl, rfl, rfl, rfl, trivial⟩, trivial⟩
    rintro k h'' m'' _ ⟨hk, hn2, rfl, rfl⟩
    ((try (conv => whnf)); repeat ((first | refine And.intro ?_ True.intro | refine And.intro ⟨by omega, by omega⟩ ?_ | refine ⟨_, (by assumption : RO.c _ _ _ = _), ?_⟩ | refine ⟨_, _, _, (by assumption : (_ : Option Obj) = _), ?_⟩ | refine ⟨_, _, _, (by assumption : RO.c _ _ _ = _), ?_⟩ | refine ⟨_, (by assumption : Row _ _ _ _), ?_⟩ | refine ⟨_, (by assumption : Cell _ _ _ _ _), ?_⟩ | refine ⟨_, _, _, (by assumption : Cell _ _ _ _ _), ?_⟩ | refine ⟨_, Or.inl (by assumption), ?_⟩ | refine ⟨_, _, _, Or.inl (by assumption), ?_⟩ | refine And.intro (ints_one _) ?_ | refine And.intro (by omega) ?_ | refine d1 ?_ | refine d2 ?_ | refine d3 ?_ | refine d4 ?_ | refine go G180 400 hC (by kernel_rfl) ?_); (conv => whnf)))
    refine ⟨fun hlt2 => ?_, fun hge2 => ?_⟩
    · have hlt2 : k < (gl ls i).length := by simpa using hlt2
      obtain ⟨p2, q2, rfl, hc2⟩ := hi1.get hlt2
      have c2 := hc2 k hlt2
      ((try (conv => whnf)); repeat ((first | refine And.intro ?_ True.intro | refine And.intro ⟨by omega, by omega⟩ ?_ | refine ⟨_, (by assumption : RO.c _ _ _ = _), ?_⟩ | refine ⟨_, _, _, (by assumption : (_ : Option Obj) = _), ?_⟩ | refine ⟨_, _, _, (by assumption : RO.c _ _ _ = _), ?_⟩ | refine ⟨_, (by assumption : Row _ _ _ _), ?_⟩ | refine ⟨_, (by assumption : Cell _ _ _ _ _), ?_⟩ | refine ⟨_, _, _, (by assumption : Cell _ _ _ _ _), ?_⟩ | refine ⟨_, Or.inl (by assumption), ?_⟩ | refine ⟨_, _, _, Or.inl (by assumption), ?_⟩ | refine And.intro (ints_one _) ?_ | refine And.intro (by omega) ?_ | refine d1 ?_ | refine d2 ?_ | refine d3 ?_ | refine d4 ?_ | refine go G180 400 hC (by kernel_rfl) ?_); (conv => whnf)))
      (refine Con.mono (abs03) ?_; rintro _ _ _ - ⟨rfl, rfl, rfl⟩; ((try (conv => whnf)); repeat ((first | refine And.intro ?_ True.intro | refine And.intro ⟨by omega, by omega⟩ ?_ | refine ⟨_, (by assumption : RO.c _ _ _ = _), ?_⟩ | refine ⟨_, _, _, (by assumption : (_ : Option Obj) = _), ?_⟩ | refine ⟨_, _, _, (by assumption : RO.c _ _ _ = _), ?_⟩ | refine ⟨_, (by assumption : Row _ _ _ _), ?_⟩ | refine ⟨_, (by assumption : Cell _ _ _ _ _), ?_⟩ | refine ⟨_, _, _, (by assumption : Cell _ _ _ _ _), ?_⟩ | refine ⟨_, Or.inl (by assumption), ?_⟩ | refine ⟨_, _, _, Or.inl (by assumption), ?_⟩ | refine And.intro (ints_one _) ?_ | refine And.intro (by omega) ?_ | refine d1 ?_ | refine d2 ?_ | refine d3 ?_ | refine d4 ?_ | refine go G180 400 hC (by kernel_rfl) ?_); (conv => whnf))))
      (refine Con.mono (has03 hb) ?_; rintro _ _ _ - ⟨rfl, rfl, rfl⟩; ((try (conv => whnf)); repeat ((first | refine And.intro ?_ True.intro | refine And.intro ⟨by omega, by omega⟩ ?_ | refine ⟨_, (by assumption : RO.c _ _ _ = _), ?_⟩ | refine ⟨_, _, _, (by assumption : (_ : Option Obj) = _), ?_⟩ | refine ⟨_, _, _, (by assumption : RO.c _ _ _ = _), ?_⟩ | refine ⟨_, (by assumption : Row _ _ _ _), ?_⟩ | refine ⟨_, (by assumption : Cell _ _ _ _ _), ?_⟩ | refine ⟨_, _, _, (by assumption : Cell _ _ _ _ _), ?_⟩ | refine ⟨_, Or.inl (by assumption), ?_⟩ | refine ⟨_, _, _, Or.inl (by assumption), ?_⟩ | refine And.intro (ints_one _) ?_ | refine And.intro (by omega) ?_ | refine d1 ?_ | refine d2 ?_ | refine d3 ?_ | refine d4 ?_ | refine go G180 400 hC (by kernel_rfl) ?_); (conv => whnf))))
      refine ⟨fun he => ?_, fun he => ?_⟩
      · ((try (conv => whnf)); repeat ((first | refine And.intro ?_ True.intro | refine And.intro ⟨by omega, by omega⟩ ?_ | refine ⟨_, (by assumption : RO.c _ _ _ = _), ?_⟩ | refine ⟨_, _, _, (by assumption : (_ : Option Obj) = _), ?_⟩ | refine ⟨_, _, _, (by assumption : RO.c _ _ _ = _), ?_⟩ | refine ⟨_, (by assumption : Row _ _ _ _), ?_⟩ | refine ⟨_, (by assumption : Cell _ _ _ _ _), ?_⟩ | refine ⟨_, _, _, (by assumption : Cell _ _ _ _ _), ?_⟩ | refine ⟨_, Or.inl (by assumption), ?_⟩ | refine ⟨_, _, _, Or.inl (by assumption), ?_⟩ | refine And.intro (ints_one _) ?_ | refine And.intro (by omega) ?_ | refine d1 ?_ | refine d2 ?_ | refine d3 ?_ | refine d4 ?_ | refine go G180 400 hC (by kernel_rfl) ?_); (conv => whnf)))
        have he : okW2 b (gl ls i) k = false := by simpa [okW2] using he
        exact ⟨by rw [within, allN_false hlt (allN_false hlt2 he)]; rfl, rfl, rfl⟩
      · ((try (conv => whnf)); repeat ((first | refine And.intro ?_ True.intro | refine And.intro ⟨by omega, by omega⟩ ?_ | refine ⟨_, (by assumption : RO.c _ _ _ = _), ?_⟩ | refine ⟨_, _, _, (by assumption : (_ : Option Obj) = _), ?_⟩ | refine ⟨_, _, _, (by assumption : RO.c _ _ _ = _), ?_⟩ | refine ⟨_, (by assumption : Row _ _ _ _), ?_⟩ | refine ⟨_, (by assumption : Cell _ _ _ _ _), ?_⟩ | refine ⟨_, _, _, (by assumption : Cell _ _ _ _ _), ?_⟩ | refine ⟨_, Or.inl (by assumption), ?_⟩ | refine ⟨_, _, _, Or.inl (by assumption), ?_⟩ | refine And.intro (ints_one _) ?_ | refine And.intro (by omega) ?_ | refine d1 ?_ | refine d2 ?_ | refine d3 ?_ | refine d4 ?_ | refine go G180 400 hC (by kernel_rfl) ?_); (conv => whnf)))
        have he : okW2 b (gl ls i) k = true := by simpa [okW2] using he
        exact halt ⟨k + 1, [], ⟨trivial, ⟨rfl, rfl, rfl, stepI (by omega), trivial⟩, trivial⟩, RO.le.refl _, ⟨hlt2, allS hn2 he, rfl, rfl⟩, by omega⟩
    · have hge2 : k = (gl ls i).length := by simp at hge2; omega
      ((try (conv => whnf)); repeat ((first | refine And.intro ?_ True.intro | refine And.intro ⟨by omega, by omega⟩ ?_ | refine ⟨_, (by assumption : RO.c _ _ _ = _), ?_⟩ | refine ⟨_, _, _, (by assumption : (_ : Option Obj) = _), ?_⟩ | refine ⟨_, _, _, (by assumption : RO.c _ _ _ = _), ?_⟩ | refine ⟨_, (by assumption : Row _ _ _ _), ?_⟩ | refine ⟨_, (by assumption : Cell _ _ _ _ _), ?_⟩ | refine ⟨_, _, _, (by assumption : Cell _ _ _ _ _), ?_⟩ | refine ⟨_, Or.inl (by assumption), ?_⟩ | refine ⟨_, _, _, Or.inl (by assumption), ?_⟩ | refine And.intro (ints_one _) ?_ | refine And.intro (by omega) ?_ | refine d1 ?_ | refine d2 ?_ | refine d3 ?_ | refine d4 ?_ | refine go G180 400 hC (by kernel_rfl) ?_); (conv => whnf)))
      exact halt ⟨i + 1, [], ⟨trivial, ⟨rfl, rfl, stepI (by omega), trivial⟩, trivial⟩, RO.le.refl _, ⟨hlt, allS hn (allN_true (hge2 ▸ hn2)), rfl, rfl⟩, by omega⟩
  · have hge : i = ls.length := by simp at hge; omega
    ((try (conv => whnf)); repeat ((first | refine And.intro ?_ True.intro | refine And.intro ⟨by omega, by omega⟩ ?_ | refine ⟨_, (by assumption : RO.c _ _ _ = _), ?_⟩ | refine ⟨_, _, _, (by assumption : (_ : Option Obj) = _), ?_⟩ | refine ⟨_, _, _, (by assumption : RO.c _ _ _ = _), ?_⟩ | refine ⟨_, (by assumption : Row _ _ _ _), ?_⟩ | refine ⟨_, (by assumption : Cell _ _ _ _ _), ?_⟩ | refine ⟨_, _, _, (by assumption : Cell _ _ _ _ _), ?_⟩ | refine ⟨_, Or.inl (by assumption), ?_⟩ | refine ⟨_, _, _, Or.inl (by assumption), ?_⟩ | refine And.intro (ints_one _) ?_ | refine And.intro (by omega) ?_ | refine d1 ?_ | refine d2 ?_ | refine d3 ?_ | refine d4 ?_ | refine go G180 400 hC (by kernel_rfl) ?_); (conv => whnf)))
    exact ⟨by rw [within, allN_true (hge ▸ hn)]; rfl, rfl, rfl⟩

def okS (l : List Int) (i : Nat) : Bool := !(g l i < 1 || g l i > 65536 || (l.take i).contains (g l i))
def single (l : List Int) : Bool := allN l.length (okS l)
def G177 : Gv := ⟨[], [], [(4, .one 0 (.one 1 (.one 2 (.one 3 (.one 4 (.one 5 (.one 6 (.one 7 (.one 8 (.one 9 (.one 10 (.one 11 (.one 12 (.one 13 (.one 14 (.one 15 (.one 16 (.one 17 (.one 18 (.one 19 (.fork 20 (.one 21 (.nil)) .stop)))))))))))))))))))))]⟩
theorem single03 {u : Value} {l : List Int} {h : RO} {m : Hp} (ha : IntS h u l) :
    Con Tryz.prog 177 [u] h m fun e h' m' => e = .returned (.bool (single l)) ∧ h' = h ∧ m' = m := by
  obtain ⟨x, c, rfl, hr⟩ := ha.s
  have hla := ha.len
  have hcap := ha.cap
  refine fn_of (nt := 32) T Tryz.func177 rfl (by kernel_rfl) Tryz.ntmps177 (by simp) T_ok T_mixed fun C hC => ?_
  simp only [Tryz.f177, argFr, Nat.zero_add, Nat.reduceAdd] at hC ⊢
  ((try (conv => whnf)); repeat ((first | refine And.intro ?_ True.intro | refine And.intro ⟨by omega, by omega⟩ ?_ | refine ⟨_, (by assumption : RO.c _ _ _ = _), ?_⟩ | refine ⟨_, _, _, (by assumption : (_ : Option Obj) = _), ?_⟩ | refine ⟨_, _, _, (by assumption : RO.c _ _ _ = _), ?_⟩ | refine ⟨_, (by assumption : Row _ _ _ _), ?_⟩ | refine ⟨_, (by assumption : Cell _ _ _ _ _), ?_⟩ | refine ⟨_, _, _, (by assumption : Cell _ _ _ _ _), ?_⟩ | refine ⟨_, Or.inl (by assumption), ?_⟩ | refine ⟨_, _, _, Or.inl (by assumption), ?_⟩ | refine And.intro (ints_one _) ?_ | refine And.intro (by omega) ?_ | refine d1 ?_ | refine d2 ?_ | refine d3 ?_ | refine d4 ?_ | refine go G177 400 hC (by kernel_rfl) ?_); (conv => whnf)))
  refine halt (sx_loop (X := Nat) (fun i => [(0, .v (.slice x l.length c)), (3, .v (.int .i64 i))]) (fun _ => [])
    (fun i h' m' => i ≤ l.length ∧ (∀ j, j < i → okS l j = true) ∧ h' = h ∧ m' = m) (fun i => l.length - i) 0 ⟨[], ?_⟩ ⟨by omega, by simp, rfl, rfl⟩ ?_)
  · exact ⟨trivial, ⟨rfl, rfl, trivial⟩, trivial⟩
  rintro i h' m' _ ⟨hi, hn, rfl, rfl⟩
  ((try (conv => whnf)); repeat ((first | refine And.intro ?_ True.intro | refine And.intro ⟨by omega, by omega⟩ ?_ | refine ⟨_, (by assumption : RO.c _ _ _ = _), ?_⟩ | refine ⟨_, _, _, (by assumption : (_ : Option Obj) = _), ?_⟩ | refine ⟨_, _, _, (by assumption : RO.c _ _ _ = _), ?_⟩ | refine ⟨_, (by assumption : Row _ _ _ _), ?_⟩ | refine ⟨_, (by assumption : Cell _ _ _ _ _), ?_⟩ | refine ⟨_, _, _, (by assumption : Cell _ _ _ _ _), ?_⟩ | refine ⟨_, Or.inl (by assumption), ?_⟩ | refine ⟨_, _, _, Or.inl (by assumption), ?_⟩ | refine And.intro (ints_one _) ?_ | refine And.intro (by omega) ?_ | refine d1 ?_ | refine d2 ?_ | refine d3 ?_ | refine d4 ?_ | refine go G177 400 hC (by kernel_rfl) ?_); (conv => whnf)))
  refine ⟨fun hlt => ?_, fun hge => ?_⟩
  · have hlt : i < l.length := by simpa using hlt
    obtain ⟨p, q, rfl, hc⟩ := ha.get hlt
    have c1 := hc i hlt
    have ht := ha.take (i := i) (by omega)
    have bad : okS l i = false → Ending.returned (.bool false) = Ending.returned (.bool (single l)) := fun hb => by rw [single, allN_false hlt hb]
    ((try (conv => whnf)); repeat ((first | refine And.intro ?_ True.intro | refine And.intro ⟨by omega, by omega⟩ ?_ | refine ⟨_, (by assumption : RO.c _ _ _ = _), ?_⟩ | refine ⟨_, _, _, (by assumption : (_ : Option Obj) = _), ?_⟩ | refine ⟨_, _, _, (by assumption : RO.c _ _ _ = _), ?_⟩ | refine ⟨_, (by assumption : Row _ _ _ _), ?_⟩ | refine ⟨_, (by assumption : Cell _ _ _ _ _), ?_⟩ | refine ⟨_, _, _, (by assumption : Cell _ _ _ _ _), ?_⟩ | refine ⟨_, Or.inl (by assumption), ?_⟩ | refine ⟨_, _, _, Or.inl (by assumption), ?_⟩ | refine And.intro (ints_one _) ?_ | refine And.intro (by omega) ?_ | refine d1 ?_ | refine d2 ?_ | refine d3 ?_ | refine d4 ?_ | refine go G177 400 hC (by kernel_rfl) ?_); (conv => whnf)))
    iterate 3 (all_goals try ((refine ⟨fun _ => ?_, fun _ => ?_⟩) <;> ((try (conv => whnf)); repeat ((first | refine And.intro ?_ True.intro | refine And.intro ⟨by omega, by omega⟩ ?_ | refine ⟨_, (by assumption : RO.c _ _ _ = _), ?_⟩ | refine ⟨_, _, _, (by assumption : (_ : Option Obj) = _), ?_⟩ | refine ⟨_, _, _, (by assumption : RO.c _ _ _ = _), ?_⟩ | refine ⟨_, (by assumption : Row _ _ _ _), ?_⟩ | refine ⟨_, (by assumption : Cell _ _ _ _ _), ?_⟩ | refine ⟨_, _, _, (by assumption : Cell _ _ _ _ _), ?_⟩ | refine ⟨_, Or.inl (by assumption), ?_⟩ | refine ⟨_, _, _, Or.inl (by assumption), ?_⟩ | refine And.intro (ints_one _) ?_ | refine And.intro (by omega) ?_ | refine d1 ?_ | refine d2 ?_ | refine d3 ?_ | refine d4 ?_ | refine go G177 400 hC (by kernel_rfl) ?_); (conv => whnf)))))
    all_goals try (refine Con.mono (has03 ht) ?_; rintro _ _ _ - ⟨rfl, rfl, rfl⟩; ((try (conv => whnf)); repeat ((first | refine And.intro ?_ True.intro | refine And.intro ⟨by omega, by omega⟩ ?_ | refine ⟨_, (by assumption : RO.c _ _ _ = _), ?_⟩ | refine ⟨_, _, _, (by assumption : (_ : Option Obj) = _), ?_⟩ | refine ⟨_, _, _, (by assumption : RO.c _ _ _ = _), ?_⟩ | refine ⟨_, (by assumption : Row _ _ _ _), ?_⟩ | refine ⟨_, (by assumption : Cell _ _ _ _ _), ?_⟩ | refine ⟨_, _, _, (by assumption : Cell _ _ _ _ _), ?_⟩ | refine ⟨_, Or.inl (by assumption), ?_⟩ | refine ⟨_, _, _, Or.inl (by assumption), ?_⟩ | refine And.intro (ints_one _) ?_ | refine And.intro (by omega) ?_ | refine d1 ?_ | refine d2 ?_ | refine d3 ?_ | refine d4 ?_ | refine go G177 400 hC (by kernel_rfl) ?_); (conv => whnf))))
    all_goals try ((refine ⟨fun _ => ?_, fun _ => ?_⟩) <;> ((try (conv => whnf)); repeat ((first | refine And.intro ?_ True.intro | refine And.intro ⟨by omega, by omega⟩ ?_ | refine ⟨_, (by assumption : RO.c _ _ _ = _), ?_⟩ | refine ⟨_, _, _, (by assumption : (_ : Option Obj) = _), ?_⟩ | refine ⟨_, _, _, (by assumption : RO.c _ _ _ = _), ?_⟩ | refine ⟨_, (by assumption : Row _ _ _ _), ?_⟩ | refine ⟨_, (by assumption : Cell _ _ _ _ _), ?_⟩ | refine ⟨_, _, _, (by assumption : Cell _ _ _ _ _), ?_⟩ | refine ⟨_, Or.inl (by assumption), ?_⟩ | refine ⟨_, _, _, Or.inl (by assumption), ?_⟩ | refine And.intro (ints_one _) ?_ | refine And.intro (by omega) ?_ | refine d1 ?_ | refine d2 ?_ | refine d3 ?_ | refine d4 ?_ | refine go G177 400 hC (by kernel_rfl) ?_); (conv => whnf))))
    all_goals first
      | exact ⟨bad (by clear hC hn bad hc ha hr c1 ht; simp_all [okS]), rfl, rfl⟩
      | exact halt ⟨i + 1, [], ⟨trivial, ⟨rfl, stepI (by omega), trivial⟩, trivial⟩, RO.le.refl _, ⟨hlt, allS hn (by clear hC hn bad hc ha hr c1 ht; simp_all [okS]), rfl, rfl⟩, by omega⟩
  · have hge : i = l.length := by simp at hge; omega
    ((try (conv => whnf)); repeat ((first | refine And.intro ?_ True.intro | refine And.intro ⟨by omega, by omega⟩ ?_ | refine ⟨_, (by assumption : RO.c _ _ _ = _), ?_⟩ | refine ⟨_, _, _, (by assumption : (_ : Option Obj) = _), ?_⟩ | refine ⟨_, _, _, (by assumption : RO.c _ _ _ = _), ?_⟩ | refine ⟨_, (by assumption : Row _ _ _ _), ?_⟩ | refine ⟨_, (by assumption : Cell _ _ _ _ _), ?_⟩ | refine ⟨_, _, _, (by assumption : Cell _ _ _ _ _), ?_⟩ | refine ⟨_, Or.inl (by assumption), ?_⟩ | refine ⟨_, _, _, Or.inl (by assumption), ?_⟩ | refine And.intro (ints_one _) ?_ | refine And.intro (by omega) ?_ | refine d1 ?_ | refine d2 ?_ | refine d3 ?_ | refine d4 ?_ | refine go G177 400 hC (by kernel_rfl) ?_); (conv => whnf)))
    exact ⟨by rw [single, allN_true (hge ▸ hn)]; rfl, rfl, rfl⟩
end Go.Proofs.YtoefoaabnjeofaaGreat
namespace Go.Proofs.YtoefoaabnjeofaaGreat
open Go.SX
set_option maxHeartbeats 2000000
set_option maxRecDepth 20000

/-- The variables of a Dqbf. -/
def allV (univ : List Int) (ex : List (Int × List Int)) : List Int := univ ++ ex.map (·.1)
def G176 : Gv := ⟨[], [], []⟩
theorem all03 {u v w : Value} {univ : List Int} {ex : List (Int × List Int)} {h : RO} {m : Hp} (ha : IntS h u univ) (hb : DepS h v ex) (hl : univ.length + ex.length ≤ 1000000000) :
    Con Tryz.prog 176 [.agg #[u, v, w]] h m fun e h' m' => (∃ s, e = .returned s ∧ IntS h' s (allV univ ex)) ∧ m' = m := by
  obtain ⟨x, c, rfl, hr⟩ := ha.s
  obtain ⟨y, d, rfl⟩ := hb.sl
  have hla := ha.len
  have hlb := hb.len
  refine fn_of (nt := 26) T Tryz.func176 rfl (by kernel_rfl) Tryz.ntmps176 (by simp) T_ok T_mixed fun C hC => ?_
  simp only [Tryz.f176, argFr, Nat.zero_add, Nat.reduceAdd] at hC ⊢
  ((try (conv => whnf)); repeat ((first | refine And.intro ?_ True.intro | refine And.intro ⟨by omega, by omega⟩ ?_ | refine ⟨_, (by assumption : RO.c _ _ _ = _), ?_⟩ | refine ⟨_, _, _, (by assumption : (_ : Option Obj) = _), ?_⟩ | refine ⟨_, _, _, (by assumption : RO.c _ _ _ = _), ?_⟩ | refine ⟨_, (by assumption : Row _ _ _ _), ?_⟩ | refine ⟨_, (by assumption : Cell _ _ _ _ _), ?_⟩ | refine ⟨_, _, _, (by assumption : Cell _ _ _ _ _), ?_⟩ | refine ⟨_, Or.inl (by assumption), ?_⟩ | refine ⟨_, _, _, Or.inl (by assumption), ?_⟩ | refine And.intro (ints_one _) ?_ | refine And.intro (by omega) ?_ | refine d1 ?_ | refine d2 ?_ | refine d3 ?_ | refine d4 ?_ | refine go G176 400 hC (by kernel_rfl) ?_); (conv => whnf)))
  refine ⟨by show (0 + univ.length) * 8 ≤ 140737488355328; omega, fun a1 c1 h1 hle1 hrow1 => ?_⟩
  change Row h1 1 (.slice a1 (0 + univ.length) c1) ([] ++ ints univ) at hrow1
  ((try (conv => whnf)); repeat ((first | refine And.intro ?_ True.intro | refine And.intro ⟨by omega, by omega⟩ ?_ | refine ⟨_, (by assumption : RO.c _ _ _ = _), ?_⟩ | refine ⟨_, _, _, (by assumption : (_ : Option Obj) = _), ?_⟩ | refine ⟨_, _, _, (by assumption : RO.c _ _ _ = _), ?_⟩ | refine ⟨_, (by assumption : Row _ _ _ _), ?_⟩ | refine ⟨_, (by assumption : Cell _ _ _ _ _), ?_⟩ | refine ⟨_, _, _, (by assumption : Cell _ _ _ _ _), ?_⟩ | refine ⟨_, Or.inl (by assumption), ?_⟩ | refine ⟨_, _, _, Or.inl (by assumption), ?_⟩ | refine And.intro (ints_one _) ?_ | refine And.intro (by omega) ?_ | refine d1 ?_ | refine d2 ?_ | refine d3 ?_ | refine d4 ?_ | refine go G176 400 hC (by kernel_rfl) ?_); (conv => whnf)))
  refine halt (sx_loop (X := Nat × Value) (fun i => [(1, .loc 1 0), (3, .own 3 i.2), (4, .v (.int .i64 i.1))])
    (fun i => [(1, .box [.slice x univ.length c, .slice y ex.length d, w] 26), (3, .row i.2 3 1 (univ.length + i.1) (ints (allV univ (ex.take i.1))))])
    (fun i h' m' => i.1 ≤ ex.length ∧ IntS h' i.2 (allV univ (ex.take i.1)) ∧ h.le h' ∧ m' = m) (fun i => ex.length - i.1) (0, .slice a1 (0 + univ.length) c1) ⟨[(1, 1), (3, 8)], ?_⟩ ⟨by simp, ?_, hle1, rfl⟩ ?_)
  · refine ⟨by simp [sinj], ⟨⟨rfl, rfl⟩, ⟨rfl, rfl⟩, rfl, trivial⟩, rfl, ?_, trivial⟩
    show some (BS.row _ _ _ (0 + univ.length) ([] ++ ints univ)) = _
    simp [allV]; rfl
  · refine ⟨⟨a1, c1, by simp [allV], by simpa [allV] using hrow1⟩, by simp [allV]; omega, fun z hz => ha.rng z (by simpa [allV] using hz)⟩
  rintro ⟨i, s⟩ h' m' _ ⟨hi, hn, hle, rfl⟩
  dsimp only at hi hn ⊢
  ((try (conv => whnf)); repeat ((first | refine And.intro ?_ True.intro | refine And.intro ⟨by omega, by omega⟩ ?_ | refine ⟨_, (by assumption : RO.c _ _ _ = _), ?_⟩ | refine ⟨_, _, _, (by assumption : (_ : Option Obj) = _), ?_⟩ | refine ⟨_, _, _, (by assumption : RO.c _ _ _ = _), ?_⟩ | refine ⟨_, (by assumption : Row _ _ _ _), ?_⟩ | refine ⟨_, (by assumption : Cell _ _ _ _ _), ?_⟩ | refine ⟨_, _, _, (by assumption : Cell _ _ _ _ _), ?_⟩ | refine ⟨_, Or.inl (by assumption), ?_⟩ | refine ⟨_, _, _, Or.inl (by assumption), ?_⟩ | refine And.intro (ints_one _) ?_ | refine And.intro (by omega) ?_ | refine d1 ?_ | refine d2 ?_ | refine d3 ?_ | refine d4 ?_ | refine go G176 400 hC (by kernel_rfl) ?_); (conv => whnf)))
  refine ⟨fun hlt => ?_, fun hge => ?_⟩
  · have hlt : i < ex.length := by simpa using hlt
    obtain ⟨p, q, rfl, hc⟩ := (hb.mono hle).get hlt
    obtain ⟨k1, _⟩ := hc i hlt
    ((try (conv => whnf)); repeat ((first | refine And.intro ?_ True.intro | refine And.intro ⟨by omega, by omega⟩ ?_ | refine ⟨_, (by assumption : RO.c _ _ _ = _), ?_⟩ | refine ⟨_, _, _, (by assumption : (_ : Option Obj) = _), ?_⟩ | refine ⟨_, _, _, (by assumption : RO.c _ _ _ = _), ?_⟩ | refine ⟨_, (by assumption : Row _ _ _ _), ?_⟩ | refine ⟨_, (by assumption : Cell _ _ _ _ _), ?_⟩ | refine ⟨_, _, _, (by assumption : Cell _ _ _ _ _), ?_⟩ | refine ⟨_, Or.inl (by assumption), ?_⟩ | refine ⟨_, _, _, Or.inl (by assumption), ?_⟩ | refine And.intro (ints_one _) ?_ | refine And.intro (by omega) ?_ | refine d1 ?_ | refine d2 ?_ | refine d3 ?_ | refine d4 ?_ | refine go G176 400 hC (by kernel_rfl) ?_); (conv => whnf)))
    refine ⟨rfl, by show (univ.length + i + 1) * 8 ≤ 140737488355328; omega, fun a2 c2 h2 hle2 hrow2 => ?_⟩
    change Row h2 1 (.slice a2 (univ.length + i + 1) c2) (ints (allV univ (ex.take i)) ++ [.int .i64 (gd ex i).1]) at hrow2
    have ht : ints (allV univ (ex.take i)) ++ [.int .i64 (gd ex i).1] = ints (allV univ (ex.take (i + 1))) := by
      rw [List.take_add_one, gd_get hlt]; simp [ints, allV]
    rw [ht] at hrow2
    have hlen : (allV univ (ex.take (i + 1))).length = univ.length + i + 1 := by simp [allV]; omega
    ((try (conv => whnf)); repeat ((first | refine And.intro ?_ True.intro | refine And.intro ⟨by omega, by omega⟩ ?_ | refine ⟨_, (by assumption : RO.c _ _ _ = _), ?_⟩ | refine ⟨_, _, _, (by assumption : (_ : Option Obj) = _), ?_⟩ | refine ⟨_, _, _, (by assumption : RO.c _ _ _ = _), ?_⟩ | refine ⟨_, (by assumption : Row _ _ _ _), ?_⟩ | refine ⟨_, (by assumption : Cell _ _ _ _ _), ?_⟩ | refine ⟨_, _, _, (by assumption : Cell _ _ _ _ _), ?_⟩ | refine ⟨_, Or.inl (by assumption), ?_⟩ | refine ⟨_, _, _, Or.inl (by assumption), ?_⟩ | refine And.intro (ints_one _) ?_ | refine And.intro (by omega) ?_ | refine d1 ?_ | refine d2 ?_ | refine d3 ?_ | refine d4 ?_ | refine go G176 400 hC (by kernel_rfl) ?_); (conv => whnf)))
    refine halt ⟨(i + 1, .slice a2 (univ.length + i + 1) c2), [(1, 1), (3, 24)], ⟨by simp [sinj], ⟨⟨rfl, rfl⟩, ⟨rfl, rfl⟩, stepI (by omega), trivial⟩, rfl, ?_, trivial⟩, hle2, ⟨hlt, ?_, hle.trans hle2, rfl⟩, by dsimp only; omega⟩
    · show some (BS.row _ _ _ _ (ints (allV univ (ex.take i)) ++ [.int .i64 (gd ex i).1])) = _
      rw [ht]; rfl
    · refine ⟨⟨a2, c2, by rw [hlen], by rw [hlen]; exact hrow2⟩, by dsimp only; omega, fun z hz => ?_⟩
      simp only [allV, List.mem_append, List.mem_map] at hz
      rcases hz with hz | ⟨d', hd, rfl⟩
      · exact ha.rng z hz
      · exact hb.rng _ (List.mem_of_mem_take hd)
  · have hge : i = ex.length := by simp at hge; omega
    subst hge
    ((try (conv => whnf)); repeat ((first | refine And.intro ?_ True.intro | refine And.intro ⟨by omega, by omega⟩ ?_ | refine ⟨_, (by assumption : RO.c _ _ _ = _), ?_⟩ | refine ⟨_, _, _, (by assumption : (_ : Option Obj) = _), ?_⟩ | refine ⟨_, _, _, (by assumption : RO.c _ _ _ = _), ?_⟩ | refine ⟨_, (by assumption : Row _ _ _ _), ?_⟩ | refine ⟨_, (by assumption : Cell _ _ _ _ _), ?_⟩ | refine ⟨_, _, _, (by assumption : Cell _ _ _ _ _), ?_⟩ | refine ⟨_, Or.inl (by assumption), ?_⟩ | refine ⟨_, _, _, Or.inl (by assumption), ?_⟩ | refine And.intro (ints_one _) ?_ | refine And.intro (by omega) ?_ | refine d1 ?_ | refine d2 ?_ | refine d3 ?_ | refine d4 ?_ | refine go G176 400 hC (by kernel_rfl) ?_); (conv => whnf)))
    exact ⟨⟨s, rfl, by simpa using hn⟩, rfl⟩
end Go.Proofs.YtoefoaabnjeofaaGreat
namespace Go.Proofs.YtoefoaabnjeofaaGreat
open Go.SX
set_option maxHeartbeats 2000000
set_option maxRecDepth 20000

def okC3 (ls : List (List Int)) (i : Nat) : Bool := normal (gl ls i)
def cnf (ls : List (List Int)) : Bool := allN ls.length (okC3 ls) && (decide (ls.length ≤ 20000) && decide (tot ls ≤ 200000))
def G179 : Gv := ⟨[], [], []⟩
theorem cnf03 {u : Value} {ls : List (List Int)} {h : RO} {m : Hp} (ha : LLS h u ls) (ht : tot ls ≤ 1000000000000) :
    Con Tryz.prog 179 [u] h m fun e h' m' => e = .returned (.bool (cnf ls)) ∧ h' = h ∧ m' = m := by
  obtain ⟨x, c, rfl⟩ := ha.sl
  have hla := ha.len
  refine fn_of (nt := 31) T Tryz.func179 rfl (by kernel_rfl) Tryz.ntmps179 (by simp) T_ok T_mixed fun C hC => ?_
  simp only [Tryz.f179, argFr, Nat.zero_add, Nat.reduceAdd] at hC ⊢
  ((try (conv => whnf)); repeat ((first | refine And.intro ?_ True.intro | refine And.intro ⟨by omega, by omega⟩ ?_ | refine ⟨_, (by assumption : RO.c _ _ _ = _), ?_⟩ | refine ⟨_, _, _, (by assumption : (_ : Option Obj) = _), ?_⟩ | refine ⟨_, _, _, (by assumption : RO.c _ _ _ = _), ?_⟩ | refine ⟨_, (by assumption : Row _ _ _ _), ?_⟩ | refine ⟨_, (by assumption : Cell _ _ _ _ _), ?_⟩ | refine ⟨_, _, _, (by assumption : Cell _ _ _ _ _), ?_⟩ | refine ⟨_, Or.inl (by assumption), ?_⟩ | refine ⟨_, _, _, Or.inl (by assumption), ?_⟩ | refine And.intro (ints_one _) ?_ | refine And.intro (by omega) ?_ | refine d1 ?_ | refine d2 ?_ | refine d3 ?_ | refine d4 ?_ | refine go G179 400 hC (by kernel_rfl) ?_); (conv => whnf)))
  refine halt (sx_loop (X := Nat) (fun i => [(0, .v (.slice x ls.length c)), (3, .v (.int .i64 (tot (ls.take i) : Nat))), (4, .v (.int .i64 i))]) (fun _ => [])
    (fun i h' m' => i ≤ ls.length ∧ (∀ j, j < i → okC3 ls j = true) ∧ h' = h ∧ m' = m) (fun i => ls.length - i) 0 ⟨[], ?_⟩ ⟨by omega, by simp, rfl, rfl⟩ ?_)
  · exact ⟨trivial, ⟨rfl, rfl, rfl, trivial⟩, trivial⟩
  rintro i h' m' _ ⟨hi, hn, rfl, rfl⟩
  ((try (conv => whnf)); repeat ((first | refine And.intro ?_ True.intro | refine And.intro ⟨by omega, by omega⟩ ?_ | refine ⟨_, (by assumption : RO.c _ _ _ = _), ?_⟩ | refine ⟨_, _, _, (by assumption : (_ : Option Obj) = _), ?_⟩ | refine ⟨_, _, _, (by assumption : RO.c _ _ _ = _), ?_⟩ | refine ⟨_, (by assumption : Row _ _ _ _), ?_⟩ | refine ⟨_, (by assumption : Cell _ _ _ _ _), ?_⟩ | refine ⟨_, _, _, (by assumption : Cell _ _ _ _ _), ?_⟩ | refine ⟨_, Or.inl (by assumption), ?_⟩ | refine ⟨_, _, _, Or.inl (by assumption), ?_⟩ | refine And.intro (ints_one _) ?_ | refine And.intro (by omega) ?_ | refine d1 ?_ | refine d2 ?_ | refine d3 ?_ | refine d4 ?_ | refine go G179 400 hC (by kernel_rfl) ?_); (conv => whnf)))
  refine ⟨fun hlt => ?_, fun hge => ?_⟩
  · have hlt : i < ls.length := by simpa using hlt
    obtain ⟨p, q, rfl, hc⟩ := ha.get hlt
    obtain ⟨a', c', c1, hi1⟩ := hc i hlt
    ((try (conv => whnf)); repeat ((first | refine And.intro ?_ True.intro | refine And.intro ⟨by omega, by omega⟩ ?_ | refine ⟨_, (by assumption : RO.c _ _ _ = _), ?_⟩ | refine ⟨_, _, _, (by assumption : (_ : Option Obj) = _), ?_⟩ | refine ⟨_, _, _, (by assumption : RO.c _ _ _ = _), ?_⟩ | refine ⟨_, (by assumption : Row _ _ _ _), ?_⟩ | refine ⟨_, (by assumption : Cell _ _ _ _ _), ?_⟩ | refine ⟨_, _, _, (by assumption : Cell _ _ _ _ _), ?_⟩ | refine ⟨_, Or.inl (by assumption), ?_⟩ | refine ⟨_, _, _, Or.inl (by assumption), ?_⟩ | refine And.intro (ints_one _) ?_ | refine And.intro (by omega) ?_ | refine d1 ?_ | refine d2 ?_ | refine d3 ?_ | refine d4 ?_ | refine go G179 400 hC (by kernel_rfl) ?_); (conv => whnf)))
    (refine Con.mono (normal03 hi1) ?_; rintro _ _ _ - ⟨rfl, rfl, rfl⟩; ((try (conv => whnf)); repeat ((first | refine And.intro ?_ True.intro | refine And.intro ⟨by omega, by omega⟩ ?_ | refine ⟨_, (by assumption : RO.c _ _ _ = _), ?_⟩ | refine ⟨_, _, _, (by assumption : (_ : Option Obj) = _), ?_⟩ | refine ⟨_, _, _, (by assumption : RO.c _ _ _ = _), ?_⟩ | refine ⟨_, (by assumption : Row _ _ _ _), ?_⟩ | refine ⟨_, (by assumption : Cell _ _ _ _ _), ?_⟩ | refine ⟨_, _, _, (by assumption : Cell _ _ _ _ _), ?_⟩ | refine ⟨_, Or.inl (by assumption), ?_⟩ | refine ⟨_, _, _, Or.inl (by assumption), ?_⟩ | refine And.intro (ints_one _) ?_ | refine And.intro (by omega) ?_ | refine d1 ?_ | refine d2 ?_ | refine d3 ?_ | refine d4 ?_ | refine go G179 400 hC (by kernel_rfl) ?_); (conv => whnf))))
    refine ⟨fun he => ?_, fun he => ?_⟩
    · ((try (conv => whnf)); repeat ((first | refine And.intro ?_ True.intro | refine And.intro ⟨by omega, by omega⟩ ?_ | refine ⟨_, (by assumption : RO.c _ _ _ = _), ?_⟩ | refine ⟨_, _, _, (by assumption : (_ : Option Obj) = _), ?_⟩ | refine ⟨_, _, _, (by assumption : RO.c _ _ _ = _), ?_⟩ | refine ⟨_, (by assumption : Row _ _ _ _), ?_⟩ | refine ⟨_, (by assumption : Cell _ _ _ _ _), ?_⟩ | refine ⟨_, _, _, (by assumption : Cell _ _ _ _ _), ?_⟩ | refine ⟨_, Or.inl (by assumption), ?_⟩ | refine ⟨_, _, _, Or.inl (by assumption), ?_⟩ | refine And.intro (ints_one _) ?_ | refine And.intro (by omega) ?_ | refine d1 ?_ | refine d2 ?_ | refine d3 ?_ | refine d4 ?_ | refine go G179 400 hC (by kernel_rfl) ?_); (conv => whnf)))
      have he : okC3 ls i = false := by simpa [okC3] using he
      exact ⟨by rw [cnf, allN_false hlt he]; rfl, rfl, rfl⟩
    · ((try (conv => whnf)); repeat ((first | refine And.intro ?_ True.intro | refine And.intro ⟨by omega, by omega⟩ ?_ | refine ⟨_, (by assumption : RO.c _ _ _ = _), ?_⟩ | refine ⟨_, _, _, (by assumption : (_ : Option Obj) = _), ?_⟩ | refine ⟨_, _, _, (by assumption : RO.c _ _ _ = _), ?_⟩ | refine ⟨_, (by assumption : Row _ _ _ _), ?_⟩ | refine ⟨_, (by assumption : Cell _ _ _ _ _), ?_⟩ | refine ⟨_, _, _, (by assumption : Cell _ _ _ _ _), ?_⟩ | refine ⟨_, Or.inl (by assumption), ?_⟩ | refine ⟨_, _, _, Or.inl (by assumption), ?_⟩ | refine And.intro (ints_one _) ?_ | refine And.intro (by omega) ?_ | refine d1 ?_ | refine d2 ?_ | refine d3 ?_ | refine d4 ?_ | refine go G179 400 hC (by kernel_rfl) ?_); (conv => whnf)))
      have he : okC3 ls i = true := by simpa [okC3] using he
      have h1 := tot_take hlt
      have h2 := tot_le ls (i + 1)
      refine halt ⟨i + 1, [], ⟨trivial, ⟨rfl, ?_, stepI (by omega), trivial⟩, trivial⟩, RO.le.refl _, ⟨hlt, allS hn he, rfl, rfl⟩, by omega⟩
      show Value.int .i64 _ = .int .i64 (IntKind.i64.wrap ((tot (ls.take i) : Nat) + ((gl ls i).length : Nat) : Int))
      rw [w64 (by omega) (by omega), h1]; rfl
  · have hge : i = ls.length := by simp at hge; omega
    subst hge
    rw [List.take_length]
    have hall : allN ls.length (okC3 ls) = true := allN_true hn
    ((try (conv => whnf)); repeat ((first | refine And.intro ?_ True.intro | refine And.intro ⟨by omega, by omega⟩ ?_ | refine ⟨_, (by assumption : RO.c _ _ _ = _), ?_⟩ | refine ⟨_, _, _, (by assumption : (_ : Option Obj) = _), ?_⟩ | refine ⟨_, _, _, (by assumption : RO.c _ _ _ = _), ?_⟩ | refine ⟨_, (by assumption : Row _ _ _ _), ?_⟩ | refine ⟨_, (by assumption : Cell _ _ _ _ _), ?_⟩ | refine ⟨_, _, _, (by assumption : Cell _ _ _ _ _), ?_⟩ | refine ⟨_, Or.inl (by assumption), ?_⟩ | refine ⟨_, _, _, Or.inl (by assumption), ?_⟩ | refine And.intro (ints_one _) ?_ | refine And.intro (by omega) ?_ | refine d1 ?_ | refine d2 ?_ | refine d3 ?_ | refine d4 ?_ | refine go G179 400 hC (by kernel_rfl) ?_); (conv => whnf)))
    refine ⟨fun he => ?_, fun he => ?_⟩
    · ((try (conv => whnf)); repeat ((first | refine And.intro ?_ True.intro | refine And.intro ⟨by omega, by omega⟩ ?_ | refine ⟨_, (by assumption : RO.c _ _ _ = _), ?_⟩ | refine ⟨_, _, _, (by assumption : (_ : Option Obj) = _), ?_⟩ | refine ⟨_, _, _, (by assumption : RO.c _ _ _ = _), ?_⟩ | refine ⟨_, (by assumption : Row _ _ _ _), ?_⟩ | refine ⟨_, (by assumption : Cell _ _ _ _ _), ?_⟩ | refine ⟨_, _, _, (by assumption : Cell _ _ _ _ _), ?_⟩ | refine ⟨_, Or.inl (by assumption), ?_⟩ | refine ⟨_, _, _, Or.inl (by assumption), ?_⟩ | refine And.intro (ints_one _) ?_ | refine And.intro (by omega) ?_ | refine d1 ?_ | refine d2 ?_ | refine d3 ?_ | refine d4 ?_ | refine go G179 400 hC (by kernel_rfl) ?_); (conv => whnf)))
      have he : ls.length ≤ 20000 := by simp at he; omega
      refine ⟨?_, rfl, rfl⟩
      rw [cnf, hall]
      simp only [Bool.true_and, he, decide_true]
      show Ending.returned (.bool (decide ((tot ls : Int) ≤ 200000))) = _
      congr 3
      simp; omega
    · ((try (conv => whnf)); repeat ((first | refine And.intro ?_ True.intro | refine And.intro ⟨by omega, by omega⟩ ?_ | refine ⟨_, (by assumption : RO.c _ _ _ = _), ?_⟩ | refine ⟨_, _, _, (by assumption : (_ : Option Obj) = _), ?_⟩ | refine ⟨_, _, _, (by assumption : RO.c _ _ _ = _), ?_⟩ | refine ⟨_, (by assumption : Row _ _ _ _), ?_⟩ | refine ⟨_, (by assumption : Cell _ _ _ _ _), ?_⟩ | refine ⟨_, _, _, (by assumption : Cell _ _ _ _ _), ?_⟩ | refine ⟨_, Or.inl (by assumption), ?_⟩ | refine ⟨_, _, _, Or.inl (by assumption), ?_⟩ | refine And.intro (ints_one _) ?_ | refine And.intro (by omega) ?_ | refine d1 ?_ | refine d2 ?_ | refine d3 ?_ | refine d4 ?_ | refine go G179 400 hC (by kernel_rfl) ?_); (conv => whnf)))
      have he : ¬ ls.length ≤ 20000 := by simp at he; omega
      refine ⟨?_, rfl, rfl⟩
      rw [cnf, hall, decide_eq_false he]; rfl

def okI (univ p : List Int) (i : Nat) : Bool := g p i == g univ i || g p i == IntKind.i64.wrap (0 - g univ i)
def isPoint (univ p : List Int) : Bool := p.length == univ.length && allN p.length (okI univ p)
def G94 : Gv := ⟨[], [2], [(6, .one 0 (.one 1 (.one 2 (.one 3 (.one 4 (.one 5 (.one 6 (.one 7 (.one 8 (.one 9 (.one 10 (.one 11 (.one 12 (.one 13 (.one 14 (.one 15 (.one 16 (.one 17 (.one 18 (.one 19 (.one 20 (.one 21 (.one 22 (.nil))))))))))))))))))))))))]⟩
theorem isPoint23 {u v w y : Value} {univ pt : List Int} {h : RO} {m : Hp} (ha : IntS h u univ) (hb : IntS h y pt) :
    Con Tryz.prog 94 [.agg #[u, v, w], y] h m fun e h' m' => e = .returned (.bool (isPoint univ pt)) ∧ m' = m := by
  obtain ⟨x, c, rfl, hr⟩ := ha.s
  obtain ⟨z, d, rfl, hs⟩ := hb.s
  have hla := ha.len
  have hlb := hb.len
  refine fn_of (nt := 41) T Tryz.func94 rfl (by kernel_rfl) Tryz.ntmps94 (by simp) T_ok T_mixed fun C hC => ?_
  simp only [Tryz.f94, argFr, Nat.zero_add, Nat.reduceAdd] at hC ⊢
  ((try (conv => whnf)); repeat ((first | refine And.intro ?_ True.intro | refine And.intro ⟨by omega, by omega⟩ ?_ | refine ⟨_, (by assumption : RO.c _ _ _ = _), ?_⟩ | refine ⟨_, _, _, (by assumption : (_ : Option Obj) = _), ?_⟩ | refine ⟨_, _, _, (by assumption : RO.c _ _ _ = _), ?_⟩ | refine ⟨_, (by assumption : Row _ _ _ _), ?_⟩ | refine ⟨_, (by assumption : Cell _ _ _ _ _), ?_⟩ | refine ⟨_, _, _, (by assumption : Cell _ _ _ _ _), ?_⟩ | refine ⟨_, Or.inl (by assumption), ?_⟩ | refine ⟨_, _, _, Or.inl (by assumption), ?_⟩ | refine And.intro (ints_one _) ?_ | refine And.intro (by omega) ?_ | refine d1 ?_ | refine d2 ?_ | refine d3 ?_ | refine d4 ?_ | refine go G94 400 hC (by kernel_rfl) ?_); (conv => whnf)))
  intro b0 h1 hle1 _
  ((try (conv => whnf)); repeat ((first | refine And.intro ?_ True.intro | refine And.intro ⟨by omega, by omega⟩ ?_ | refine ⟨_, (by assumption : RO.c _ _ _ = _), ?_⟩ | refine ⟨_, _, _, (by assumption : (_ : Option Obj) = _), ?_⟩ | refine ⟨_, _, _, (by assumption : RO.c _ _ _ = _), ?_⟩ | refine ⟨_, (by assumption : Row _ _ _ _), ?_⟩ | refine ⟨_, (by assumption : Cell _ _ _ _ _), ?_⟩ | refine ⟨_, _, _, (by assumption : Cell _ _ _ _ _), ?_⟩ | refine ⟨_, Or.inl (by assumption), ?_⟩ | refine ⟨_, _, _, Or.inl (by assumption), ?_⟩ | refine And.intro (ints_one _) ?_ | refine And.intro (by omega) ?_ | refine d1 ?_ | refine d2 ?_ | refine d3 ?_ | refine d4 ?_ | refine go G94 400 hC (by kernel_rfl) ?_); (conv => whnf)))
  refine ⟨fun he => ?_, fun he => ?_⟩
  · ((try (conv => whnf)); repeat ((first | refine And.intro ?_ True.intro | refine And.intro ⟨by omega, by omega⟩ ?_ | refine ⟨_, (by assumption : RO.c _ _ _ = _), ?_⟩ | refine ⟨_, _, _, (by assumption : (_ : Option Obj) = _), ?_⟩ | refine ⟨_, _, _, (by assumption : RO.c _ _ _ = _), ?_⟩ | refine ⟨_, (by assumption : Row _ _ _ _), ?_⟩ | refine ⟨_, (by assumption : Cell _ _ _ _ _), ?_⟩ | refine ⟨_, _, _, (by assumption : Cell _ _ _ _ _), ?_⟩ | refine ⟨_, Or.inl (by assumption), ?_⟩ | refine ⟨_, _, _, Or.inl (by assumption), ?_⟩ | refine And.intro (ints_one _) ?_ | refine And.intro (by omega) ?_ | refine d1 ?_ | refine d2 ?_ | refine d3 ?_ | refine d4 ?_ | refine go G94 400 hC (by kernel_rfl) ?_); (conv => whnf)))
    have he : pt.length ≠ univ.length := by simp at he; omega
    exact ⟨by rw [isPoint, show (pt.length == univ.length) = false by simpa using he]; rfl, rfl⟩
  have hl : pt.length = univ.length := by simp at he; omega
  ((try (conv => whnf)); repeat ((first | refine And.intro ?_ True.intro | refine And.intro ⟨by omega, by omega⟩ ?_ | refine ⟨_, (by assumption : RO.c _ _ _ = _), ?_⟩ | refine ⟨_, _, _, (by assumption : (_ : Option Obj) = _), ?_⟩ | refine ⟨_, _, _, (by assumption : RO.c _ _ _ = _), ?_⟩ | refine ⟨_, (by assumption : Row _ _ _ _), ?_⟩ | refine ⟨_, (by assumption : Cell _ _ _ _ _), ?_⟩ | refine ⟨_, _, _, (by assumption : Cell _ _ _ _ _), ?_⟩ | refine ⟨_, Or.inl (by assumption), ?_⟩ | refine ⟨_, _, _, Or.inl (by assumption), ?_⟩ | refine And.intro (ints_one _) ?_ | refine And.intro (by omega) ?_ | refine d1 ?_ | refine d2 ?_ | refine d3 ?_ | refine d4 ?_ | refine go G94 400 hC (by kernel_rfl) ?_); (conv => whnf)))
  refine halt (sx_loop (X := Nat) (fun i => [(1, .v (.slice z pt.length d)), (2, .loc 2 0), (5, .v (.int .i64 i))]) (fun _ => [(2, .pub b0 [.slice x univ.length c, v, w])])
    (fun i h' m' => i ≤ pt.length ∧ (∀ j, j < i → okI univ pt j = true) ∧ h' = h1 ∧ m' = m) (fun i => pt.length - i) 0 ⟨[(2, 2)], ?_⟩ ⟨by omega, by simp, rfl, rfl⟩ ?_)
  · exact ⟨by simp [sinj], ⟨rfl, ⟨rfl, rfl⟩, rfl, trivial⟩, rfl, trivial⟩
  rintro i h' m' _ ⟨hi, hn, rfl, rfl⟩
  ((try (conv => whnf)); repeat ((first | refine And.intro ?_ True.intro | refine And.intro ⟨by omega, by omega⟩ ?_ | refine ⟨_, (by assumption : RO.c _ _ _ = _), ?_⟩ | refine ⟨_, _, _, (by assumption : (_ : Option Obj) = _), ?_⟩ | refine ⟨_, _, _, (by assumption : RO.c _ _ _ = _), ?_⟩ | refine ⟨_, (by assumption : Row _ _ _ _), ?_⟩ | refine ⟨_, (by assumption : Cell _ _ _ _ _), ?_⟩ | refine ⟨_, _, _, (by assumption : Cell _ _ _ _ _), ?_⟩ | refine ⟨_, Or.inl (by assumption), ?_⟩ | refine ⟨_, _, _, Or.inl (by assumption), ?_⟩ | refine And.intro (ints_one _) ?_ | refine And.intro (by omega) ?_ | refine d1 ?_ | refine d2 ?_ | refine d3 ?_ | refine d4 ?_ | refine go G94 400 hC (by kernel_rfl) ?_); (conv => whnf)))
  refine ⟨fun hlt => ?_, fun hge => ?_⟩
  · have hlt : i < pt.length := by simpa using hlt
    have hlt' : i < univ.length := hl ▸ hlt
    obtain ⟨p, q, rfl, hc⟩ := (ha.mono hle1).get hlt'
    obtain ⟨p', q', rfl, hd⟩ := (hb.mono hle1).get hlt
    have c1 := hc i hlt'
    have c2 := hd i hlt
    have bad : okI univ pt i = false → Ending.returned (.bool false) = Ending.returned (.bool (isPoint univ pt)) := fun hb => by rw [isPoint, allN_false hlt hb, Bool.and_false]
    ((try (conv => whnf)); repeat ((first | refine And.intro ?_ True.intro | refine And.intro ⟨by omega, by omega⟩ ?_ | refine ⟨_, (by assumption : RO.c _ _ _ = _), ?_⟩ | refine ⟨_, _, _, (by assumption : (_ : Option Obj) = _), ?_⟩ | refine ⟨_, _, _, (by assumption : RO.c _ _ _ = _), ?_⟩ | refine ⟨_, (by assumption : Row _ _ _ _), ?_⟩ | refine ⟨_, (by assumption : Cell _ _ _ _ _), ?_⟩ | refine ⟨_, _, _, (by assumption : Cell _ _ _ _ _), ?_⟩ | refine ⟨_, Or.inl (by assumption), ?_⟩ | refine ⟨_, _, _, Or.inl (by assumption), ?_⟩ | refine And.intro (ints_one _) ?_ | refine And.intro (by omega) ?_ | refine d1 ?_ | refine d2 ?_ | refine d3 ?_ | refine d4 ?_ | refine go G94 400 hC (by kernel_rfl) ?_); (conv => whnf)))
    iterate 2 (all_goals try ((refine ⟨fun _ => ?_, fun _ => ?_⟩) <;> ((try (conv => whnf)); repeat ((first | refine And.intro ?_ True.intro | refine And.intro ⟨by omega, by omega⟩ ?_ | refine ⟨_, (by assumption : RO.c _ _ _ = _), ?_⟩ | refine ⟨_, _, _, (by assumption : (_ : Option Obj) = _), ?_⟩ | refine ⟨_, _, _, (by assumption : RO.c _ _ _ = _), ?_⟩ | refine ⟨_, (by assumption : Row _ _ _ _), ?_⟩ | refine ⟨_, (by assumption : Cell _ _ _ _ _), ?_⟩ | refine ⟨_, _, _, (by assumption : Cell _ _ _ _ _), ?_⟩ | refine ⟨_, Or.inl (by assumption), ?_⟩ | refine ⟨_, _, _, Or.inl (by assumption), ?_⟩ | refine And.intro (ints_one _) ?_ | refine And.intro (by omega) ?_ | refine d1 ?_ | refine d2 ?_ | refine d3 ?_ | refine d4 ?_ | refine go G94 400 hC (by kernel_rfl) ?_); (conv => whnf)))))
    all_goals first
      | exact ⟨bad (by clear hC hn bad hc hd ha hb hr hs c1 c2; simp_all [okI]), rfl⟩
      | exact halt ⟨i + 1, [(2, 2)], ⟨by simp [sinj], ⟨rfl, ⟨rfl, rfl⟩, stepI (by omega), trivial⟩, rfl, trivial⟩, RO.le.refl _, ⟨hlt, allS hn (by clear hC hn bad hc hd ha hb hr hs c1 c2; simp_all [okI]), rfl, rfl⟩, by omega⟩
  · have hge : i = pt.length := by simp at hge; omega
    ((try (conv => whnf)); repeat ((first | refine And.intro ?_ True.intro | refine And.intro ⟨by omega, by omega⟩ ?_ | refine ⟨_, (by assumption : RO.c _ _ _ = _), ?_⟩ | refine ⟨_, _, _, (by assumption : (_ : Option Obj) = _), ?_⟩ | refine ⟨_, _, _, (by assumption : RO.c _ _ _ = _), ?_⟩ | refine ⟨_, (by assumption : Row _ _ _ _), ?_⟩ | refine ⟨_, (by assumption : Cell _ _ _ _ _), ?_⟩ | refine ⟨_, _, _, (by assumption : Cell _ _ _ _ _), ?_⟩ | refine ⟨_, Or.inl (by assumption), ?_⟩ | refine ⟨_, _, _, Or.inl (by assumption), ?_⟩ | refine And.intro (ints_one _) ?_ | refine And.intro (by omega) ?_ | refine d1 ?_ | refine d2 ?_ | refine d3 ?_ | refine d4 ?_ | refine go G94 400 hC (by kernel_rfl) ?_); (conv => whnf)))
    exact ⟨by rw [isPoint, allN_true (hge ▸ hn), hl]; simp; rfl, rfl⟩
end Go.Proofs.YtoefoaabnjeofaaGreat
namespace Go.Proofs.YtoefoaabnjeofaaGreat
open Go.SX
set_option maxHeartbeats 2000000
set_option maxRecDepth 20000

def okD (univ : List Int) (ex : List (Int × List Int)) (i : Nat) : Bool := rises (gd ex i).2 && part (gd ex i).2 univ
def headD (univ : List Int) (ex : List (Int × List Int)) (cls : List (List Int)) : Bool :=
  !(decide (((allV univ ex).length : Int) > 1024) || !single (allV univ ex) || !rises univ || !rises ((allV univ ex).drop univ.length) || !cnf cls || !within cls (allV univ ex))
def mayDqbf (univ : List Int) (ex : List (Int × List Int)) (cls : List (List Int)) : Bool := headD univ ex cls && allN ex.length (okD univ ex)
def G93 : Gv := ⟨[], [1], [(7, .one 0 (.one 1 (.one 2 (.one 3 (.one 4 (.one 5 (.fork 6 (.one 7 (.one 8 (.one 9 (.one 10 (.one 11 (.one 12 (.one 13 (.one 14 (.one 15 (.one 16 (.fork 17 (.one 18 (.one 19 (.nil))) .stop))))))))))) .stop)))))))]⟩
theorem mayDqbf03 {u v w : Value} {univ : List Int} {ex : List (Int × List Int)} {cls : List (List Int)} {h : RO} {m : Hp} (ha : IntS h u univ) (hb : DepS h v ex) (hc : LLS h w cls)
    (hl : univ.length + ex.length ≤ 1000000000) (ht : tot cls ≤ 1000000000000) :
    Con Tryz.prog 93 [.agg #[u, v, w]] h m fun e h' m' => e = .returned (.bool (mayDqbf univ ex cls)) ∧ m' = m := by
  obtain ⟨x, c, rfl, hr⟩ := ha.s
  obtain ⟨y, d, rfl⟩ := hb.sl
  obtain ⟨z, f, rfl⟩ := hc.sl
  have hla := ha.len
  have hlb := hb.len
  refine fn_of (nt := 70) T Tryz.func93 rfl (by kernel_rfl) Tryz.ntmps93 (by simp) T_ok T_mixed fun C hC => ?_
  simp only [Tryz.f93, argFr, Nat.zero_add, Nat.reduceAdd] at hC ⊢
  ((try (conv => whnf)); repeat ((first | refine And.intro ?_ True.intro | refine And.intro ⟨by omega, by omega⟩ ?_ | refine ⟨_, (by assumption : RO.c _ _ _ = _), ?_⟩ | refine ⟨_, _, _, (by assumption : (_ : Option Obj) = _), ?_⟩ | refine ⟨_, _, _, (by assumption : RO.c _ _ _ = _), ?_⟩ | refine ⟨_, (by assumption : Row _ _ _ _), ?_⟩ | refine ⟨_, (by assumption : Cell _ _ _ _ _), ?_⟩ | refine ⟨_, _, _, (by assumption : Cell _ _ _ _ _), ?_⟩ | refine ⟨_, Or.inl (by assumption), ?_⟩ | refine ⟨_, _, _, Or.inl (by assumption), ?_⟩ | refine And.intro (ints_one _) ?_ | refine And.intro (by omega) ?_ | refine d1 ?_ | refine d2 ?_ | refine d3 ?_ | refine d4 ?_ | refine go G93 400 hC (by kernel_rfl) ?_); (conv => whnf)))
  intro b0 h1 hle1 _
  replace ha := ha.mono hle1
  replace hb := hb.mono hle1
  replace hc := hc.mono hle1
  ((try (conv => whnf)); repeat ((first | refine And.intro ?_ True.intro | refine And.intro ⟨by omega, by omega⟩ ?_ | refine ⟨_, (by assumption : RO.c _ _ _ = _), ?_⟩ | refine ⟨_, _, _, (by assumption : (_ : Option Obj) = _), ?_⟩ | refine ⟨_, _, _, (by assumption : RO.c _ _ _ = _), ?_⟩ | refine ⟨_, (by assumption : Row _ _ _ _), ?_⟩ | refine ⟨_, (by assumption : Cell _ _ _ _ _), ?_⟩ | refine ⟨_, _, _, (by assumption : Cell _ _ _ _ _), ?_⟩ | refine ⟨_, Or.inl (by assumption), ?_⟩ | refine ⟨_, _, _, Or.inl (by assumption), ?_⟩ | refine And.intro (ints_one _) ?_ | refine And.intro (by omega) ?_ | refine d1 ?_ | refine d2 ?_ | refine d3 ?_ | refine d4 ?_ | refine go G93 400 hC (by kernel_rfl) ?_); (conv => whnf)))
  refine Con.mono (all03 ha hb hl) ?_
  rintro _ h2 m2 hle2 ⟨⟨s, rfl, hs⟩, rfl⟩
  replace ha := ha.mono hle2
  replace hb := hb.mono hle2
  replace hc := hc.mono hle2
  obtain ⟨a2, c2, rfl, hrs⟩ := hs.s
  have hlen : (allV univ ex).length = univ.length + ex.length := by simp [allV]
  have hd := hs.drop (i := univ.length) (by omega)
  have bad : headD univ ex cls = false → Ending.returned (.bool false) = Ending.returned (.bool (mayDqbf univ ex cls)) := fun hb => by rw [mayDqbf, hb]; rfl
  ((try (conv => whnf)); repeat ((first | refine And.intro ?_ True.intro | refine And.intro ⟨by omega, by omega⟩ ?_ | refine ⟨_, (by assumption : RO.c _ _ _ = _), ?_⟩ | refine ⟨_, _, _, (by assumption : (_ : Option Obj) = _), ?_⟩ | refine ⟨_, _, _, (by assumption : RO.c _ _ _ = _), ?_⟩ | refine ⟨_, (by assumption : Row _ _ _ _), ?_⟩ | refine ⟨_, (by assumption : Cell _ _ _ _ _), ?_⟩ | refine ⟨_, _, _, (by assumption : Cell _ _ _ _ _), ?_⟩ | refine ⟨_, Or.inl (by assumption), ?_⟩ | refine ⟨_, _, _, Or.inl (by assumption), ?_⟩ | refine And.intro (ints_one _) ?_ | refine And.intro (by omega) ?_ | refine d1 ?_ | refine d2 ?_ | refine d3 ?_ | refine d4 ?_ | refine go G93 400 hC (by kernel_rfl) ?_); (conv => whnf)))
  all_goals try ((refine ⟨fun _ => ?_, fun _ => ?_⟩) <;> ((try (conv => whnf)); repeat ((first | refine And.intro ?_ True.intro | refine And.intro ⟨by omega, by omega⟩ ?_ | refine ⟨_, (by assumption : RO.c _ _ _ = _), ?_⟩ | refine ⟨_, _, _, (by assumption : (_ : Option Obj) = _), ?_⟩ | refine ⟨_, _, _, (by assumption : RO.c _ _ _ = _), ?_⟩ | refine ⟨_, (by assumption : Row _ _ _ _), ?_⟩ | refine ⟨_, (by assumption : Cell _ _ _ _ _), ?_⟩ | refine ⟨_, _, _, (by assumption : Cell _ _ _ _ _), ?_⟩ | refine ⟨_, Or.inl (by assumption), ?_⟩ | refine ⟨_, _, _, Or.inl (by assumption), ?_⟩ | refine And.intro (ints_one _) ?_ | refine And.intro (by omega) ?_ | refine d1 ?_ | refine d2 ?_ | refine d3 ?_ | refine d4 ?_ | refine go G93 400 hC (by kernel_rfl) ?_); (conv => whnf))))
  all_goals try (refine Con.mono (single03 hs) ?_; rintro _ _ _ - ⟨rfl, rfl, rfl⟩; ((try (conv => whnf)); repeat ((first | refine And.intro ?_ True.intro | refine And.intro ⟨by omega, by omega⟩ ?_ | refine ⟨_, (by assumption : RO.c _ _ _ = _), ?_⟩ | refine ⟨_, _, _, (by assumption : (_ : Option Obj) = _), ?_⟩ | refine ⟨_, _, _, (by assumption : RO.c _ _ _ = _), ?_⟩ | refine ⟨_, (by assumption : Row _ _ _ _), ?_⟩ | refine ⟨_, (by assumption : Cell _ _ _ _ _), ?_⟩ | refine ⟨_, _, _, (by assumption : Cell _ _ _ _ _), ?_⟩ | refine ⟨_, Or.inl (by assumption), ?_⟩ | refine ⟨_, _, _, Or.inl (by assumption), ?_⟩ | refine And.intro (ints_one _) ?_ | refine And.intro (by omega) ?_ | refine d1 ?_ | refine d2 ?_ | refine d3 ?_ | refine d4 ?_ | refine go G93 400 hC (by kernel_rfl) ?_); (conv => whnf))))
  all_goals try ((refine ⟨fun _ => ?_, fun _ => ?_⟩) <;> ((try (conv => whnf)); repeat ((first | refine And.intro ?_ True.intro | refine And.intro ⟨by omega, by omega⟩ ?_ | refine ⟨_, (by assumption : RO.c _ _ _ = _), ?_⟩ | refine ⟨_, _, _, (by assumption : (_ : Option Obj) = _), ?_⟩ | refine ⟨_, _, _, (by assumption : RO.c _ _ _ = _), ?_⟩ | refine ⟨_, (by assumption : Row _ _ _ _), ?_⟩ | refine ⟨_, (by assumption : Cell _ _ _ _ _), ?_⟩ | refine ⟨_, _, _, (by assumption : Cell _ _ _ _ _), ?_⟩ | refine ⟨_, Or.inl (by assumption), ?_⟩ | refine ⟨_, _, _, Or.inl (by assumption), ?_⟩ | refine And.intro (ints_one _) ?_ | refine And.intro (by omega) ?_ | refine d1 ?_ | refine d2 ?_ | refine d3 ?_ | refine d4 ?_ | refine go G93 400 hC (by kernel_rfl) ?_); (conv => whnf))))
  all_goals try (refine Con.mono (rises03 ha) ?_; rintro _ _ _ - ⟨rfl, rfl, rfl⟩; ((try (conv => whnf)); repeat ((first | refine And.intro ?_ True.intro | refine And.intro ⟨by omega, by omega⟩ ?_ | refine ⟨_, (by assumption : RO.c _ _ _ = _), ?_⟩ | refine ⟨_, _, _, (by assumption : (_ : Option Obj) = _), ?_⟩ | refine ⟨_, _, _, (by assumption : RO.c _ _ _ = _), ?_⟩ | refine ⟨_, (by assumption : Row _ _ _ _), ?_⟩ | refine ⟨_, (by assumption : Cell _ _ _ _ _), ?_⟩ | refine ⟨_, _, _, (by assumption : Cell _ _ _ _ _), ?_⟩ | refine ⟨_, Or.inl (by assumption), ?_⟩ | refine ⟨_, _, _, Or.inl (by assumption), ?_⟩ | refine And.intro (ints_one _) ?_ | refine And.intro (by omega) ?_ | refine d1 ?_ | refine d2 ?_ | refine d3 ?_ | refine d4 ?_ | refine go G93 400 hC (by kernel_rfl) ?_); (conv => whnf))))
  all_goals try ((refine ⟨fun _ => ?_, fun _ => ?_⟩) <;> ((try (conv => whnf)); repeat ((first | refine And.intro ?_ True.intro | refine And.intro ⟨by omega, by omega⟩ ?_ | refine ⟨_, (by assumption : RO.c _ _ _ = _), ?_⟩ | refine ⟨_, _, _, (by assumption : (_ : Option Obj) = _), ?_⟩ | refine ⟨_, _, _, (by assumption : RO.c _ _ _ = _), ?_⟩ | refine ⟨_, (by assumption : Row _ _ _ _), ?_⟩ | refine ⟨_, (by assumption : Cell _ _ _ _ _), ?_⟩ | refine ⟨_, _, _, (by assumption : Cell _ _ _ _ _), ?_⟩ | refine ⟨_, Or.inl (by assumption), ?_⟩ | refine ⟨_, _, _, Or.inl (by assumption), ?_⟩ | refine And.intro (ints_one _) ?_ | refine And.intro (by omega) ?_ | refine d1 ?_ | refine d2 ?_ | refine d3 ?_ | refine d4 ?_ | refine go G93 400 hC (by kernel_rfl) ?_); (conv => whnf))))
  all_goals try (refine Con.mono (rises03 hd) ?_; rintro _ _ _ - ⟨rfl, rfl, rfl⟩; ((try (conv => whnf)); repeat ((first | refine And.intro ?_ True.intro | refine And.intro ⟨by omega, by omega⟩ ?_ | refine ⟨_, (by assumption : RO.c _ _ _ = _), ?_⟩ | refine ⟨_, _, _, (by assumption : (_ : Option Obj) = _), ?_⟩ | refine ⟨_, _, _, (by assumption : RO.c _ _ _ = _), ?_⟩ | refine ⟨_, (by assumption : Row _ _ _ _), ?_⟩ | refine ⟨_, (by assumption : Cell _ _ _ _ _), ?_⟩ | refine ⟨_, _, _, (by assumption : Cell _ _ _ _ _), ?_⟩ | refine ⟨_, Or.inl (by assumption), ?_⟩ | refine ⟨_, _, _, Or.inl (by assumption), ?_⟩ | refine And.intro (ints_one _) ?_ | refine And.intro (by omega) ?_ | refine d1 ?_ | refine d2 ?_ | refine d3 ?_ | refine d4 ?_ | refine go G93 400 hC (by kernel_rfl) ?_); (conv => whnf))))
  all_goals try ((refine ⟨fun _ => ?_, fun _ => ?_⟩) <;> ((try (conv => whnf)); repeat ((first | refine And.intro ?_ True.intro | refine And.intro ⟨by omega, by omega⟩ ?_ | refine ⟨_, (by assumption : RO.c _ _ _ = _), ?_⟩ | refine ⟨_, _, _, (by assumption : (_ : Option Obj) = _), ?_⟩ | refine ⟨_, _, _, (by assumption : RO.c _ _ _ = _), ?_⟩ | refine ⟨_, (by assumption : Row _ _ _ _), ?_⟩ | refine ⟨_, (by assumption : Cell _ _ _ _ _), ?_⟩ | refine ⟨_, _, _, (by assumption : Cell _ _ _ _ _), ?_⟩ | refine ⟨_, Or.inl (by assumption), ?_⟩ | refine ⟨_, _, _, Or.inl (by assumption), ?_⟩ | refine And.intro (ints_one _) ?_ | refine And.intro (by omega) ?_ | refine d1 ?_ | refine d2 ?_ | refine d3 ?_ | refine d4 ?_ | refine go G93 400 hC (by kernel_rfl) ?_); (conv => whnf))))
  all_goals try (refine Con.mono (cnf03 hc ht) ?_; rintro _ _ _ - ⟨rfl, rfl, rfl⟩; ((try (conv => whnf)); repeat ((first | refine And.intro ?_ True.intro | refine And.intro ⟨by omega, by omega⟩ ?_ | refine ⟨_, (by assumption : RO.c _ _ _ = _), ?_⟩ | refine ⟨_, _, _, (by assumption : (_ : Option Obj) = _), ?_⟩ | refine ⟨_, _, _, (by assumption : RO.c _ _ _ = _), ?_⟩ | refine ⟨_, (by assumption : Row _ _ _ _), ?_⟩ | refine ⟨_, (by assumption : Cell _ _ _ _ _), ?_⟩ | refine ⟨_, _, _, (by assumption : Cell _ _ _ _ _), ?_⟩ | refine ⟨_, Or.inl (by assumption), ?_⟩ | refine ⟨_, _, _, Or.inl (by assumption), ?_⟩ | refine And.intro (ints_one _) ?_ | refine And.intro (by omega) ?_ | refine d1 ?_ | refine d2 ?_ | refine d3 ?_ | refine d4 ?_ | refine go G93 400 hC (by kernel_rfl) ?_); (conv => whnf))))
  all_goals try ((refine ⟨fun _ => ?_, fun _ => ?_⟩) <;> ((try (conv => whnf)); repeat ((first | refine And.intro ?_ True.intro | refine And.intro ⟨by omega, by omega⟩ ?_ | refine ⟨_, (by assumption : RO.c _ _ _ = _), ?_⟩ | refine ⟨_, _, _, (by assumption : (_ : Option Obj) = _), ?_⟩ | refine ⟨_, _, _, (by assumption : RO.c _ _ _ = _), ?_⟩ | refine ⟨_, (by assumption : Row _ _ _ _), ?_⟩ | refine ⟨_, (by assumption : Cell _ _ _ _ _), ?_⟩ | refine ⟨_, _, _, (by assumption : Cell _ _ _ _ _), ?_⟩ | refine ⟨_, Or.inl (by assumption), ?_⟩ | refine ⟨_, _, _, Or.inl (by assumption), ?_⟩ | refine And.intro (ints_one _) ?_ | refine And.intro (by omega) ?_ | refine d1 ?_ | refine d2 ?_ | refine d3 ?_ | refine d4 ?_ | refine go G93 400 hC (by kernel_rfl) ?_); (conv => whnf))))
  all_goals try (refine Con.mono (within03 hc hs) ?_; rintro _ _ _ - ⟨rfl, rfl, rfl⟩; ((try (conv => whnf)); repeat ((first | refine And.intro ?_ True.intro | refine And.intro ⟨by omega, by omega⟩ ?_ | refine ⟨_, (by assumption : RO.c _ _ _ = _), ?_⟩ | refine ⟨_, _, _, (by assumption : (_ : Option Obj) = _), ?_⟩ | refine ⟨_, _, _, (by assumption : RO.c _ _ _ = _), ?_⟩ | refine ⟨_, (by assumption : Row _ _ _ _), ?_⟩ | refine ⟨_, (by assumption : Cell _ _ _ _ _), ?_⟩ | refine ⟨_, _, _, (by assumption : Cell _ _ _ _ _), ?_⟩ | refine ⟨_, Or.inl (by assumption), ?_⟩ | refine ⟨_, _, _, Or.inl (by assumption), ?_⟩ | refine And.intro (ints_one _) ?_ | refine And.intro (by omega) ?_ | refine d1 ?_ | refine d2 ?_ | refine d3 ?_ | refine d4 ?_ | refine go G93 400 hC (by kernel_rfl) ?_); (conv => whnf))))
  all_goals try ((refine ⟨fun _ => ?_, fun _ => ?_⟩) <;> ((try (conv => whnf)); repeat ((first | refine And.intro ?_ True.intro | refine And.intro ⟨by omega, by omega⟩ ?_ | refine ⟨_, (by assumption : RO.c _ _ _ = _), ?_⟩ | refine ⟨_, _, _, (by assumption : (_ : Option Obj) = _), ?_⟩ | refine ⟨_, _, _, (by assumption : RO.c _ _ _ = _), ?_⟩ | refine ⟨_, (by assumption : Row _ _ _ _), ?_⟩ | refine ⟨_, (by assumption : Cell _ _ _ _ _), ?_⟩ | refine ⟨_, _, _, (by assumption : Cell _ _ _ _ _), ?_⟩ | refine ⟨_, Or.inl (by assumption), ?_⟩ | refine ⟨_, _, _, Or.inl (by assumption), ?_⟩ | refine And.intro (ints_one _) ?_ | refine And.intro (by omega) ?_ | refine d1 ?_ | refine d2 ?_ | refine d3 ?_ | refine d4 ?_ | refine go G93 400 hC (by kernel_rfl) ?_); (conv => whnf))))
  all_goals try exact ⟨bad (by clear hC bad ha hb hc hs hd hr hrs hlen; simp_all [headD]), rfl⟩
  have hgood : headD univ ex cls = true := by clear hC bad ha hb hc hs hd hr hrs hlen; simp_all [headD]
  rename_i h3 m3 _
  refine halt (sx_loop (X := Nat) (fun i => [(1, .loc 1 0), (4, .v (.int .i64 i))]) (fun _ => [(1, .pub b0 [.slice x univ.length c, .slice y ex.length d, .slice z cls.length f])])
    (fun i h' m' => i ≤ ex.length ∧ (∀ j, j < i → okD univ ex j = true) ∧ h' = h3 ∧ m' = m3) (fun i => ex.length - i) 0 ⟨[(1, 1)], ?_⟩ ⟨by omega, by simp, rfl, rfl⟩ ?_)
  · exact ⟨by simp [sinj], ⟨⟨rfl, rfl⟩, rfl, trivial⟩, rfl, trivial⟩
  clear bad
  rintro i h' m' _ ⟨hi, hn, rfl, rfl⟩
  ((try (conv => whnf)); repeat ((first | refine And.intro ?_ True.intro | refine And.intro ⟨by omega, by omega⟩ ?_ | refine ⟨_, (by assumption : RO.c _ _ _ = _), ?_⟩ | refine ⟨_, _, _, (by assumption : (_ : Option Obj) = _), ?_⟩ | refine ⟨_, _, _, (by assumption : RO.c _ _ _ = _), ?_⟩ | refine ⟨_, (by assumption : Row _ _ _ _), ?_⟩ | refine ⟨_, (by assumption : Cell _ _ _ _ _), ?_⟩ | refine ⟨_, _, _, (by assumption : Cell _ _ _ _ _), ?_⟩ | refine ⟨_, Or.inl (by assumption), ?_⟩ | refine ⟨_, _, _, Or.inl (by assumption), ?_⟩ | refine And.intro (ints_one _) ?_ | refine And.intro (by omega) ?_ | refine d1 ?_ | refine d2 ?_ | refine d3 ?_ | refine d4 ?_ | refine go G93 400 hC (by kernel_rfl) ?_); (conv => whnf)))
  refine ⟨fun hlt => ?_, fun hge => ?_⟩
  · have hlt : i < ex.length := by simpa using hlt
    obtain ⟨p, q, rfl, hcc⟩ := hb.get hlt
    obtain ⟨c1, a', c', c2, hi1⟩ := hcc i hlt
    have bad : okD univ ex i = false → Ending.returned (.bool false) = Ending.returned (.bool (mayDqbf univ ex cls)) := fun hb => by rw [mayDqbf, allN_false hlt hb, Bool.and_false]
    ((try (conv => whnf)); repeat ((first | refine And.intro ?_ True.intro | refine And.intro ⟨by omega, by omega⟩ ?_ | refine ⟨_, (by assumption : RO.c _ _ _ = _), ?_⟩ | refine ⟨_, _, _, (by assumption : (_ : Option Obj) = _), ?_⟩ | refine ⟨_, _, _, (by assumption : RO.c _ _ _ = _), ?_⟩ | refine ⟨_, (by assumption : Row _ _ _ _), ?_⟩ | refine ⟨_, (by assumption : Cell _ _ _ _ _), ?_⟩ | refine ⟨_, _, _, (by assumption : Cell _ _ _ _ _), ?_⟩ | refine ⟨_, Or.inl (by assumption), ?_⟩ | refine ⟨_, _, _, Or.inl (by assumption), ?_⟩ | refine And.intro (ints_one _) ?_ | refine And.intro (by omega) ?_ | refine d1 ?_ | refine d2 ?_ | refine d3 ?_ | refine d4 ?_ | refine go G93 400 hC (by kernel_rfl) ?_); (conv => whnf)))
    (refine Con.mono (rises03 hi1) ?_; rintro _ _ _ - ⟨rfl, rfl, rfl⟩; ((try (conv => whnf)); repeat ((first | refine And.intro ?_ True.intro | refine And.intro ⟨by omega, by omega⟩ ?_ | refine ⟨_, (by assumption : RO.c _ _ _ = _), ?_⟩ | refine ⟨_, _, _, (by assumption : (_ : Option Obj) = _), ?_⟩ | refine ⟨_, _, _, (by assumption : RO.c _ _ _ = _), ?_⟩ | refine ⟨_, (by assumption : Row _ _ _ _), ?_⟩ | refine ⟨_, (by assumption : Cell _ _ _ _ _), ?_⟩ | refine ⟨_, _, _, (by assumption : Cell _ _ _ _ _), ?_⟩ | refine ⟨_, Or.inl (by assumption), ?_⟩ | refine ⟨_, _, _, Or.inl (by assumption), ?_⟩ | refine And.intro (ints_one _) ?_ | refine And.intro (by omega) ?_ | refine d1 ?_ | refine d2 ?_ | refine d3 ?_ | refine d4 ?_ | refine go G93 400 hC (by kernel_rfl) ?_); (conv => whnf))))
    all_goals try ((refine ⟨fun _ => ?_, fun _ => ?_⟩) <;> ((try (conv => whnf)); repeat ((first | refine And.intro ?_ True.intro | refine And.intro ⟨by omega, by omega⟩ ?_ | refine ⟨_, (by assumption : RO.c _ _ _ = _), ?_⟩ | refine ⟨_, _, _, (by assumption : (_ : Option Obj) = _), ?_⟩ | refine ⟨_, _, _, (by assumption : RO.c _ _ _ = _), ?_⟩ | refine ⟨_, (by assumption : Row _ _ _ _), ?_⟩ | refine ⟨_, (by assumption : Cell _ _ _ _ _), ?_⟩ | refine ⟨_, _, _, (by assumption : Cell _ _ _ _ _), ?_⟩ | refine ⟨_, Or.inl (by assumption), ?_⟩ | refine ⟨_, _, _, Or.inl (by assumption), ?_⟩ | refine And.intro (ints_one _) ?_ | refine And.intro (by omega) ?_ | refine d1 ?_ | refine d2 ?_ | refine d3 ?_ | refine d4 ?_ | refine go G93 400 hC (by kernel_rfl) ?_); (conv => whnf))))
    all_goals try (refine Con.mono (part03 hi1 ha) ?_; rintro _ _ _ - ⟨rfl, rfl, rfl⟩; ((try (conv => whnf)); repeat ((first | refine And.intro ?_ True.intro | refine And.intro ⟨by omega, by omega⟩ ?_ | refine ⟨_, (by assumption : RO.c _ _ _ = _), ?_⟩ | refine ⟨_, _, _, (by assumption : (_ : Option Obj) = _), ?_⟩ | refine ⟨_, _, _, (by assumption : RO.c _ _ _ = _), ?_⟩ | refine ⟨_, (by assumption : Row _ _ _ _), ?_⟩ | refine ⟨_, (by assumption : Cell _ _ _ _ _), ?_⟩ | refine ⟨_, _, _, (by assumption : Cell _ _ _ _ _), ?_⟩ | refine ⟨_, Or.inl (by assumption), ?_⟩ | refine ⟨_, _, _, Or.inl (by assumption), ?_⟩ | refine And.intro (ints_one _) ?_ | refine And.intro (by omega) ?_ | refine d1 ?_ | refine d2 ?_ | refine d3 ?_ | refine d4 ?_ | refine go G93 400 hC (by kernel_rfl) ?_); (conv => whnf))))
    all_goals try ((refine ⟨fun _ => ?_, fun _ => ?_⟩) <;> ((try (conv => whnf)); repeat ((first | refine And.intro ?_ True.intro | refine And.intro ⟨by omega, by omega⟩ ?_ | refine ⟨_, (by assumption : RO.c _ _ _ = _), ?_⟩ | refine ⟨_, _, _, (by assumption : (_ : Option Obj) = _), ?_⟩ | refine ⟨_, _, _, (by assumption : RO.c _ _ _ = _), ?_⟩ | refine ⟨_, (by assumption : Row _ _ _ _), ?_⟩ | refine ⟨_, (by assumption : Cell _ _ _ _ _), ?_⟩ | refine ⟨_, _, _, (by assumption : Cell _ _ _ _ _), ?_⟩ | refine ⟨_, Or.inl (by assumption), ?_⟩ | refine ⟨_, _, _, Or.inl (by assumption), ?_⟩ | refine And.intro (ints_one _) ?_ | refine And.intro (by omega) ?_ | refine d1 ?_ | refine d2 ?_ | refine d3 ?_ | refine d4 ?_ | refine go G93 400 hC (by kernel_rfl) ?_); (conv => whnf))))
    all_goals first
      | exact ⟨bad (by clear hC bad ha hb hc hs hd hr hrs hlen hn hcc c1 c2 hi1; simp_all [okD]), rfl⟩
      | exact halt ⟨i + 1, [(1, 1)], ⟨by simp [sinj], ⟨⟨rfl, rfl⟩, stepI (by omega), trivial⟩, rfl, trivial⟩, RO.le.refl _, ⟨hlt, allS hn (by clear hC bad ha hb hc hs hd hr hrs hlen hn hcc c1 c2 hi1; simp_all [okD]), rfl, rfl⟩, by omega⟩
  · have hge : i = ex.length := by simp at hge; omega
    ((try (conv => whnf)); repeat ((first | refine And.intro ?_ True.intro | refine And.intro ⟨by omega, by omega⟩ ?_ | refine ⟨_, (by assumption : RO.c _ _ _ = _), ?_⟩ | refine ⟨_, _, _, (by assumption : (_ : Option Obj) = _), ?_⟩ | refine ⟨_, _, _, (by assumption : RO.c _ _ _ = _), ?_⟩ | refine ⟨_, (by assumption : Row _ _ _ _), ?_⟩ | refine ⟨_, (by assumption : Cell _ _ _ _ _), ?_⟩ | refine ⟨_, _, _, (by assumption : Cell _ _ _ _ _), ?_⟩ | refine ⟨_, Or.inl (by assumption), ?_⟩ | refine ⟨_, _, _, Or.inl (by assumption), ?_⟩ | refine And.intro (ints_one _) ?_ | refine And.intro (by omega) ?_ | refine d1 ?_ | refine d2 ?_ | refine d3 ?_ | refine d4 ?_ | refine go G93 400 hC (by kernel_rfl) ?_); (conv => whnf)))
    exact ⟨by rw [mayDqbf, hgood, allN_true (hge ▸ hn)]; rfl, rfl⟩
end Go.Proofs.YtoefoaabnjeofaaGreat
namespace Go.Proofs.YtoefoaabnjeofaaGreat
open Go.SX
set_option maxHeartbeats 2000000
set_option maxRecDepth 20000

def okM2 (pts : List (List Int)) (i k : Nat) : Bool := !(gl pts k == gl pts i)
def okM (univ : List Int) (pts : List (List Int)) (i : Nat) : Bool := isPoint univ (gl pts i) && allN i (okM2 pts i)
def mayP (univ : List Int) (ex : List (Int × List Int)) (cls pts : List (List Int)) : Bool := mayDqbf univ ex cls && (!decide ((pts.length : Int) > 4096) && allN pts.length (okM univ pts))
def G27 : Gv := ⟨[], [2], [(6, .one 0 (.one 1 (.one 2 (.one 3 (.one 4 (.fork 5 (.one 6 (.nil)) .stop)))))), (11, .one 0 (.one 1 (.one 2 (.one 3 (.one 4 (.one 5 (.one 6 (.one 7 (.fork 8 (.nil) .stop)))))))))]⟩
theorem may23 {u v w r : Value} {univ : List Int} {ex : List (Int × List Int)} {cls pts : List (List Int)} {h : RO} {m : Hp} (ha : IntS h u univ) (hb : DepS h v ex) (hc : LLS h w cls)
    (hp : LLS h r pts) (hl : univ.length + ex.length ≤ 1000000000) (ht : tot cls ≤ 1000000000000) :
    Con Tryz.prog 27 [.agg #[u, v, w], r] h m fun e h' m' => e = .returned (.bool (mayP univ ex cls pts)) ∧ m' = m := by
  obtain ⟨z, f, rfl⟩ := hp.sl
  have hlp := hp.len
  refine fn_of (nt := 42) T Tryz.func27 rfl (by kernel_rfl) Tryz.ntmps27 (by simp) T_ok T_mixed fun C hC => ?_
  simp only [Tryz.f27, argFr, Nat.zero_add, Nat.reduceAdd] at hC ⊢
  ((try (conv => whnf)); repeat ((first | refine And.intro ?_ True.intro | refine And.intro ⟨by omega, by omega⟩ ?_ | refine ⟨_, (by assumption : RO.c _ _ _ = _), ?_⟩ | refine ⟨_, _, _, (by assumption : (_ : Option Obj) = _), ?_⟩ | refine ⟨_, _, _, (by assumption : RO.c _ _ _ = _), ?_⟩ | refine ⟨_, (by assumption : Row _ _ _ _), ?_⟩ | refine ⟨_, (by assumption : Cell _ _ _ _ _), ?_⟩ | refine ⟨_, _, _, (by assumption : Cell _ _ _ _ _), ?_⟩ | refine ⟨_, Or.inl (by assumption), ?_⟩ | refine ⟨_, _, _, Or.inl (by assumption), ?_⟩ | refine And.intro (ints_one _) ?_ | refine And.intro (by omega) ?_ | refine d1 ?_ | refine d2 ?_ | refine d3 ?_ | refine d4 ?_ | refine go G27 400 hC (by kernel_rfl) ?_); (conv => whnf)))
  intro b0 h1 hle1 _
  replace ha := ha.mono hle1
  replace hb := hb.mono hle1
  replace hc := hc.mono hle1
  replace hp := hp.mono hle1
  ((try (conv => whnf)); repeat ((first | refine And.intro ?_ True.intro | refine And.intro ⟨by omega, by omega⟩ ?_ | refine ⟨_, (by assumption : RO.c _ _ _ = _), ?_⟩ | refine ⟨_, _, _, (by assumption : (_ : Option Obj) = _), ?_⟩ | refine ⟨_, _, _, (by assumption : RO.c _ _ _ = _), ?_⟩ | refine ⟨_, (by assumption : Row _ _ _ _), ?_⟩ | refine ⟨_, (by assumption : Cell _ _ _ _ _), ?_⟩ | refine ⟨_, _, _, (by assumption : Cell _ _ _ _ _), ?_⟩ | refine ⟨_, Or.inl (by assumption), ?_⟩ | refine ⟨_, _, _, Or.inl (by assumption), ?_⟩ | refine And.intro (ints_one _) ?_ | refine And.intro (by omega) ?_ | refine d1 ?_ | refine d2 ?_ | refine d3 ?_ | refine d4 ?_ | refine go G27 400 hC (by kernel_rfl) ?_); (conv => whnf)))
  refine Con.mono (mayDqbf03 ha hb hc hl ht) ?_
  rintro _ h2 m2 hle2 ⟨rfl, rfl⟩
  ((try (conv => whnf)); repeat ((first | refine And.intro ?_ True.intro | refine And.intro ⟨by omega, by omega⟩ ?_ | refine ⟨_, (by assumption : RO.c _ _ _ = _), ?_⟩ | refine ⟨_, _, _, (by assumption : (_ : Option Obj) = _), ?_⟩ | refine ⟨_, _, _, (by assumption : RO.c _ _ _ = _), ?_⟩ | refine ⟨_, (by assumption : Row _ _ _ _), ?_⟩ | refine ⟨_, (by assumption : Cell _ _ _ _ _), ?_⟩ | refine ⟨_, _, _, (by assumption : Cell _ _ _ _ _), ?_⟩ | refine ⟨_, Or.inl (by assumption), ?_⟩ | refine ⟨_, _, _, Or.inl (by assumption), ?_⟩ | refine And.intro (ints_one _) ?_ | refine And.intro (by omega) ?_ | refine d1 ?_ | refine d2 ?_ | refine d3 ?_ | refine d4 ?_ | refine go G27 400 hC (by kernel_rfl) ?_); (conv => whnf)))
  all_goals try ((refine ⟨fun _ => ?_, fun _ => ?_⟩) <;> ((try (conv => whnf)); repeat ((first | refine And.intro ?_ True.intro | refine And.intro ⟨by omega, by omega⟩ ?_ | refine ⟨_, (by assumption : RO.c _ _ _ = _), ?_⟩ | refine ⟨_, _, _, (by assumption : (_ : Option Obj) = _), ?_⟩ | refine ⟨_, _, _, (by assumption : RO.c _ _ _ = _), ?_⟩ | refine ⟨_, (by assumption : Row _ _ _ _), ?_⟩ | refine ⟨_, (by assumption : Cell _ _ _ _ _), ?_⟩ | refine ⟨_, _, _, (by assumption : Cell _ _ _ _ _), ?_⟩ | refine ⟨_, Or.inl (by assumption), ?_⟩ | refine ⟨_, _, _, Or.inl (by assumption), ?_⟩ | refine And.intro (ints_one _) ?_ | refine And.intro (by omega) ?_ | refine d1 ?_ | refine d2 ?_ | refine d3 ?_ | refine d4 ?_ | refine go G27 400 hC (by kernel_rfl) ?_); (conv => whnf))))
  all_goals try ((refine ⟨fun _ => ?_, fun _ => ?_⟩) <;> ((try (conv => whnf)); repeat ((first | refine And.intro ?_ True.intro | refine And.intro ⟨by omega, by omega⟩ ?_ | refine ⟨_, (by assumption : RO.c _ _ _ = _), ?_⟩ | refine ⟨_, _, _, (by assumption : (_ : Option Obj) = _), ?_⟩ | refine ⟨_, _, _, (by assumption : RO.c _ _ _ = _), ?_⟩ | refine ⟨_, (by assumption : Row _ _ _ _), ?_⟩ | refine ⟨_, (by assumption : Cell _ _ _ _ _), ?_⟩ | refine ⟨_, _, _, (by assumption : Cell _ _ _ _ _), ?_⟩ | refine ⟨_, Or.inl (by assumption), ?_⟩ | refine ⟨_, _, _, Or.inl (by assumption), ?_⟩ | refine And.intro (ints_one _) ?_ | refine And.intro (by omega) ?_ | refine d1 ?_ | refine d2 ?_ | refine d3 ?_ | refine d4 ?_ | refine go G27 400 hC (by kernel_rfl) ?_); (conv => whnf))))
  all_goals try exact ⟨by clear hC ha hb hc hp; simp_all [mayP]; rfl, rfl⟩
  have hgood : (mayDqbf univ ex cls && !decide ((pts.length : Int) > 4096)) = true := by clear hC ha hb hc hp; simp_all
  refine halt (sx_loop (X := Nat) (fun i => [(1, .v (.slice z pts.length f)), (2, .loc 2 0), (5, .v (.int .i64 i))]) (fun _ => [(2, .pub b0 [u, v, w])])
    (fun i h' m' => i ≤ pts.length ∧ (∀ j, j < i → okM univ pts j = true) ∧ h1.le h' ∧ m' = m2) (fun i => pts.length - i) 0 ⟨[(2, 2)], ?_⟩ ⟨by omega, by simp, hle2, rfl⟩ ?_)
  · exact ⟨by simp [sinj], ⟨rfl, ⟨rfl, rfl⟩, rfl, trivial⟩, rfl, trivial⟩
  rintro i h' m' _ ⟨hi, hn, hle3, rfl⟩
  ((try (conv => whnf)); repeat ((first | refine And.intro ?_ True.intro | refine And.intro ⟨by omega, by omega⟩ ?_ | refine ⟨_, (by assumption : RO.c _ _ _ = _), ?_⟩ | refine ⟨_, _, _, (by assumption : (_ : Option Obj) = _), ?_⟩ | refine ⟨_, _, _, (by assumption : RO.c _ _ _ = _), ?_⟩ | refine ⟨_, (by assumption : Row _ _ _ _), ?_⟩ | refine ⟨_, (by assumption : Cell _ _ _ _ _), ?_⟩ | refine ⟨_, _, _, (by assumption : Cell _ _ _ _ _), ?_⟩ | refine ⟨_, Or.inl (by assumption), ?_⟩ | refine ⟨_, _, _, Or.inl (by assumption), ?_⟩ | refine And.intro (ints_one _) ?_ | refine And.intro (by omega) ?_ | refine d1 ?_ | refine d2 ?_ | refine d3 ?_ | refine d4 ?_ | refine go G27 400 hC (by kernel_rfl) ?_); (conv => whnf)))
  refine ⟨fun hlt => ?_, fun hge => ?_⟩
  · have hlt : i < pts.length := by simpa using hlt
    obtain ⟨p, q, rfl, hcc⟩ := hp.get hlt
    obtain ⟨a', c', c1, hi1⟩ := hcc i hlt
    replace c1 := hle3.c _ _ _ c1
    ((try (conv => whnf)); repeat ((first | refine And.intro ?_ True.intro | refine And.intro ⟨by omega, by omega⟩ ?_ | refine ⟨_, (by assumption : RO.c _ _ _ = _), ?_⟩ | refine ⟨_, _, _, (by assumption : (_ : Option Obj) = _), ?_⟩ | refine ⟨_, _, _, (by assumption : RO.c _ _ _ = _), ?_⟩ | refine ⟨_, (by assumption : Row _ _ _ _), ?_⟩ | refine ⟨_, (by assumption : Cell _ _ _ _ _), ?_⟩ | refine ⟨_, _, _, (by assumption : Cell _ _ _ _ _), ?_⟩ | refine ⟨_, Or.inl (by assumption), ?_⟩ | refine ⟨_, _, _, Or.inl (by assumption), ?_⟩ | refine And.intro (ints_one _) ?_ | refine And.intro (by omega) ?_ | refine d1 ?_ | refine d2 ?_ | refine d3 ?_ | refine d4 ?_ | refine go G27 400 hC (by kernel_rfl) ?_); (conv => whnf)))
    refine Con.mono (isPoint23 (ha.mono hle3) (hi1.mono hle3)) ?_
    rintro _ h4 m4 hle4 ⟨rfl, rfl⟩
    have hle5 := hle3.trans hle4
    ((try (conv => whnf)); repeat ((first | refine And.intro ?_ True.intro | refine And.intro ⟨by omega, by omega⟩ ?_ | refine ⟨_, (by assumption : RO.c _ _ _ = _), ?_⟩ | refine ⟨_, _, _, (by assumption : (_ : Option Obj) = _), ?_⟩ | refine ⟨_, _, _, (by assumption : RO.c _ _ _ = _), ?_⟩ | refine ⟨_, (by assumption : Row _ _ _ _), ?_⟩ | refine ⟨_, (by assumption : Cell _ _ _ _ _), ?_⟩ | refine ⟨_, _, _, (by assumption : Cell _ _ _ _ _), ?_⟩ | refine ⟨_, Or.inl (by assumption), ?_⟩ | refine ⟨_, _, _, Or.inl (by assumption), ?_⟩ | refine And.intro (ints_one _) ?_ | refine And.intro (by omega) ?_ | refine d1 ?_ | refine d2 ?_ | refine d3 ?_ | refine d4 ?_ | refine go G27 400 hC (by kernel_rfl) ?_); (conv => whnf)))
    refine ⟨fun he => ?_, fun he => ?_⟩
    · ((try (conv => whnf)); repeat ((first | refine And.intro ?_ True.intro | refine And.intro ⟨by omega, by omega⟩ ?_ | refine ⟨_, (by assumption : RO.c _ _ _ = _), ?_⟩ | refine ⟨_, _, _, (by assumption : (_ : Option Obj) = _), ?_⟩ | refine ⟨_, _, _, (by assumption : RO.c _ _ _ = _), ?_⟩ | refine ⟨_, (by assumption : Row _ _ _ _), ?_⟩ | refine ⟨_, (by assumption : Cell _ _ _ _ _), ?_⟩ | refine ⟨_, _, _, (by assumption : Cell _ _ _ _ _), ?_⟩ | refine ⟨_, Or.inl (by assumption), ?_⟩ | refine ⟨_, _, _, Or.inl (by assumption), ?_⟩ | refine And.intro (ints_one _) ?_ | refine And.intro (by omega) ?_ | refine d1 ?_ | refine d2 ?_ | refine d3 ?_ | refine d4 ?_ | refine go G27 400 hC (by kernel_rfl) ?_); (conv => whnf)))
      have he : okM univ pts i = false := by simp at he; simp [okM, he]
      exact ⟨by rw [mayP, allN_false hlt he]; simp; rfl, rfl⟩
    ((try (conv => whnf)); repeat ((first | refine And.intro ?_ True.intro | refine And.intro ⟨by omega, by omega⟩ ?_ | refine ⟨_, (by assumption : RO.c _ _ _ = _), ?_⟩ | refine ⟨_, _, _, (by assumption : (_ : Option Obj) = _), ?_⟩ | refine ⟨_, _, _, (by assumption : RO.c _ _ _ = _), ?_⟩ | refine ⟨_, (by assumption : Row _ _ _ _), ?_⟩ | refine ⟨_, (by assumption : Cell _ _ _ _ _), ?_⟩ | refine ⟨_, _, _, (by assumption : Cell _ _ _ _ _), ?_⟩ | refine ⟨_, Or.inl (by assumption), ?_⟩ | refine ⟨_, _, _, Or.inl (by assumption), ?_⟩ | refine And.intro (ints_one _) ?_ | refine And.intro (by omega) ?_ | refine d1 ?_ | refine d2 ?_ | refine d3 ?_ | refine d4 ?_ | refine go G27 400 hC (by kernel_rfl) ?_); (conv => whnf)))
    have he : isPoint univ (gl pts i) = true := by simpa using he
    refine halt (sx_loop (X := Nat) (fun k => [(1, .v (.slice (some ⟨p, q, none⟩) pts.length f)), (2, .loc 2 0), (5, .v (.int .i64 i)), (6, .v (.int .i64 k))]) (fun _ => [(2, .pub b0 [u, v, w])])
      (fun k h'' m'' => k ≤ i ∧ (∀ j, j < k → okM2 pts i j = true) ∧ h'' = h4 ∧ m'' = m4) (fun k => i - k) 0 ⟨[(2, 2)], ?_⟩ ⟨by omega, by simp, rfl, rfl⟩ ?_)
    · exact ⟨by simp [sinj], ⟨rfl, ⟨rfl, rfl⟩, rfl, rfl, trivial⟩, rfl, trivial⟩
    rintro k h'' m'' _ ⟨hk, hn2, rfl, rfl⟩
    ((try (conv => whnf)); repeat ((first | refine And.intro ?_ True.intro | refine And.intro ⟨by omega, by omega⟩ ?_ | refine ⟨_, (by assumption : RO.c _ _ _ = _), ?_⟩ | refine ⟨_, _, _, (by assumption : (_ : Option Obj) = _), ?_⟩ | refine ⟨_, _, _, (by assumption : RO.c _ _ _ = _), ?_⟩ | refine ⟨_, (by assumption : Row _ _ _ _), ?_⟩ | refine ⟨_, (by assumption : Cell _ _ _ _ _), ?_⟩ | refine ⟨_, _, _, (by assumption : Cell _ _ _ _ _), ?_⟩ | refine ⟨_, Or.inl (by assumption), ?_⟩ | refine ⟨_, _, _, Or.inl (by assumption), ?_⟩ | refine And.intro (ints_one _) ?_ | refine And.intro (by omega) ?_ | refine d1 ?_ | refine d2 ?_ | refine d3 ?_ | refine d4 ?_ | refine go G27 400 hC (by kernel_rfl) ?_); (conv => whnf)))
    refine ⟨fun hlt2 => ?_, fun hge2 => ?_⟩
    · have hlt2 : k < i := by simpa using hlt2
      obtain ⟨a2, c2', c2, hi2⟩ := hcc k (by omega)
      replace c2 := hle5.c _ _ _ c2
      replace c1 := hle4.c _ _ _ c1
      ((try (conv => whnf)); repeat ((first | refine And.intro ?_ True.intro | refine And.intro ⟨by omega, by omega⟩ ?_ | refine ⟨_, (by assumption : RO.c _ _ _ = _), ?_⟩ | refine ⟨_, _, _, (by assumption : (_ : Option Obj) = _), ?_⟩ | refine ⟨_, _, _, (by assumption : RO.c _ _ _ = _), ?_⟩ | refine ⟨_, (by assumption : Row _ _ _ _), ?_⟩ | refine ⟨_, (by assumption : Cell _ _ _ _ _), ?_⟩ | refine ⟨_, _, _, (by assumption : Cell _ _ _ _ _), ?_⟩ | refine ⟨_, Or.inl (by assumption), ?_⟩ | refine ⟨_, _, _, Or.inl (by assumption), ?_⟩ | refine And.intro (ints_one _) ?_ | refine And.intro (by omega) ?_ | refine d1 ?_ | refine d2 ?_ | refine d3 ?_ | refine d4 ?_ | refine go G27 400 hC (by kernel_rfl) ?_); (conv => whnf)))
      (refine Con.mono (same09 (hi2.mono hle5) (hi1.mono hle5)) ?_; rintro _ _ _ - ⟨rfl, rfl, rfl⟩; ((try (conv => whnf)); repeat ((first | refine And.intro ?_ True.intro | refine And.intro ⟨by omega, by omega⟩ ?_ | refine ⟨_, (by assumption : RO.c _ _ _ = _), ?_⟩ | refine ⟨_, _, _, (by assumption : (_ : Option Obj) = _), ?_⟩ | refine ⟨_, _, _, (by assumption : RO.c _ _ _ = _), ?_⟩ | refine ⟨_, (by assumption : Row _ _ _ _), ?_⟩ | refine ⟨_, (by assumption : Cell _ _ _ _ _), ?_⟩ | refine ⟨_, _, _, (by assumption : Cell _ _ _ _ _), ?_⟩ | refine ⟨_, Or.inl (by assumption), ?_⟩ | refine ⟨_, _, _, Or.inl (by assumption), ?_⟩ | refine And.intro (ints_one _) ?_ | refine And.intro (by omega) ?_ | refine d1 ?_ | refine d2 ?_ | refine d3 ?_ | refine d4 ?_ | refine go G27 400 hC (by kernel_rfl) ?_); (conv => whnf))))
      refine ⟨fun he2 => ?_, fun he2 => ?_⟩
      · ((try (conv => whnf)); repeat ((first | refine And.intro ?_ True.intro | refine And.intro ⟨by omega, by omega⟩ ?_ | refine ⟨_, (by assumption : RO.c _ _ _ = _), ?_⟩ | refine ⟨_, _, _, (by assumption : (_ : Option Obj) = _), ?_⟩ | refine ⟨_, _, _, (by assumption : RO.c _ _ _ = _), ?_⟩ | refine ⟨_, (by assumption : Row _ _ _ _), ?_⟩ | refine ⟨_, (by assumption : Cell _ _ _ _ _), ?_⟩ | refine ⟨_, _, _, (by assumption : Cell _ _ _ _ _), ?_⟩ | refine ⟨_, Or.inl (by assumption), ?_⟩ | refine ⟨_, _, _, Or.inl (by assumption), ?_⟩ | refine And.intro (ints_one _) ?_ | refine And.intro (by omega) ?_ | refine d1 ?_ | refine d2 ?_ | refine d3 ?_ | refine d4 ?_ | refine go G27 400 hC (by kernel_rfl) ?_); (conv => whnf)))
        have he2 : okM2 pts i k = false := by simpa [okM2] using he2
        exact ⟨by rw [mayP, allN_false hlt (by rw [okM, allN_false hlt2 he2, Bool.and_false])]; simp; rfl, rfl⟩
      · ((try (conv => whnf)); repeat ((first | refine And.intro ?_ True.intro | refine And.intro ⟨by omega, by omega⟩ ?_ | refine ⟨_, (by assumption : RO.c _ _ _ = _), ?_⟩ | refine ⟨_, _, _, (by assumption : (_ : Option Obj) = _), ?_⟩ | refine ⟨_, _, _, (by assumption : RO.c _ _ _ = _), ?_⟩ | refine ⟨_, (by assumption : Row _ _ _ _), ?_⟩ | refine ⟨_, (by assumption : Cell _ _ _ _ _), ?_⟩ | refine ⟨_, _, _, (by assumption : Cell _ _ _ _ _), ?_⟩ | refine ⟨_, Or.inl (by assumption), ?_⟩ | refine ⟨_, _, _, Or.inl (by assumption), ?_⟩ | refine And.intro (ints_one _) ?_ | refine And.intro (by omega) ?_ | refine d1 ?_ | refine d2 ?_ | refine d3 ?_ | refine d4 ?_ | refine go G27 400 hC (by kernel_rfl) ?_); (conv => whnf)))
        have he2 : okM2 pts i k = true := by simpa [okM2] using he2
        exact halt ⟨k + 1, [(2, 2)], ⟨by simp [sinj], ⟨rfl, ⟨rfl, rfl⟩, rfl, stepI (by omega), trivial⟩, rfl, trivial⟩, RO.le.refl _, ⟨hlt2, allS hn2 he2, rfl, rfl⟩, by omega⟩
    · have hge2 : k = i := by simp at hge2; omega
      ((try (conv => whnf)); repeat ((first | refine And.intro ?_ True.intro | refine And.intro ⟨by omega, by omega⟩ ?_ | refine ⟨_, (by assumption : RO.c _ _ _ = _), ?_⟩ | refine ⟨_, _, _, (by assumption : (_ : Option Obj) = _), ?_⟩ | refine ⟨_, _, _, (by assumption : RO.c _ _ _ = _), ?_⟩ | refine ⟨_, (by assumption : Row _ _ _ _), ?_⟩ | refine ⟨_, (by assumption : Cell _ _ _ _ _), ?_⟩ | refine ⟨_, _, _, (by assumption : Cell _ _ _ _ _), ?_⟩ | refine ⟨_, Or.inl (by assumption), ?_⟩ | refine ⟨_, _, _, Or.inl (by assumption), ?_⟩ | refine And.intro (ints_one _) ?_ | refine And.intro (by omega) ?_ | refine d1 ?_ | refine d2 ?_ | refine d3 ?_ | refine d4 ?_ | refine go G27 400 hC (by kernel_rfl) ?_); (conv => whnf)))
      exact halt ⟨i + 1, [(2, 2)], ⟨by simp [sinj], ⟨rfl, ⟨rfl, rfl⟩, stepI (by omega), trivial⟩, rfl, trivial⟩, hle4, ⟨hlt, allS hn (by rw [okM, he, allN_true (hge2 ▸ hn2)]; rfl), hle5, rfl⟩, by omega⟩
  · have hge : i = pts.length := by simp at hge; omega
    ((try (conv => whnf)); repeat ((first | refine And.intro ?_ True.intro | refine And.intro ⟨by omega, by omega⟩ ?_ | refine ⟨_, (by assumption : RO.c _ _ _ = _), ?_⟩ | refine ⟨_, _, _, (by assumption : (_ : Option Obj) = _), ?_⟩ | refine ⟨_, _, _, (by assumption : RO.c _ _ _ = _), ?_⟩ | refine ⟨_, (by assumption : Row _ _ _ _), ?_⟩ | refine ⟨_, (by assumption : Cell _ _ _ _ _), ?_⟩ | refine ⟨_, _, _, (by assumption : Cell _ _ _ _ _), ?_⟩ | refine ⟨_, Or.inl (by assumption), ?_⟩ | refine ⟨_, _, _, Or.inl (by assumption), ?_⟩ | refine And.intro (ints_one _) ?_ | refine And.intro (by omega) ?_ | refine d1 ?_ | refine d2 ?_ | refine d3 ?_ | refine d4 ?_ | refine go G27 400 hC (by kernel_rfl) ?_); (conv => whnf)))
    exact ⟨by rw [mayP, allN_true (hge ▸ hn), Bool.and_true, hgood]; rfl, rfl⟩
end Go.Proofs.YtoefoaabnjeofaaGreat
namespace Go.Proofs.YtoefoaabnjeofaaGreat
open Go.SX
set_option maxHeartbeats 2000000
set_option maxRecDepth 20000

/-- Three bytes of a literal. -/
def enc3 (x : Int) : List Int := [IntKind.u8.wrap x, IntKind.u8.wrap (x.fdiv (2 ^ (min (Int.toNat 8) IntKind.i64.bits))), IntKind.u8.wrap (x.fdiv (2 ^ (min (Int.toNat 16) IntKind.i64.bits)))]
def encs (l : List Int) : List Int := l.flatMap enc3
theorem encs_length (l : List Int) : (encs l).length = 3 * l.length := by
  induction l with
  | nil => rfl
  | cons x l ih => simp only [encs, List.flatMap_cons, List.length_append] at ih ⊢; rw [ih]; simp [enc3]; omega
theorem encs_take {l : List Int} {i : Nat} (h : i < l.length) : encs (l.take (i + 1)) = encs (l.take i) ++ enc3 (g l i) := by
  rw [List.take_add_one, g_get h]; simp [encs]
def G167 : Gv := ⟨[], [], []⟩
theorem text_spec {u : Value} {l : List Int} {h : RO} {m : Hp} (ha : IntS h u l) (hb : l.length ≤ 1000000000) :
    Con Tryz.prog 167 [u] h m fun e h' m' => e = .returned (.string (u8s (encs l))) ∧ m' = m := by
  obtain ⟨x, c, rfl, hr⟩ := ha.s
  have hla := ha.len
  have hw3 : IntKind.i64.wrap (3 * (l.length : Int)) = 3 * (l.length : Int) := w64 (by omega) (by omega)
  refine fn_of (nt := 30) T Tryz.func167 rfl (by kernel_rfl) Tryz.ntmps167 (by simp) T_ok T_mixed fun C hC => ?_
  simp only [Tryz.f167, argFr, Nat.zero_add, Nat.reduceAdd] at hC ⊢
  ((try (conv => whnf)); repeat ((first | refine And.intro ?_ True.intro | refine And.intro ⟨by omega, by omega⟩ ?_ | refine ⟨_, (by assumption : RO.c _ _ _ = _), ?_⟩ | refine ⟨_, _, _, (by assumption : (_ : Option Obj) = _), ?_⟩ | refine ⟨_, _, _, (by assumption : RO.c _ _ _ = _), ?_⟩ | refine ⟨_, (by assumption : Row _ _ _ _), ?_⟩ | refine ⟨_, (by assumption : Cell _ _ _ _ _), ?_⟩ | refine ⟨_, _, _, (by assumption : Cell _ _ _ _ _), ?_⟩ | refine ⟨_, Or.inl (by assumption), ?_⟩ | refine ⟨_, _, _, Or.inl (by assumption), ?_⟩ | refine And.intro (ints_one _) ?_ | refine And.intro (by omega) ?_ | refine d1 ?_ | refine d2 ?_ | refine d3 ?_ | refine d4 ?_ | refine go G167 400 hC (by kernel_rfl) ?_); (conv => whnf)))
  refine ⟨⟨rfl, by rw [hw3]; omega, by show IntKind.i64.wrap (3 * (l.length : Int)) * 1 ≤ 140737488355328; rw [hw3]; omega⟩, fun a1 c1 hrow1 => ?_⟩
  change Row h 1 (.slice a1 0 c1) [] at hrow1
  ((try (conv => whnf)); repeat ((first | refine And.intro ?_ True.intro | refine And.intro ⟨by omega, by omega⟩ ?_ | refine ⟨_, (by assumption : RO.c _ _ _ = _), ?_⟩ | refine ⟨_, _, _, (by assumption : (_ : Option Obj) = _), ?_⟩ | refine ⟨_, _, _, (by assumption : RO.c _ _ _ = _), ?_⟩ | refine ⟨_, (by assumption : Row _ _ _ _), ?_⟩ | refine ⟨_, (by assumption : Cell _ _ _ _ _), ?_⟩ | refine ⟨_, _, _, (by assumption : Cell _ _ _ _ _), ?_⟩ | refine ⟨_, Or.inl (by assumption), ?_⟩ | refine ⟨_, _, _, Or.inl (by assumption), ?_⟩ | refine And.intro (ints_one _) ?_ | refine And.intro (by omega) ?_ | refine d1 ?_ | refine d2 ?_ | refine d3 ?_ | refine d4 ?_ | refine go G167 400 hC (by kernel_rfl) ?_); (conv => whnf)))
  refine halt (sx_loop (X := Nat × Value) (fun i => [(3, .own 3 i.2), (10, .v (.slice x l.length c)), (11, .v (.int .i64 l.length)), (12, .v (.int .i64 i.1))])
    (fun i => [(3, .row i.2 5 1 (3 * i.1) ((encs (l.take i.1)).map (.int .u8)))])
    (fun i h' m' => i.1 ≤ l.length ∧ (∃ a c, i.2 = .slice a (3 * i.1) c ∧ Row h' 1 i.2 ((encs (l.take i.1)).map (.int .u8))) ∧ h.le h' ∧ m' = m) (fun i => l.length - i.1) (0, .slice a1 0 c1) ⟨[(3, 9)], ?_⟩ ⟨by simp, ⟨a1, c1, rfl, hrow1⟩, RO.le.refl _, rfl⟩ ?_)
  · exact ⟨by simp [sinj], ⟨⟨rfl, rfl⟩, rfl, rfl, rfl, trivial⟩, rfl, trivial⟩
  rintro ⟨i, s⟩ h' m' _ ⟨hi, hn, hle, rfl⟩
  dsimp only at hi hn ⊢
  ((try (conv => whnf)); repeat ((first | refine And.intro ?_ True.intro | refine And.intro ⟨by omega, by omega⟩ ?_ | refine ⟨_, (by assumption : RO.c _ _ _ = _), ?_⟩ | refine ⟨_, _, _, (by assumption : (_ : Option Obj) = _), ?_⟩ | refine ⟨_, _, _, (by assumption : RO.c _ _ _ = _), ?_⟩ | refine ⟨_, (by assumption : Row _ _ _ _), ?_⟩ | refine ⟨_, (by assumption : Cell _ _ _ _ _), ?_⟩ | refine ⟨_, _, _, (by assumption : Cell _ _ _ _ _), ?_⟩ | refine ⟨_, Or.inl (by assumption), ?_⟩ | refine ⟨_, _, _, Or.inl (by assumption), ?_⟩ | refine And.intro (ints_one _) ?_ | refine And.intro (by omega) ?_ | refine d1 ?_ | refine d2 ?_ | refine d3 ?_ | refine d4 ?_ | refine go G167 400 hC (by kernel_rfl) ?_); (conv => whnf)))
  obtain ⟨a2, c2, rfl, hrow⟩ := hn
  refine ⟨fun hlt => ?_, fun hge => ?_⟩
  · have hlt : i < l.length := by simpa using hlt
    obtain ⟨p, q, rfl, hc⟩ := (ha.mono hle).get hlt
    have c1 := hc i hlt
    ((try (conv => whnf)); repeat ((first | refine And.intro ?_ True.intro | refine And.intro ⟨by omega, by omega⟩ ?_ | refine ⟨_, (by assumption : RO.c _ _ _ = _), ?_⟩ | refine ⟨_, _, _, (by assumption : (_ : Option Obj) = _), ?_⟩ | refine ⟨_, _, _, (by assumption : RO.c _ _ _ = _), ?_⟩ | refine ⟨_, (by assumption : Row _ _ _ _), ?_⟩ | refine ⟨_, (by assumption : Cell _ _ _ _ _), ?_⟩ | refine ⟨_, _, _, (by assumption : Cell _ _ _ _ _), ?_⟩ | refine ⟨_, Or.inl (by assumption), ?_⟩ | refine ⟨_, _, _, Or.inl (by assumption), ?_⟩ | refine And.intro (ints_one _) ?_ | refine And.intro (by omega) ?_ | refine d1 ?_ | refine d2 ?_ | refine d3 ?_ | refine d4 ?_ | refine go G167 400 hC (by kernel_rfl) ?_); (conv => whnf)))
    refine ⟨rfl, by show (3 * i + 3) * 1 ≤ 140737488355328; omega, fun a3 c3 h2 hle2 hrow2 => ?_⟩
    change Row h2 1 (.slice a3 (3 * i + 3) c3) ((encs (l.take i)).map (.int .u8) ++ (enc3 (g l i)).map (.int .u8)) at hrow2
    rw [← List.map_append, ← encs_take hlt] at hrow2
    ((try (conv => whnf)); repeat ((first | refine And.intro ?_ True.intro | refine And.intro ⟨by omega, by omega⟩ ?_ | refine ⟨_, (by assumption : RO.c _ _ _ = _), ?_⟩ | refine ⟨_, _, _, (by assumption : (_ : Option Obj) = _), ?_⟩ | refine ⟨_, _, _, (by assumption : RO.c _ _ _ = _), ?_⟩ | refine ⟨_, (by assumption : Row _ _ _ _), ?_⟩ | refine ⟨_, (by assumption : Cell _ _ _ _ _), ?_⟩ | refine ⟨_, _, _, (by assumption : Cell _ _ _ _ _), ?_⟩ | refine ⟨_, Or.inl (by assumption), ?_⟩ | refine ⟨_, _, _, Or.inl (by assumption), ?_⟩ | refine And.intro (ints_one _) ?_ | refine And.intro (by omega) ?_ | refine d1 ?_ | refine d2 ?_ | refine d3 ?_ | refine d4 ?_ | refine go G167 400 hC (by kernel_rfl) ?_); (conv => whnf)))
    refine halt ⟨(i + 1, .slice a3 (3 * i + 3) c3), [(3, 26)], ⟨by simp [sinj], ⟨⟨rfl, rfl⟩, rfl, rfl, stepI (by omega), trivial⟩, ?_, trivial⟩, hle2, ⟨hlt, ⟨a3, c3, rfl, hrow2⟩, hle.trans hle2, rfl⟩, by dsimp only; omega⟩
    show some (BS.row _ _ _ (3 * i + 3) ((encs (l.take i)).map (.int .u8) ++ (enc3 (g l i)).map (.int .u8))) = _
    rw [← List.map_append, ← encs_take hlt]; rfl
  · have hge : i = l.length := by simp at hge; omega
    subst hge
    rw [List.take_length] at hrow
    ((try (conv => whnf)); repeat ((first | refine And.intro ?_ True.intro | refine And.intro ⟨by omega, by omega⟩ ?_ | refine ⟨_, (by assumption : RO.c _ _ _ = _), ?_⟩ | refine ⟨_, _, _, (by assumption : (_ : Option Obj) = _), ?_⟩ | refine ⟨_, _, _, (by assumption : RO.c _ _ _ = _), ?_⟩ | refine ⟨_, (by assumption : Row _ _ _ _), ?_⟩ | refine ⟨_, (by assumption : Cell _ _ _ _ _), ?_⟩ | refine ⟨_, _, _, (by assumption : Cell _ _ _ _ _), ?_⟩ | refine ⟨_, Or.inl (by assumption), ?_⟩ | refine ⟨_, _, _, Or.inl (by assumption), ?_⟩ | refine And.intro (ints_one _) ?_ | refine And.intro (by omega) ?_ | refine d1 ?_ | refine d2 ?_ | refine d3 ?_ | refine d4 ?_ | refine go G167 400 hC (by kernel_rfl) ?_); (conv => whnf)))
    exact ⟨rfl, rfl⟩
end Go.Proofs.YtoefoaabnjeofaaGreat
