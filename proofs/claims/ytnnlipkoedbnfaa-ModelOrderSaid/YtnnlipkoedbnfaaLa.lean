/- Laws of single operations of the model, over environments and heaps. -/
import Derived.WalkKit
import Derived.KernelRfl
import Derived.OrdersHeld
import Derived.ChangeKeysEq
import Derived.Laws.StructEq
set_option linter.unusedVariables false
namespace Go
namespace Lf

abbrev Hp := Array Obj
abbrev Env := Nat → Value
def Env.upd (ρ : Env) (d : Nat) (v : Value) : Env := fun t => bif Nat.beq t d then v else ρ t
def Env.ev (ρ : Env) : Operand → Value
  | .tmp t => ρ t
  | .const v => v
  | .global g => .pointer (some ⟨g, 0, none⟩)
  | .func f => .func (.func f) #[] #[]

/-- what a run leaves alone -/
structure Still (w w' : World) : Prop where
  os : w'.os = w.os
  tape : w'.tape = w.tape
  output : w'.output = w.output
  size : w.heap.size ≤ w'.heap.size
theorem Still.refl (w : World) : Still w w := ⟨rfl, rfl, rfl, Nat.le_refl _⟩
theorem Still.trans {a b c : World} (h : Still a b) (k : Still b c) : Still a c :=
  ⟨k.os.trans h.os, k.tape.trans h.tape, k.output.trans h.output, Nat.le_trans h.size k.size⟩

structure Rep (n : Nat) (a : Act) (ρ : Env) : Prop where
  defers : a.defers = []
  size : a.tmps.size = n
  get : ∀ t, a.tmps.getD t undef = ρ t

theorem Rep.ev {n : Nat} {a : Act} {ρ : Env} (h : Rep n a ρ) : a.eval = ρ.ev := by
  funext o
  cases o <;> simp [Act.eval, Env.ev, h.get]

theorem beq_ne {t d : Nat} (e : t ≠ d) : Nat.beq t d = false := by
  rw [Bool.eq_false_iff]; intro h; exact e (Nat.eq_of_beq_eq_true h)
theorem beq_same (t : Nat) : Nat.beq t t = true := by simp

theorem Rep.put {n : Nat} {a : Act} {ρ : Env} (h : Rep n a ρ) {d : Nat} (v : Value) (hd : d < n) : Rep n (a.put (some d) v) (ρ.upd d v) := by
  refine ⟨h.defers, by simp [Act.put, h.size], fun t => ?_⟩
  have hs := h.size
  simp only [Act.put, Env.upd]
  by_cases e : t = d
  · subst e
    rw [beq_same, Array.getD_eq_getD_getElem?]
    simp [hs, hd]
  · rw [beq_ne e, Array.getD_eq_getD_getElem?, Array.getElem?_setIfInBounds_ne (Ne.symm e), ← Array.getD_eq_getD_getElem?]
    exact h.get t

theorem Rep.put_none {n : Nat} {a : Act} {ρ : Env} (h : Rep n a ρ) (v : Value) : Rep n (a.put none v) ρ := h

abbrev Post := Exit → Env → Hp → Prop

def up (n : Nat) (w : World) (Q : Post) : Exit → Act → World → Prop := fun e a w' => Still w w' ∧ ∃ ρ, Rep n a ρ ∧ Q e ρ w'.heap

theorem up_trans {n : Nat} {w w1 : World} {Q : Post} (h : Still w w1) {e : Exit} {a : Act} {w' : World} (k : up n w1 Q e a w') : up n w Q e a w' :=
  ⟨h.trans k.1, k.2⟩

/-- weakest precondition over environments and heaps -/
def wpE (P : Program) (n : Nat) (c : Code) (Q : Post) (ρ : Env) (h : Hp) : Prop :=
  ∀ w a, w.heap = h → Rep n a ρ → c.wp P (up n w Q) a w

def wpL (P : Program) (n : Nat) (ops : Array Oper) (l : List Oper) (Q : Post) (ρ : Env) (h : Hp) : Prop :=
  ∀ w a, w.heap = h → Rep n a ρ → wpList P ops (up n w Q) l a w

/-- calls over heaps -/
def CallsH (P : Program) (f : FuncId) (args : Array Value) (h : Hp) (R : Ending → Hp → Prop) : Prop :=
  ∀ w, w.heap = h → Calls P f args w fun e w' => Still w w' ∧ R e w'.heap

theorem CallsH.mono {P : Program} {f : FuncId} {args : Array Value} {h : Hp} {R R' : Ending → Hp → Prop} (hc : CallsH P f args h R) (hr : ∀ e h, R e h → R' e h) :
    CallsH P f args h R' := fun w hw => (hc w hw).mono fun _ _ ⟨s, r⟩ => ⟨s, hr _ _ r⟩

/-- a call returns, with a typed result -/
def Rt {α : Type} (enc : α → Value) (Q : α → Hp → Prop) (e : Ending) (h : Hp) : Prop := ∃ r, e = .returned (enc r) ∧ Q r h
/-- a call returns, or panics -/
def RtE {α : Type} (enc : α → Value) (Q : α → Hp → Prop) (E : List PanicEntry → Hp → Prop) : Ending → Hp → Prop
  | .returned v, h => ∃ r, v = enc r ∧ Q r h
  | .panicked c, h => E c h
  | .outgrown, _ => False

section
variable {P : Program} {n : Nat} {Q Q' : Post} {ρ : Env} {h : Hp}

theorem wpE_mono {c : Code} (hc : wpE P n c Q ρ h) (hq : ∀ e ρ w, Q e ρ w → Q' e ρ w) : wpE P n c Q' ρ h :=
  fun w a hw ha => wp_mono (hc w a hw ha) fun _ _ _ ⟨s, ρ, hr, hq'⟩ => ⟨s, ρ, hr, hq _ _ _ hq'⟩

theorem wpE_skip (hq : Q .normal ρ h) : wpE P n .skip Q ρ h := fun w _ hw ha => wp_skip ⟨.refl w, ρ, ha, hw ▸ hq⟩
theorem wpE_ret (hq : Q .ret ρ h) : wpE P n .ret Q ρ h := fun w _ hw ha => wp_ret ⟨.refl w, ρ, ha, hw ▸ hq⟩
theorem wpE_exit {id : Nat} (hq : Q (.exit id) ρ h) : wpE P n (.exit id) Q ρ h := fun w _ hw ha => wp_exit ⟨.refl w, ρ, ha, hw ▸ hq⟩

/-- what follows a statement -/
def Seq (k : Env → Hp → Prop) (Q : Post) : Post
  | .normal, ρ, h => k ρ h
  | e, ρ, h => Q e ρ h
theorem wpE_seq {x y : Code} (hx : wpE P n x (Seq (wpE P n y Q) Q) ρ h) : wpE P n (.seq x y) Q ρ h := by
  intro w a hw ha
  refine wp_seq (wp_mono (hx w a hw ha) ?_)
  rintro e a w1 ⟨s, ρ, hr, hq⟩
  cases e with
  | normal => exact wp_mono (hq w1 a rfl hr) fun _ _ _ k => up_trans s k
  | _ => exact ⟨s, ρ, hr, hq⟩

theorem wpE_true {c : Operand} {x y : Code} (hc : ρ.ev c = .bool true) (hx : wpE P n x Q ρ h) : wpE P n (.cond c x y) Q ρ h :=
  fun w a hw ha => wp_cond_true (by rw [ha.ev]; exact hc) (hx w a hw ha)
theorem wpE_false {c : Operand} {x y : Code} (hc : ρ.ev c = .bool false) (hy : wpE P n y Q ρ h) : wpE P n (.cond c x y) Q ρ h :=
  fun w a hw ha => wp_cond_false (by rw [ha.ev]; exact hc) (hy w a hw ha)

/-- the two ways of a test, in a formula -/
def If (t : Bool) (A B : Prop) : Prop := (t = true → A) ∧ (t = false → B)
theorem wpE_cond {c : Operand} {x y : Code} {t : Bool} {A B : Prop} (hc : ρ.ev c = .bool t) (hf : If t A B)
    (hx : A → wpE P n x Q ρ h) (hy : B → wpE P n y Q ρ h) : wpE P n (.cond c x y) Q ρ h := by
  cases t
  · exact wpE_false hc (hy (hf.2 rfl))
  · exact wpE_true hc (hx (hf.1 rfl))

def Blk (id : Nat) (Q : Post) : Post
  | .exit id', ρ, h => bif Nat.beq id' id then Q .normal ρ h else Q (.exit id') ρ h
  | e, ρ, h => Q e ρ h
theorem wpE_block {id : Nat} {c : Code} (hc : wpE P n c (Blk id Q) ρ h) : wpE P n (.block id c) Q ρ h := by
  intro w a hw ha
  refine wp_block (wp_mono (hc w a hw ha) ?_)
  rintro e a w1 ⟨s, ρ, hr, hq⟩
  cases e with
  | exit id' =>
    simp only [Exit.inBlock]
    by_cases hid : id' = id
    · subst hid
      simp only [Blk, beq_same, cond_true] at hq
      simp only [if_true]; exact ⟨s, ρ, hr, hq⟩
    · simp only [Blk, beq_ne hid, cond_false] at hq
      simp only [hid, if_false]; exact ⟨s, ρ, hr, hq⟩
  | _ => exact ⟨s, ρ, hr, hq⟩

theorem least {p : Nat → Prop} (h : ∃ m, p m) : ∃ m, p m ∧ ∀ k, p k → m ≤ k := by
  obtain ⟨m, hm⟩ := h
  induction m using Nat.strongRecOn with
  | _ m ih =>
    by_cases hx : ∃ k, k < m ∧ p k
    · obtain ⟨k, hk, hp⟩ := hx; exact ih k hk hp
    · exact ⟨m, hm, fun k hk => Nat.le_of_not_lt fun hlt => hx ⟨k, hlt, hk⟩⟩

theorem wpE_loop {c : Code} (I : Nat → Env → Hp → Prop) {m : Nat} (h₀ : I m ρ h)
    (round : ∀ m ρ h, I m ρ h → wpE P n c (Seq (fun ρ' h' => ∃ m', m' < m ∧ I m' ρ' h') Q) ρ h) : wpE P n (.loop c) Q ρ h := by
  classical
  intro w a hw ha
  let J : World → Act → World → Nat → Prop := fun w₀ a w' m => Still w₀ w' ∧ ∃ ρ, Rep n a ρ ∧ I m ρ w'.heap
  refine wp_loop (fun a w' => ∃ m, J w a w' m) (fun a w' => if hx : ∃ m, J w a w' m then Classical.choose (least hx) else 0) ⟨m, .refl w, ρ, ha, hw ▸ h₀⟩ ?_
  intro a w1 hex
  obtain ⟨s, ρ, hr, hI⟩ := (Classical.choose_spec (least hex)).1
  refine wp_mono (round _ ρ w1.heap hI w1 a rfl hr) ?_
  rintro e a' w' ⟨s', ρ', hr', hq⟩
  cases e with
  | normal =>
    obtain ⟨m', hlt, hI'⟩ := hq
    have hex' : ∃ m, J w a' w' m := ⟨m', s.trans s', ρ', hr', hI'⟩
    refine ⟨hex', ?_⟩
    simp only [dif_pos hex, dif_pos hex']
    exact Nat.lt_of_le_of_lt ((Classical.choose_spec (least hex')).2 _ ⟨s.trans s', ρ', hr', hI'⟩) hlt
  | _ => exact ⟨s.trans s', ρ', hr', hq⟩

theorem wpE_region {id : Nat} {ops : Array Oper} (hl : wpL P n ops ops.toList Q ρ h) : wpE P n (.region id ops false) Q ρ h :=
  fun w a hw ha => wp_region (by
    have e := wpOps_eq_wpList (P := P) (Q := up n w Q) (ops := ops) ops.toList 0 (by simp)
    rw [List.range_eq_range', show ops.size = ops.toList.length from by simp, e]
    exact hl w a hw ha)

theorem wpL_nil {ops : Array Oper} (hq : Q .normal ρ h) : wpL P n ops [] Q ρ h := fun w _ hw ha => ⟨.refl w, ρ, ha, hw ▸ hq⟩

theorem wanted_none {o : Oper} {ops : Array Oper} {t : Array Value} (hg : o.guard = none) : Region.wanted o (yielded ops t) = true := by
  simp [Region.wanted, hg]

variable {ops : Array Oper} {rest : List Oper} {o : Oper}

theorem wpList_up {w w1 : World} (s : Still w w1) : ∀ (l : List Oper) (a : Act) (w' : World), wpList P ops (up n w1 Q) l a w' → wpList P ops (up n w Q) l a w'
  | [], _, _, hk => up_trans s hk
  | o :: l, a, w', hk => by
    simp only [wpList] at hk ⊢
    split
    · rename_i hw
      simp only [hw, if_true] at hk
      rcases hk with hk | ⟨h1, a0, w0, h2⟩
      · refine .inl ?_
        unfold Oper.wp at *
        generalize (execOp a.eval o).run P w' = r at *
        cases r with
        | ok x w'' =>
          cases x <;> simp only [Oper.upon] at hk ⊢
          case value v => exact wpList_up s l _ _ hk
          case skip => exact wpList_up s l _ _ hk
          case defer d => exact wpList_up s l _ _ hk
          case enter f args =>
            refine hk.mono fun e w3 he => ?_
            cases e with
            | returned v => exact wpList_up s l _ _ he
            | panicked c => exact up_trans s he
            | outgrown => obtain ⟨a0, w0, h2⟩ := he; exact ⟨a0, w0, up_trans s h2⟩
          case row r args => exact hk.mono fun v w3 he => wpList_up s l _ _ he
        | halt x w'' =>
          cases x <;> simp only [Oper.upon] at hk ⊢
          case panic v => exact up_trans s hk
      · exact .inr ⟨h1, a0, w0, up_trans s h2⟩
    · rename_i hw
      simp only [hw] at hk
      exact wpList_up s l _ _ hk

/-- an operation that yields a value -/
theorem wpL_op {d : Nat} (hg : o.guard = none) (hd : o.dst = some d) (hn : Nat.blt d n = true)
    (hr : ∀ w, w.heap = h → ∃ v w', (execOp ρ.ev o).run P w = .ok (.value v) w' ∧ Still w w' ∧ wpL P n ops rest Q (ρ.upd d v) w'.heap) : wpL P n ops (o :: rest) Q ρ h := by
  intro w a hw ha
  simp only [wpList, wanted_none hg, if_true]
  refine .inl ?_
  obtain ⟨v, w', h1, s, h2⟩ := hr w hw
  unfold Oper.wp
  rw [ha.ev, h1, Oper.upon_value, hd]
  exact wpList_up s _ _ _ (h2 w' _ rfl (ha.put v (by simpa [Nat.blt_eq] using hn)))

theorem wpL_op0 (hg : o.guard = none) (hd : o.dst = none)
    (hr : ∀ w, w.heap = h → ∃ v w', (execOp ρ.ev o).run P w = .ok (.value v) w' ∧ Still w w' ∧ wpL P n ops rest Q ρ w'.heap) : wpL P n ops (o :: rest) Q ρ h := by
  intro w a hw ha
  simp only [wpList, wanted_none hg, if_true]
  refine .inl ?_
  obtain ⟨v, w', h1, s, h2⟩ := hr w hw
  unfold Oper.wp
  rw [ha.ev, h1, Oper.upon_value, hd]
  exact wpList_up s _ _ _ (h2 w' _ rfl ha)

theorem wpL_skip (hg : o.guard = none) (hd : o.dst = none)
    (hr : ∀ w, w.heap = h → ∃ w', (execOp ρ.ev o).run P w = .ok .skip w' ∧ Still w w' ∧ wpL P n ops rest Q ρ w'.heap) : wpL P n ops (o :: rest) Q ρ h := by
  intro w a hw ha
  simp only [wpList, wanted_none hg, if_true]
  refine .inl ?_
  obtain ⟨w', h1, s, h2⟩ := hr w hw
  unfold Oper.wp
  rw [ha.ev, h1, Oper.upon_skip, hd]
  exact wpList_up s _ _ _ (h2 w' _ rfl ha)

/-- a value that hangs on nothing in the world -/
theorem wpL_val {d : Nat} {v : Value} (hg : o.guard = none) (hd : o.dst = some d) (hn : Nat.blt d n = true)
    (hr : ∀ w, w.heap = h → (execOp ρ.ev o).run P w = .ok (.value v) w) (hk : wpL P n ops rest Q (ρ.upd d v) h) : wpL P n ops (o :: rest) Q ρ h :=
  wpL_op hg hd hn fun w hw => ⟨v, w, hr w hw, .refl w, hw ▸ hk⟩

/-- a call -/
theorem wpL_enter {d : Nat} {f : FuncId} {args : Array Value} {R : Ending → Hp → Prop} (hg : o.guard = none) (hd : o.dst = some d) (hn : Nat.blt d n = true)
    (hr : ∀ w, w.heap = h → (execOp ρ.ev o).run P w = .ok (.enter f args) w) (hc : CallsH P f args h R)
    (hk : ∀ e h', R e h' → match e with
      | .returned v => wpL P n ops rest Q (ρ.upd d v) h'
      | .panicked ch => Q (.panic ch) ρ h'
      | .outgrown => False) : wpL P n ops (o :: rest) Q ρ h := by
  intro w a hw ha
  simp only [wpList, wanted_none hg, if_true]
  refine .inl ?_
  unfold Oper.wp
  rw [ha.ev, hr w hw, Oper.upon_enter, hd]
  refine (hc w hw).mono ?_
  rintro e w'' ⟨s, he⟩
  have := hk e _ he
  cases e with
  | returned v => exact wpList_up s _ _ _ (this w'' _ rfl (ha.put v (by simpa [Nat.blt_eq] using hn)))
  | panicked ch => exact ⟨s, ρ, ha, this⟩
  | outgrown => exact this.elim

theorem wpL_enter0 {f : FuncId} {args : Array Value} {R : Ending → Hp → Prop} (hg : o.guard = none) (hd : o.dst = none)
    (hr : ∀ w, w.heap = h → (execOp ρ.ev o).run P w = .ok (.enter f args) w) (hc : CallsH P f args h R)
    (hk : ∀ e h', R e h' → match e with
      | .returned _ => wpL P n ops rest Q ρ h'
      | .panicked ch => Q (.panic ch) ρ h'
      | .outgrown => False) : wpL P n ops (o :: rest) Q ρ h := by
  intro w a hw ha
  simp only [wpList, wanted_none hg, if_true]
  refine .inl ?_
  unfold Oper.wp
  rw [ha.ev, hr w hw, Oper.upon_enter, hd]
  refine (hc w hw).mono ?_
  rintro e w'' ⟨s, he⟩
  have := hk e _ he
  cases e with
  | returned v => exact wpList_up s _ _ _ (this w'' _ rfl ha)
  | panicked ch => exact ⟨s, ρ, ha, this⟩
  | outgrown => exact this.elim

theorem yielded_of {g t : Nat} {b : Bool} {og : Oper} {a : Act} (ha : Rep n a ρ) (hog : ops[g]? = some og) (ht : og.dst = some t) (hv : ρ t = .bool b) :
    yielded ops a.tmps g = some b := by
  have h2 := ha.get t
  rw [hv] at h2
  unfold yielded
  rw [hog, Option.bind_some, ht, Option.bind_some]
  rw [Array.getD_eq_getD_getElem?] at h2
  cases hx : a.tmps[t]? with
  | none => rw [hx] at h2; simp [undef] at h2
  | some x => rw [hx] at h2; simp only [Option.getD_some] at h2; rw [h2]

/-- a guarded operation, its guard met: the rest as if it were unguarded -/
theorem wpL_guard {g t : Nat} {b want : Bool} {og : Oper} (hg : o.guard = some (g, want)) (hog : ops[g]? = some og) (ht : og.dst = some t) (hv : ρ t = .bool b)
    (hb : (b == want) = true) (hk : wpL P n ops (⟨o.dst, o.op, o.type, o.pos, o.after, none⟩ :: rest) Q ρ h) : wpL P n ops (o :: rest) Q ρ h := by
  intro w a hw ha
  have h1 := hk w a hw ha
  have hw : Region.wanted o (yielded ops a.tmps) = true := by
    unfold Region.wanted; rw [hg]; simp only [yielded_of ha hog ht hv]; simpa using hb
  simp only [wpList, wanted_none (o := ⟨o.dst, o.op, o.type, o.pos, o.after, none⟩) rfl, if_true] at h1
  simp only [wpList, hw, if_true]
  exact h1

theorem wpL_pass {g t d : Nat} {b want : Bool} {og : Oper} (hg : o.guard = some (g, want)) (hd : o.dst = some d) (hn : Nat.blt d n = true) (hog : ops[g]? = some og) (ht : og.dst = some t) (hv : ρ t = .bool b)
    (hb : (b == want) = false) (hk : wpL P n ops rest Q (ρ.upd d undef) h) : wpL P n ops (o :: rest) Q ρ h := by
  intro w a hw ha
  have hw' : Region.wanted o (yielded ops a.tmps) = false := by
    unfold Region.wanted; rw [hg]; simp only [yielded_of ha hog ht hv]; simpa using hb
  simp only [wpList, hw', if_false, Bool.false_eq_true]
  rw [hd]
  exact hk w _ hw (ha.put undef (by simpa [Nat.blt_eq] using hn))

/-- a guarded operation whose guard was itself passed over (its slot holds no bool) -/
theorem wpL_pass_undef {g t d : Nat} {want : Bool} {og : Oper} (hg : o.guard = some (g, want)) (hd : o.dst = some d) (hn : Nat.blt d n = true) (hog : ops[g]? = some og) (ht : og.dst = some t) (hv : ρ t = undef)
    (hk : wpL P n ops rest Q (ρ.upd d undef) h) : wpL P n ops (o :: rest) Q ρ h := by
  intro w a hw ha
  have hy : yielded ops a.tmps g = none := by
    have h2 := ha.get t
    rw [hv] at h2
    unfold yielded
    rw [hog, Option.bind_some, ht, Option.bind_some]
    rw [Array.getD_eq_getD_getElem?] at h2
    cases hx : a.tmps[t]? with
    | none => rfl
    | some x => rw [hx] at h2; simp only [Option.getD_some] at h2; rw [h2]; rfl
  have hw' : Region.wanted o (yielded ops a.tmps) = false := by
    unfold Region.wanted; rw [hg]; simp only [hy]; rfl
  simp only [wpList, hw', if_false, Bool.false_eq_true]
  rw [hd]
  exact hk w _ hw (ha.put undef (by simpa [Nat.blt_eq] using hn))
end

/-- entering a function -/
def entry (args : List Value) : Env := fun t => args.getD t undef
def resE (ρ : Env) : ResultVar → Sem Value
  | .tmp t => pure (ρ t)
  | .cell a t => do loadVar t (← asAddr (ρ a))
def resV (fn : Func) (ρ : Env) : Sem Value := do
  let vs ← fn.results.mapM (resE ρ)
  pure (if h : vs.size = 1 then vs[0] else .tuple vs)
def Body (P : Program) (fn : Func) (R : Ending → Hp → Prop) : Post
  | .normal, ρ, h | .ret, ρ, h => ∃ v, (∀ w, w.heap = h → (resV fn ρ).run P w = .ok v w) ∧ R (.returned v) h
  | .panic chain, _, h => R (.panicked chain) h
  | _, _, _ => False

theorem results_rep {n : Nat} {fn : Func} {a : Act} {ρ : Env} (hr : Rep n a ρ) : results fn a.tmps = resV fn ρ := by
  unfold results resV
  congr 1
  congr 1
  funext x
  cases x <;> simp [resE, hr.get]

theorem calls_of {P : Program} {f : FuncId} {fn : Func} {c : Code} {args : Array Value} {h : Hp} {R : Ending → Hp → Prop} (n : Nat)
    (hf : P.funcs[f]? = some fn) (hb : fn.body = some c) (hn : args.size + (fn.ntmps - args.size) = n)
    (hc : wpE P n c (Body P fn R) (entry args.toList) h) : CallsH P f args h R := by
  intro w hw
  refine calls_of_wp hf hb (wp_mono (hc w { tmps := args ++ Array.replicate (fn.ntmps - args.size) undef, defers := [] } hw ⟨rfl, by simpa using hn, ?_⟩) ?_)
  · intro t
    simp only [entry, Array.getD_eq_getD_getElem?, List.getD_eq_getElem?_getD]
    by_cases ht : t < args.size
    · simp [Array.getElem?_append, ht]
    · rw [Array.getElem?_append, if_neg ht]
      rw [List.getElem?_eq_none (by simpa using ht)]
      simp only [Option.getD_none]
      by_cases h2 : t - args.size < fn.ntmps - args.size
      · rw [Array.getElem?_replicate, if_pos h2]; rfl
      · rw [Array.getElem?_replicate, if_neg h2]; rfl
  · rintro e a w' ⟨s, ρ, hr, hq⟩
    cases e with
    | normal =>
      obtain ⟨v, h1, h2⟩ := hq
      exact ⟨hr.defers, v, by rw [results_rep hr]; exact h1 w' rfl, s, h2⟩
    | ret =>
      obtain ⟨v, h1, h2⟩ := hq
      exact ⟨hr.defers, v, by rw [results_rep hr]; exact h1 w' rfl, s, h2⟩
    | panic ch => exact ⟨hr.defers, s, hq⟩
    | exit id => exact hq.elim
    | goto l => exact hq.elim
    | outgrown => exact hq.elim
end Lf
end Go
namespace Go
namespace Lf

abbrev Str := List UInt8
def bs (l : Str) : ByteArray := ⟨⟨l⟩⟩
structure Sl where
  a : Option Addr
  len : Nat
  cap : Nat
def Sl.enc (s : Sl) : Value := .slice s.a s.len s.cap
def Sl.nil : Sl := ⟨none, 0, 0⟩
def vS (s : Str) : Value := .string (bs s)
abbrev w64 (x : Int) : Int := IntKind.i64.wrap x

def Hp.cell? (h : Hp) (a : Addr) : Option Value :=
  match h[a.block]? with
  | some (.cells c _ _) => if a.spot.isSome then none else c[a.off]?
  | _ => none
def Hp.frozen? (h : Hp) (a : Addr) : Bool :=
  match h[a.block]? with
  | some (.cells _ _ (lo, hi)) => lo ≤ a.off && a.off < hi
  | _ => false
def Hp.setCell (h : Hp) (a : Addr) (v : Value) : Hp :=
  h.modify a.block fun
      | .cells c elem frozen => .cells (if a.spot.isSome then c else c.setIfInBounds a.off v) elem frozen
      | o => o
theorem cell_heap (w : World) (a : Addr) : w.cell? a = Hp.cell? w.heap a := rfl
theorem frozen_heap (w : World) (a : Addr) : w.frozen? a = Hp.frozen? w.heap a := rfl
theorem setCell_heap (w : World) (a : Addr) (v : Value) : (w.setCell a v).heap = Hp.setCell w.heap a v := rfl

/-! ### the words of a formula -/
def Ld {α : Type} (enc : α → Value) (h : Hp) (a : Addr) (k : α → Prop) : Prop := ∃ x, Hp.cell? h a = some (enc x) ∧ k x
def Row (h : Hp) (a : Addr) (cs : List Value) : Prop := ∀ i v, cs[i]? = some v → Hp.cell? h (a.add i) = some v
def LdA {α : Type} (cells : α → List Value) (h : Hp) (a : Addr) (k : α → Prop) : Prop := ∃ x, Row h a (cells x) ∧ k x
def Free (h : Hp) (a : Addr) (n : Nat) : Prop := ∀ i, i < n → (∃ v, Hp.cell? h (a.add i) = some v) ∧ Hp.frozen? h (a.add i) = false
def setCells (h : Hp) (a : Addr) : Nat → List Value → Hp
  | _, [] => h
  | i, v :: vs => setCells (Hp.setCell h (a.add i) v) a (i + 1) vs
def St (h : Hp) (a : Addr) (v : Value) (k : Hp → Prop) : Prop := (∃ u, Hp.cell? h a = some u) ∧ Hp.frozen? h a = false ∧ k (Hp.setCell h a v)
def StA (h : Hp) (a : Addr) (vs : List Value) (k : Hp → Prop) : Prop := Free h a vs.length ∧ k (setCells h a 0 vs)
def Nn (p : Option Addr) (k : Addr → Prop) : Prop := ∃ a, p = some a ∧ k a
def Ix (s : Sl) (i : Int) (sz : Nat) (k : Addr → Prop) : Prop := ∃ a, s.a = some a ∧ 0 ≤ i ∧ i < (s.len : Int) ∧ k (a.add (i.toNat * sz))
def Al (h : Hp) (cs : List Value) (k : Addr → Hp → Prop) : Prop := ∀ T, k ⟨h.size, 0, none⟩ (h.push (.cells cs.toArray T))
def Am (h : Hp) (k : Option Nat → Hp → Prop) : Prop := k (some h.size) (h.push (.map #[] 0))
def Ob (p : Prop) (k : Prop) : Prop := p ∧ k
def J {α : Type} (K : α → Hp → Prop) (B : (α → Hp → Prop) → Prop) : Prop := ∃ I : α → Hp → Prop, (∀ x h, I x h → K x h) ∧ B I
def LoopF {σ : Type} (s0 : σ) (h : Hp) (body : σ → Hp → (σ → Hp → Prop) → Prop) : Prop :=
  ∃ (I : Nat → σ → Hp → Prop) (m : Nat), I m s0 h ∧ ∀ m s h, I m s h → body s h (fun s' h' => ∃ m', m' < m ∧ I m' s' h')

/-! ### facts on types -/
structure TyS (P : Program) (t : TypeId) (n : Nat) (agg : Bool) : Prop where
  agg : ∀ w, (isAgg t).run P w = .ok agg w
  size : ∀ w, (sizeOf t).run P w = .ok n w
def aggD : TypeDesc → Bool
  | .struct _ | .array _ _ => true
  | _ => false
theorem run_underlying {P : Program} {t : TypeId} {d : TypeDesc} (hu : P.underlying t = some d) (w : World) : (underlying t).run P w = .ok d w := by
  simp [underlying, program, Sem.run_bind, Sem.run, hu]
theorem tyS {P : Program} {t : TypeId} {d : TypeDesc} {n : Nat} (hu : P.underlying t = some d) (hi : (P.info? t).map (·.size) = some n) : TyS P t n (aggD d) := by
  refine ⟨fun w => ?_, fun w => ?_⟩
  · unfold isAgg
    rw [Sem.run_bind, run_underlying hu]
    cases d <;> rfl
  · obtain ⟨i, hi1, hi2⟩ := Option.map_eq_some_iff.1 hi
    simp [sizeOf, typeInfo, program, Sem.run_bind, Sem.run, hi1, hi2]
def TyZ (P : Program) (t : TypeId) (z : Value) : Prop := ∀ w, (zeroValue t).run P w = .ok z w
theorem tyZ {P : Program} {t : TypeId} {z : Value} (hi : (P.info? t).map (·.zero) = some (some z)) : TyZ P t z := by
  intro w
  obtain ⟨i, hi1, hi2⟩ := Option.map_eq_some_iff.1 hi
  simp [zeroValue, typeInfo, program, Sem.run_bind, Sem.run, hi1, hi2]
end Lf
end Go
namespace Go
namespace Lf
def iAnd (k : IntKind) (a b : Int) : Int := k.wrap (BitVec.ofInt k.bits a &&& BitVec.ofInt k.bits b).toNat
def iOr (k : IntKind) (a b : Int) : Int := k.wrap (BitVec.ofInt k.bits a ||| BitVec.ofInt k.bits b).toNat
def iXor (k : IntKind) (a b : Int) : Int := k.wrap (BitVec.ofInt k.bits a ^^^ BitVec.ofInt k.bits b).toNat
def iAndNot (k : IntKind) (a b : Int) : Int := k.wrap (BitVec.ofInt k.bits a &&& ~~~BitVec.ofInt k.bits b).toNat
def iNot (k : IntKind) (a : Int) : Int := k.wrap (BitVec.ofInt k.bits (if k.signed then -1 else k.max) ^^^ BitVec.ofInt k.bits a).toNat
def iShl (k : IntKind) (a b : Int) : Int := k.wrap (a * 2 ^ (min b.toNat k.bits))
def iShr (k : IntKind) (a b : Int) : Int := a.fdiv (2 ^ (min b.toNat k.bits))
section
variable {P : Program} {n : Nat} {Q : Post} {ρ : Env} {h : Hp} {ops : Array Oper} {rest : List Oper} {d : Nat} {ty : TypeId} {pos : String} {af : Array Edge}

theorem run_ok_bind {α β : Type} {x : Sem α} {f : α → Sem β} {a : α} {w w' : World} (h : x.run P w = .ok a w') : (x >>= f).run P w = (f a).run P w' := by
  rw [Sem.run_bind, h]; rfl

/-! ### moves -/
theorem wpL_mv {x : Operand} (hn : Nat.blt d n = true) (hk : wpL P n ops rest Q (ρ.upd d (ρ.ev x)) h) : wpL P n ops (⟨some d, .move x, ty, pos, af, none⟩ :: rest) Q ρ h :=
  wpL_val rfl rfl hn (fun _ _ => rfl) hk
theorem wpL_as {x : Operand} (hn : Nat.blt d n = true) (hk : wpL P n ops rest Q (ρ.upd d (ρ.ev x)) h) : wpL P n ops (⟨some d, .assign x, ty, pos, af, none⟩ :: rest) Q ρ h :=
  wpL_val rfl rfl hn (fun _ _ => rfl) hk
theorem wpL_pickt {c a b : Operand} (hc : ρ.ev c = .bool true) (hn : Nat.blt d n = true) (hk : wpL P n ops rest Q (ρ.upd d (ρ.ev a)) h) : wpL P n ops (⟨some d, .pick c a b, ty, pos, af, none⟩ :: rest) Q ρ h :=
  wpL_val rfl rfl hn (fun w _ => by simp [execOp, hc, asBool]) hk
theorem wpL_pickf {c a b : Operand} (hc : ρ.ev c = .bool false) (hn : Nat.blt d n = true) (hk : wpL P n ops rest Q (ρ.upd d (ρ.ev b)) h) : wpL P n ops (⟨some d, .pick c a b, ty, pos, af, none⟩ :: rest) Q ρ h :=
  wpL_val rfl rfl hn (fun w _ => by simp [execOp, hc, asBool]) hk
theorem wpL_ext {x : Operand} {i : Nat} {vs : Array Value} {v : Value} (hx : ρ.ev x = .tuple vs) (hi : vs[i]? = some v) (hn : Nat.blt d n = true) (hk : wpL P n ops rest Q (ρ.upd d v) h) : wpL P n ops (⟨some d, .extract x i, ty, pos, af, none⟩ :: rest) Q ρ h :=
  wpL_val rfl rfl hn (fun w _ => by simp [execOp, hx, Instr.extract, hi]) hk
theorem wpL_mf {fn : Fn} {fs cs : List Operand} {vs us : List Value} (hf : fs.map ρ.ev = vs) (hc : cs.map ρ.ev = us) (hn : Nat.blt d n = true) (hk : wpL P n ops rest Q (ρ.upd d (.func fn vs.toArray us.toArray)) h) : wpL P n ops (⟨some d, .makeFunc fn fs.toArray cs.toArray, ty, pos, af, none⟩ :: rest) Q ρ h :=
  wpL_val rfl rfl hn (fun w _ => by simp [execOp, ← hf, ← hc, Instr.makeFunc]) hk

/-! ### operators -/
def BinR (P : Program) (op : BinOp) (T : TypeId) (vx vy v : Value) : Prop := ∀ (w : World) (x y : Operand), (do eqGuard op T x y vx vy; binOp op T vx vy : Sem Value).run P w = .ok v w
theorem wpL_bin {op : BinOp} {T yT : TypeId} {x y : Operand} {vx vy v : Value} (hx : ρ.ev x = vx) (hy : ρ.ev y = vy) (hr : BinR P op T vx vy v) (hn : Nat.blt d n = true) (hk : wpL P n ops rest Q (ρ.upd d v) h) :
    wpL P n ops (⟨some d, .binOp op T x y yT, ty, pos, af, none⟩ :: rest) Q ρ h :=
  wpL_val rfl rfl hn (fun w _ => by
    simp only [execOp]
    rw [hx, hy]
    rw [run_ok_bind (hr w x y)]; rfl) hk
theorem wpL_not {T : TypeId} {x : Operand} {b : Bool} (hx : ρ.ev x = .bool b) (hn : Nat.blt d n = true) (hk : wpL P n ops rest Q (ρ.upd d (.bool !b)) h) :
    wpL P n ops (⟨some d, .unOp .not T x, ty, pos, af, none⟩ :: rest) Q ρ h :=
  wpL_val rfl rfl hn (fun w _ => by simp [execOp, hx, Op.unary]) hk
theorem wpL_neg {T : TypeId} {x : Operand} {k : IntKind} {a : Int} (hx : ρ.ev x = .int k a) (hn : Nat.blt d n = true) (hk : wpL P n ops rest Q (ρ.upd d (.int k (k.wrap (0 - a)))) h) :
    wpL P n ops (⟨some d, .unOp .neg T x, ty, pos, af, none⟩ :: rest) Q ρ h :=
  wpL_val rfl rfl hn (fun w _ => by simp only [execOp, hx, Op.unary]; rfl) hk
theorem wpL_xor {T : TypeId} {x : Operand} {k : IntKind} {a : Int} (hx : ρ.ev x = .int k a) (hn : Nat.blt d n = true)
    (hk : wpL P n ops rest Q (ρ.upd d (.int k (iNot k a))) h) :
    wpL P n ops (⟨some d, .unOp .xor T x, ty, pos, af, none⟩ :: rest) Q ρ h :=
  wpL_val rfl rfl hn (fun w _ => by simp only [execOp, hx, Op.unary]; rfl) hk

section
variable {T : TypeId} (k : IntKind) (a b : Int)
theorem bin_add : BinR P .add T (.int k a) (.int k b) (.int k (k.wrap (a + b))) := fun w x y => by simp [eqGuard, binOp, Op.intArith]
theorem bin_sub : BinR P .sub T (.int k a) (.int k b) (.int k (k.wrap (a - b))) := fun w x y => by simp [eqGuard, binOp, Op.intArith]
theorem bin_mul : BinR P .mul T (.int k a) (.int k b) (.int k (k.wrap (a * b))) := fun w x y => by simp [eqGuard, binOp, Op.intArith]
theorem bin_and : BinR P .and T (.int k a) (.int k b) (.int k (iAnd k a b)) := fun w x y => by simp [iAnd, eqGuard, binOp, Op.intBits]
theorem bin_or : BinR P .or T (.int k a) (.int k b) (.int k (iOr k a b)) := fun w x y => by simp [iOr, eqGuard, binOp, Op.intBits]
theorem bin_xor : BinR P .xor T (.int k a) (.int k b) (.int k (iXor k a b)) := fun w x y => by simp [iXor, eqGuard, binOp, Op.intBits]
theorem bin_andNot : BinR P .andNot T (.int k a) (.int k b) (.int k (iAndNot k a b)) := fun w x y => by simp [iAndNot, eqGuard, binOp, Op.intBits]
theorem bin_eql : BinR P .eql T (.int k a) (.int k b) (.bool (a == b)) := fun w x y => by simp [eqGuard, binOp, Op.intCmp]
theorem bin_neq : BinR P .neq T (.int k a) (.int k b) (.bool (a != b)) := fun w x y => by simp [eqGuard, binOp, Op.intCmp]
theorem bin_lss : BinR P .lss T (.int k a) (.int k b) (.bool (decide (a < b))) := fun w x y => by simp [eqGuard, binOp, Op.intCmp]
theorem bin_leq : BinR P .leq T (.int k a) (.int k b) (.bool (decide (a ≤ b))) := fun w x y => by simp [eqGuard, binOp, Op.intCmp]
theorem bin_gtr : BinR P .gtr T (.int k a) (.int k b) (.bool (decide (a > b))) := fun w x y => by simp [eqGuard, binOp, Op.intCmp]
theorem bin_geq : BinR P .geq T (.int k a) (.int k b) (.bool (decide (a ≥ b))) := fun w x y => by simp [eqGuard, binOp, Op.intCmp]
theorem bin_quo (hb : b ≠ 0) : BinR P .quo T (.int k a) (.int k b) (.int k (k.wrap (a.tdiv b))) := fun w x y => by simp [eqGuard, binOp, Op.intDiv, hb]
theorem bin_rem (hb : b ≠ 0) : BinR P .rem T (.int k a) (.int k b) (.int k (a.tmod b)) := fun w x y => by simp [eqGuard, binOp, Op.intDiv, hb]
theorem bin_shl {yk : IntKind} (hb : ¬ b < 0) : BinR P .shl T (.int k a) (.int yk b) (.int k (iShl k a b)) := fun w x y => by simp [iShl, eqGuard, binOp, Op.shift, hb]
theorem bin_shr {yk : IntKind} (hb : ¬ b < 0) : BinR P .shr T (.int k a) (.int yk b) (.int k (iShr k a b)) := fun w x y => by simp [iShr, eqGuard, binOp, Op.shift, hb]
end
end
end Lf
end Go
namespace Go
namespace Lf
def one : Value → Bool
  | .agg _ | .tuple _ => false
  | _ => true
theorem add_zero' (a : Addr) : a.add 0 = a := rfl
theorem add_add (a : Addr) (i j : Nat) : (a.add i).add j = a.add (i + j) := by
  unfold Addr.add
  by_cases hi : i = 0
  · subst hi; simp
  · by_cases hj : j = 0
    · subst hj; simp
    ·       simp [hi, hj, Nat.add_assoc]
theorem add_block (a : Addr) (i : Nat) : (a.add i).block = a.block := by unfold Addr.add; split <;> rfl

theorem run_load {P : Program} {w : World} {a : Addr} {v : Value} (hc : Hp.cell? w.heap a = some v) : (load a).run P w = .ok v w := by
  simp only [load, Sem.run]
  rw [cell_heap, hc]
theorem run_loadCellsFrom {P : Program} {w : World} {a : Addr} : ∀ (cs : List Value) (i : Nat) (acc : Array Value),
    (∀ j v, cs[j]? = some v → Hp.cell? w.heap (a.add (i + j)) = some v) → (loadCellsFrom a i cs.length acc).run P w = .ok (acc ++ cs.toArray) w
  | [], i, acc, _ => by simp [loadCellsFrom]
  | c :: cs, i, acc, hc => by
    simp only [List.length_cons, loadCellsFrom]
    have h0 : Hp.cell? w.heap (a.add i) = some c := hc 0 c rfl
    rw [run_ok_bind (run_load h0)]
    rw [run_loadCellsFrom cs (i + 1) (acc.push c) (fun j v hj => by rw [Nat.add_right_comm, Nat.add_assoc]; exact hc (j + 1) v (by simpa using hj))]
    simp
theorem run_loadCells {P : Program} {w : World} {a : Addr} {cs : List Value} (hc : Row w.heap a cs) : (loadCells a cs.length).run P w = .ok cs.toArray w := by
  unfold loadCells
  rw [run_loadCellsFrom cs 0 #[] (fun j v hj => by rw [Nat.zero_add]; exact hc j v hj)]
  simp

theorem run_store {P : Program} {w : World} {a : Addr} {v : Value} (hv : one v = true) (hc : ∃ u, Hp.cell? w.heap a = some u) (hf : Hp.frozen? w.heap a = false) :
    (store a v).run P w = .ok () (w.setCell a v) := by
  obtain ⟨u, hu⟩ := hc
  have hf' : w.frozen? a = false := hf
  cases v <;> first | (simp [one] at hv; done) | (simp only [store, Sem.run]; rw [cell_heap, hu]; simp [hf'])

theorem setCell_size (h : Hp) (a : Addr) (v : Value) : (Hp.setCell h a v).size = h.size := by simp [Hp.setCell]
def setObj (a : Addr) (v : Value) : Obj → Obj
  | .cells c elem frozen => .cells (if a.spot.isSome then c else c.setIfInBounds a.off v) elem frozen
  | o => o
theorem setCell_get (h : Hp) (a : Addr) (v : Value) (b : Nat) : (Hp.setCell h a v)[b]? = if a.block = b then h[b]?.map (setObj a v) else h[b]? := by
  unfold Hp.setCell
  rw [Array.getElem?_modify]
  rfl
theorem setCell_some {h : Hp} {a b : Addr} {v : Value} : (∃ u, Hp.cell? h b = some u) → ∃ u, Hp.cell? (Hp.setCell h a v) b = some u := by
  rintro ⟨u, hu⟩
  unfold Hp.cell? at *
  rw [setCell_get]
  by_cases e : a.block = b.block
  · rw [if_pos e]
    cases hb : h[b.block]? with
    | none => rw [hb] at hu; simp at hu
    | some o =>
      cases o with
      | cells c t fr =>
        rw [hb] at hu
        simp only [Option.map_some, setObj] at *
        split at hu
        · cases hu
        · rename_i hs
          simp only [hs, if_false, Bool.false_eq_true]
          by_cases ha : a.spot.isSome
          · simp only [ha, if_true]; exact ⟨u, hu⟩
          · simp only [ha, if_false, Bool.false_eq_true]
            have hlt : b.off < c.size := (Array.getElem?_eq_some_iff.1 hu).1
            exact ⟨_, Array.getElem?_eq_getElem (by simpa using hlt)⟩
      | _ => rw [hb] at hu; simp at hu
  · rw [if_neg e]; exact ⟨u, hu⟩
theorem setCell_frozen {h : Hp} {a b : Addr} {v : Value} : Hp.frozen? (Hp.setCell h a v) b = Hp.frozen? h b := by
  unfold Hp.frozen?
  rw [setCell_get]
  by_cases e : a.block = b.block
  · rw [if_pos e]
    cases hb : h[b.block]? with
    | none => rfl
    | some o => cases o <;> rfl
  · rw [if_neg e]
theorem Free.set {h : Hp} {a b : Addr} {v : Value} {m : Nat} (hf : Free h a m) : Free (Hp.setCell h b v) a m :=
  fun i hi => ⟨setCell_some (hf i hi).1, by rw [setCell_frozen]; exact (hf i hi).2⟩

theorem still_set (w : World) (a : Addr) (v : Value) : Still w (w.setCell a v) := ⟨rfl, rfl, rfl, by simp [World.setCell]⟩
theorem run_storeCells {P : Program} {a : Addr} : ∀ (vs : List Value) (i : Nat) (w : World), (∀ v ∈ vs, one v = true) →
    (∀ j, j < vs.length → (∃ u, Hp.cell? w.heap (a.add (i + j)) = some u) ∧ Hp.frozen? w.heap (a.add (i + j)) = false) →
    ∃ w', (storeCells a vs i).run P w = .ok () w' ∧ Still w w' ∧ w'.heap = setCells w.heap a i vs
  | [], i, w, _, _ => ⟨w, rfl, .refl w, rfl⟩
  | v :: vs, i, w, hv, hf => by
    have h0 := hf 0 (by simp)
    rw [Nat.add_zero] at h0
    obtain ⟨w', h1, h2, h3⟩ := run_storeCells vs (i + 1) (w.setCell (a.add i) v) (fun u hu => hv u (List.mem_cons_of_mem _ hu)) (fun j hj => by
      have hj' := hf (j + 1) (by simpa using hj)
      rw [show i + (j + 1) = i + 1 + j by omega] at hj'
      rw [setCell_heap]
      exact ⟨setCell_some hj'.1, by rw [setCell_frozen]; exact hj'.2⟩)
    refine ⟨w', ?_, (still_set w _ v).trans h2, by rw [h3]; rfl⟩
    simp only [storeCells]
    rw [run_ok_bind (run_store (hv v (by simp)) h0.1 h0.2), h1]

section
variable {P : Program} {n : Nat} {Q : Post} {ρ : Env} {h : Hp} {ops : Array Oper} {rest : List Oper} {d : Nat} {ty : TypeId} {pos : String} {af : Array Edge} {t : TypeId} {m : Nat} {x y : Operand} {a : Addr}

/-! ### loads and stores -/
theorem wpL_ld {α : Type} {enc : α → Value} {K : α → Prop} (ht : TyS P t m false) (hx : ρ.ev x = .pointer (some a)) (hm : Ld enc h a K) (hn : Nat.blt d n = true)
    (hk : ∀ v, K v → wpL P n ops rest Q (ρ.upd d (enc v)) h) : wpL P n ops (⟨some d, .load t x, ty, pos, af, none⟩ :: rest) Q ρ h := by
  obtain ⟨v, hc, hK⟩ := hm
  refine wpL_val (v := enc v) rfl rfl hn (fun w hw => ?_) (hk v hK)
  simp only [execOp, hx, Instr.loadAt, Instr.sureAddr, pure_bind, loadVar]
  have : (do if ← isAgg t then pure (Value.agg (← loadCells a (← sizeOf t))) else load a : Sem Value).run P w = .ok (enc v) w := by
    rw [run_ok_bind (ht.agg w)]
    simp only [Bool.false_eq_true, if_false]
    exact run_load (hw ▸ hc)
  rw [run_ok_bind this]; rfl
theorem wpL_lda {α : Type} {cells : α → List Value} {K : α → Prop} (ht : TyS P t m true) (hx : ρ.ev x = .pointer (some a)) (hl : ∀ v, (cells v).length = m) (hm : LdA cells h a K) (hn : Nat.blt d n = true)
    (hk : ∀ v, K v → wpL P n ops rest Q (ρ.upd d (.agg (cells v).toArray)) h) : wpL P n ops (⟨some d, .load t x, ty, pos, af, none⟩ :: rest) Q ρ h := by
  obtain ⟨v, hc, hK⟩ := hm
  refine wpL_val (v := .agg (cells v).toArray) rfl rfl hn (fun w hw => ?_) (hk v hK)
  simp only [execOp, hx, Instr.loadAt, Instr.sureAddr, pure_bind, loadVar]
  have : (do if ← isAgg t then pure (Value.agg (← loadCells a (← sizeOf t))) else load a : Sem Value).run P w = .ok (.agg (cells v).toArray) w := by
    rw [run_ok_bind (ht.agg w)]
    simp only [if_true]
    rw [run_ok_bind (ht.size w), ← hl v, run_ok_bind (run_loadCells (hw ▸ hc))]
    rfl
  rw [run_ok_bind this]; rfl
theorem run_storeVar1 {w : World} {v : Value} (ht : TyS P t 1 false) (hv : one v = true) (hc : ∃ u, Hp.cell? w.heap a = some u) (hf : Hp.frozen? w.heap a = false) :
    (storeVar t a v).run P w = .ok () (w.setCell a v) := by
  have hcs : v.cells = #[v] := by cases v <;> first | rfl | (simp [one] at hv)
  unfold storeVar
  rw [run_ok_bind (ht.size w)]
  simp only [hcs, List.size_toArray, List.length_cons, List.length_nil, Nat.zero_add, ne_eq, not_true, if_false, storeCells]
  rw [run_ok_bind (run_store (P := P) (w := w) (a := a.add 0) hv hc hf)]
  rfl
theorem run_storeVarA {w w' : World} {vs : List Value} (ht : TyS P t m true) (hl : vs.length = m) (h1 : (storeCells a vs 0).run P w = .ok () w') :
    (storeVar t a (.agg vs.toArray)).run P w = .ok () w' := by
  unfold storeVar
  rw [run_ok_bind (ht.size w)]
  simp only [Value.cells, List.size_toArray, hl, ne_eq, not_true, if_false]
  exact h1
theorem wpL_st {v : Value} {K : Hp → Prop} (ht : TyS P t 1 false) (hx : ρ.ev x = .pointer (some a)) (hy : ρ.ev y = v) (hv : one v = true) (hm : St h a v K)
    (hk : K (Hp.setCell h a v) → wpL P n ops rest Q ρ (Hp.setCell h a v)) : wpL P n ops (⟨none, .store t x y, ty, pos, af, none⟩ :: rest) Q ρ h := by
  obtain ⟨hc, hf, hK⟩ := hm
  refine wpL_skip rfl rfl fun w hw => ⟨w.setCell a v, ?_, still_set w a v, by rw [setCell_heap, hw]; exact hk hK⟩
  simp only [execOp, hx, hy, Instr.storeAt, Instr.sureAddr, pure_bind]
  rw [run_ok_bind (run_storeVar1 ht hv (hw ▸ hc) (hw ▸ hf))]; rfl
theorem wpL_sta {vs : List Value} {K : Hp → Prop} (ht : TyS P t m true) (hx : ρ.ev x = .pointer (some a)) (hy : ρ.ev y = .agg vs.toArray) (hl : vs.length = m) (hv : vs.all one = true) (hm : StA h a vs K)
    (hk : K (setCells h a 0 vs) → wpL P n ops rest Q ρ (setCells h a 0 vs)) : wpL P n ops (⟨none, .store t x y, ty, pos, af, none⟩ :: rest) Q ρ h := by
  obtain ⟨hf, hK⟩ := hm
  refine wpL_skip rfl rfl fun w hw => ?_
  obtain ⟨w', h1, h2, h3⟩ := run_storeCells (P := P) (a := a) vs 0 w (fun v hv' => List.all_eq_true.1 hv v hv') (fun j hj => by rw [Nat.zero_add]; exact hw ▸ hf j hj)
  rw [hw] at h3
  refine ⟨w', ?_, h2, by rw [h3]; exact hk hK⟩
  simp only [execOp, hx, hy, Instr.storeAt, Instr.sureAddr, pure_bind]
  rw [run_ok_bind (run_storeVarA ht hl h1)]; rfl

/-! ### addresses -/
def FA (P : Program) (s : TypeId) (i off : Nat) : Prop := ∀ a w, (Instr.fieldAt s (.pointer (some a)) i).run P w = .ok (.pointer (some (a.add off))) w
theorem fa_mk {s : TypeId} {i off : Nat} {fs : Array Field} {f : Field} {b : Bool} (hu : P.underlying s = some (.struct fs)) (hf : fs[i]? = some f) (ho : f.offset = off) (ht : TyS P f.type (m + 1) b) : FA P s i off := by
  subst ho
  intro a w
  unfold Instr.fieldAt
  rw [run_ok_bind (run_underlying hu w)]
  simp only [hf, Instr.sureAddr, pure_bind, fieldPlace]
  rw [run_ok_bind (a := a.add f.offset) (w' := w)]
  · rfl
  · rw [run_ok_bind (ht.size w)]; simp
theorem wpL_fa {i off : Nat} {s : TypeId} (hfa : FA P s i off) (hx : ρ.ev x = .pointer (some a)) (hn : Nat.blt d n = true) (hk : wpL P n ops rest Q (ρ.upd d (.pointer (some (a.add off)))) h) :
    wpL P n ops (⟨some d, .fieldAddr s x i, ty, pos, af, none⟩ :: rest) Q ρ h :=
  wpL_val rfl rfl hn (fun w _ => by simp only [execOp, hx]; rw [run_ok_bind (hfa a w)]; rfl) hk
theorem wpL_nn {p : Option Addr} {K : Addr → Prop} (hx : ρ.ev x = .pointer p) (hm : Nn p K) (hn : Nat.blt d n = true) (hk : ∀ a, K a → wpL P n ops rest Q (ρ.upd d (.pointer (some a))) h) :
    wpL P n ops (⟨some d, .nilCheck x, ty, pos, af, none⟩ :: rest) Q ρ h := by
  obtain ⟨a, rfl, hK⟩ := hm
  exact wpL_val rfl rfl hn (fun w _ => by simp [execOp, hx]) (hk a hK)
theorem wpL_nna (hx : ρ.ev x = .pointer (some a)) (hn : Nat.blt d n = true) (hk : wpL P n ops rest Q (ρ.upd d (.pointer (some a))) h) :
    wpL P n ops (⟨some d, .nilCheck x, ty, pos, af, none⟩ :: rest) Q ρ h :=
  wpL_val rfl rfl hn (fun w _ => by simp [execOp, hx]) hk
theorem wpL_ix {e : TypeId} {b : Bool} {s : Sl} {i : Int} {k : IntKind} {K : Addr → Prop} (hu : P.underlying t = some (.slice e)) (ht : TyS P e m b) (hx : ρ.ev x = s.enc) (hy : ρ.ev y = .int k i) (hm : Ix s i m K) (hn : Nat.blt d n = true)
    (hk : ∀ a, K a → wpL P n ops rest Q (ρ.upd d (.pointer (some a))) h) : wpL P n ops (⟨some d, .indexAddr t x y, ty, pos, af, none⟩ :: rest) Q ρ h := by
  obtain ⟨a, ha, h0, h1, hK⟩ := hm
  refine wpL_val rfl rfl hn (fun w _ => ?_) (hk _ hK)
  simp only [execOp, hx, hy, Sl.enc, Instr.indexAt, asIntOf, pure_bind]
  simp only [bind_assoc]
  rw [run_ok_bind (run_underlying hu w)]
  simp only [bind_assoc]
  rw [run_ok_bind (run_underlying hu w)]
  simp only [ha, h0, h1, and_self, if_true, bind_assoc]
  rw [run_ok_bind (ht.size w)]; rfl
end
end Lf
end Go
namespace Go
namespace Lf
theorem still_alloc (w : World) (o : Obj) : Still w (w.alloc o) := ⟨rfl, rfl, rfl, by show w.heap.size ≤ (w.heap.push o).size; rw [Array.size_push]; omega⟩
theorem run_newRow {P : Program} (e : TypeId) (cs : Array Value) (w : World) : (newRow e cs).run P w = .ok ⟨w.heap.size, 0, none⟩ (w.alloc (.cells cs e)) := rfl
theorem run_newVar {P : Program} (e : TypeId) (v : Value) (w : World) : (newVar e v).run P w = .ok ⟨w.heap.size, 0, none⟩ (w.alloc (.cells v.cells e)) := rfl

/-- a struct or array laid out of parts, over lists -/
def put (cs : List Value) (off : Nat) : List Value → List Value
  | [] => cs
  | v :: vs => put (cs.set off v) (off + 1) vs
def fillL (place : Nat → Option (Nat × Nat)) (cells : List Value) : List (Nat × Value) → Option (List Value)
  | [] => some cells
  | (i, v) :: rest =>
    match place i with
    | none => none
    | some (off, size) => bif Nat.beq v.cells.toList.length size && Nat.ble (off + size) cells.length then fillL place (put cells off v.cells.toList) rest else none
theorem put_len : ∀ (vs cs : List Value) (off : Nat), (put cs off vs).length = cs.length
  | [], _, _ => rfl
  | v :: vs, cs, off => by simp [put, put_len vs]
theorem foldl_put : ∀ (vs : List Value) (cs : List Value) (off k : Nat), (vs.zipIdx k).foldl (fun (cs : Array Value) (x : Value × Nat) => cs.setIfInBounds (off + x.2) x.1) cs.toArray = (put cs (off + k) vs).toArray
  | [], _, _, _ => rfl
  | v :: vs, cs, off, k => by
    simp only [List.zipIdx_cons, List.foldl_cons, put]
    rw [show (cs.toArray.setIfInBounds (off + k) v) = (cs.set (off + k) v).toArray by simp]
    rw [foldl_put vs (cs.set (off + k) v) off (k + 1)]
    rw [Nat.add_assoc]
theorem fill_of {place : Nat → Option (Nat × Nat)} : ∀ {parts : List (Nat × Value)} {cells res : List Value}, fillL place cells parts = some res → Instr.fill place cells.toArray parts = some res.toArray
  | [], cells, res, hf => by simp [fillL] at hf; simp [Instr.fill, hf]
  | (i, v) :: rest, cells, res, hf => by
    unfold fillL at hf
    unfold Instr.fill
    cases hp : place i with
    | none => rw [hp] at hf; cases hf
    | some os =>
      obtain ⟨off, size⟩ := os
      rw [hp] at hf
      simp only at hf ⊢
      cases hb : (Nat.beq v.cells.toList.length size && Nat.ble (off + size) cells.length) with
      | false => rw [hb] at hf; cases hf
      | true =>
        rw [hb] at hf
        simp only [Bool.and_eq_true, Nat.beq_eq, Nat.ble_eq] at hb
        have h1 : v.cells.size = size := by rw [← hb.1]; simp
        have h2 : ¬ (off + v.cells.size > cells.toArray.size) := by rw [h1]; simpa using hb.2
        simp only [h1, ne_eq, not_true, decide_false, Bool.false_or]
        rw [if_neg (by rw [← h1]; simpa using h2)]
        have := foldl_put v.cells.toList cells off 0
        rw [show v.cells.zipIdx.foldl (fun (cs : Array Value) (x : Value × Nat) => cs.setIfInBounds (off + x.2) x.1) cells.toArray = (v.cells.toList.zipIdx 0).foldl (fun (cs : Array Value) (x : Value × Nat) => cs.setIfInBounds (off + x.2) x.1) cells.toArray by
          rw [← Array.foldl_toList]; simp]
        rw [this]
        exact fill_of hf

section
variable {P : Program} {n : Nat} {Q : Post} {ρ : Env} {h : Hp} {ops : Array Oper} {rest : List Oper} {d : Nat} {ty : TypeId} {pos : String} {af : Array Edge} {t : TypeId} {m : Nat} {x y : Operand} {a : Addr}

theorem wpL_alloc {z : Value} {zs : List Value} {K : Addr → Hp → Prop} (hz : TyZ P t z) (hzs : z.cells = zs.toArray) (hm : Al h zs K) (hn : Nat.blt d n = true)
    (hk : ∀ a h', K a h' → wpL P n ops rest Q (ρ.upd d (.pointer (some a))) h') : wpL P n ops (⟨some d, .alloc t, ty, pos, af, none⟩ :: rest) Q ρ h := by
  refine wpL_op rfl rfl hn fun w hw => ⟨.pointer (some ⟨w.heap.size, 0, none⟩), w.alloc (.cells zs.toArray t), ?_, still_alloc w _, ?_⟩
  · simp only [execOp, Instr.alloc, bind_assoc]
    rw [run_ok_bind (hz w)]
    rw [run_ok_bind (run_newVar t z w), hzs]; rfl
  · have := hm t
    rw [← hw] at this
    exact hk _ _ this
theorem wpL_box {v : Value} {vs : List Value} {K : Addr → Hp → Prop} (hx : ρ.ev x = v) (hvs : v.cells = vs.toArray) (hm : Al h vs K) (hn : Nat.blt d n = true)
    (hk : ∀ a h', K a h' → wpL P n ops rest Q (ρ.upd d (.pointer (some a))) h') : wpL P n ops (⟨some d, .box t x, ty, pos, af, none⟩ :: rest) Q ρ h := by
  refine wpL_op rfl rfl hn fun w hw => ⟨.pointer (some ⟨w.heap.size, 0, none⟩), w.alloc (.cells vs.toArray t), ?_, still_alloc w _, ?_⟩
  · simp only [execOp, Instr.box, hx, bind_assoc]
    rw [run_ok_bind (run_newVar t v w), hvs]; rfl
  · have := hm t
    rw [← hw] at this
    exact hk _ _ this

/-- where a struct's fields lie -/
def Places (P : Program) (fs : List Field) (ps : List (Nat × Nat)) : Prop := ∀ w, (fs.mapM fun f => do pure (f.offset, ← sizeOf f.type) : Sem (List (Nat × Nat))).run P w = .ok ps w
theorem places_nil : Places P [] [] := fun _ => rfl
theorem places_cons {f : Field} {fs : List Field} {ps : List (Nat × Nat)} {b : Bool} (hf : TyS P f.type m b) (hr : Places P fs ps) : Places P (f :: fs) ((f.offset, m) :: ps) := by
  intro w
  rw [List.mapM_cons]
  simp only [bind_assoc]
  rw [run_ok_bind (hf.size w)]
  simp only [pure_bind]
  rw [run_ok_bind (hr w)]; rfl
theorem parts_map (ρ : Env) (ps : List (Nat × Operand)) : (ps.toArray.map fun (i, x) => (i, ρ.ev x)).toList = ps.map fun (i, x) => (i, ρ.ev x) := by simp

theorem wpL_build {z : Value} {zs cs : List Value} {fs : List Field} {pl : List (Nat × Nat)} {ps : List (Nat × Operand)} {vs : List (Nat × Value)} (hz : TyZ P t z) (hzs : z.cells = zs.toArray) (hu : P.underlying t = some (.struct fs.toArray)) (hp : Places P fs pl)
    (hvs : (ps.map fun (i, x) => (i, ρ.ev x)) = vs) (hf : fillL (fun i => pl[i]?) zs vs = some cs) (hn : Nat.blt d n = true)
    (hk : wpL P n ops rest Q (ρ.upd d (.agg cs.toArray)) h) : wpL P n ops (⟨some d, .build t ps.toArray, ty, pos, af, none⟩ :: rest) Q ρ h := by
  refine wpL_val (v := .agg cs.toArray) rfl rfl hn (fun w _ => ?_) hk
  simp only [execOp, Instr.build, bind_assoc]
  rw [run_ok_bind (hz w), run_ok_bind (run_underlying hu w)]
  simp only [bind_assoc, List.mapM_toArray, map_eq_pure_bind]
  have hp' := hp w
  rw [run_ok_bind hp']
  have h1 := fill_of hf
  simp only [parts_map, hvs, hzs, pure_bind]
  have e : (fun (i : Nat) => pl.toArray[i]?) = (fun (i : Nat) => pl[i]?) := by funext i; simp
  rw [e, h1]; rfl
end
end Lf
end Go
namespace Go
namespace Lf
/-! ### strings as lists -/
theorem bs_size (l : Str) : (bs l).size = l.length := rfl
theorem bs_data (s : ByteArray) : bs s.data.toList = s := rfl
theorem bs_get (l : Str) (i : Nat) : (bs l)[i]? = l[i]? := by
  simp only [bs, getElem?_def]
  by_cases hi : i < l.length
  · have h1 : i < (bs l).size := hi
    simp only [bs] at h1
    simp [h1, hi]; rfl
  · have h1 : ¬ i < (bs l).size := hi
    simp only [bs] at h1
    simp [h1, hi]
theorem bs_append (a b : Str) : bs a ++ bs b = bs (a ++ b) := by
  apply ByteArray.ext
  rw [ByteArray.data_append]
  simp [bs]
theorem bs_extract (l : Str) (i j : Nat) : (bs l).extract i j = bs ((l.take j).drop i) := by
  apply ByteArray.ext
  rw [ByteArray.data_extract]
  simp [bs, List.extract_eq_take_drop, List.drop_take]

def SIx (s : Str) (i : Int) (k : UInt8 → Prop) : Prop := ∃ b, 0 ≤ i ∧ s[i.toNat]? = some b ∧ k b
def SSl (s : Str) (lo hi : Int) (k : Str → Prop) : Prop := 0 ≤ lo ∧ lo ≤ hi ∧ hi ≤ (s.length : Int) ∧ k ((s.take hi.toNat).drop lo.toNat)
def Sl.sub (s : Sl) (lo hi sz : Nat) : Sl := ⟨if s.cap = lo then s.a else s.a.map (·.add (lo * sz)), hi - lo, s.cap - lo⟩
def SlSl (s : Sl) (lo hi : Int) (sz : Nat) (k : Sl → Prop) : Prop := 0 ≤ lo ∧ lo ≤ hi ∧ hi ≤ (s.cap : Int) ∧ k (s.sub lo.toNat hi.toNat sz)
def fieldV (b : Bool) (cs : List Value) (off m : Nat) : Option Value := bif b then some (.agg ((cs.drop off).take m).toArray) else cs[off]?

section
variable {P : Program} {n : Nat} {Q : Post} {ρ : Env} {h : Hp} {ops : Array Oper} {rest : List Oper} {d : Nat} {ty : TypeId} {pos : String} {af : Array Edge} {t : TypeId} {m : Nat} {x y : Operand} {a : Addr}

theorem wpL_bsl {e : TypeId} {b : Bool} {len : Nat} {z : Value} {zs zl cs : List Value} {ps : List (Nat × Operand)} {vs : List (Nat × Value)} {K : Addr → Hp → Prop} (hu : P.underlying t = some (.slice e)) (ht : TyS P e m b) (hz : TyZ P e z) (hzs : z.cells = zs.toArray)
    (hb : Nat.ble (len * m) 16777216 = true) (hr : ((List.range (len * m)).map fun i => zs[i % zs.length]!) = zl)
    (hvs : (ps.map fun (i, x) => (i, ρ.ev x)) = vs) (hf : fillL (fun i => some (i * m, m)) zl vs = some cs) (hm : Al h cs K) (hn : Nat.blt d n = true)
    (hk : ∀ a h', K a h' → wpL P n ops rest Q (ρ.upd d (Sl.enc ⟨some a, len, len⟩)) h') : wpL P n ops (⟨some d, .buildSlice t len ps.toArray, ty, pos, af, none⟩ :: rest) Q ρ h := by
  refine wpL_op rfl rfl hn fun w hw => ⟨Sl.enc ⟨some ⟨w.heap.size, 0, none⟩, len, len⟩, w.alloc (.cells cs.toArray e), ?_, still_alloc w _, ?_⟩
  · simp only [execOp, Instr.buildSlice, bind_assoc]
    rw [run_ok_bind (run_underlying hu w)]
    simp only [bind_assoc]
    rw [run_ok_bind (ht.size w)]
    have hle : ¬ (len * m > 2 ^ 24) := by simpa using Nat.ble_eq ▸ hb
    simp only [hle, if_false]
    have hzr : (if len * m = 0 then pure #[] else do pure (← zeroValue e).cells : Sem (Array Value)).run P w = .ok (if len * m = 0 then #[] else zs.toArray) w := by
      by_cases h0 : len * m = 0
      · simp [h0, Pure.pure]
      · simp only [h0, if_false]
        rw [run_ok_bind (hz w), hzs]; rfl
    have e1 : (Array.range (len * m)).map (fun i => (if len * m = 0 then #[] else zs.toArray)[i % (if len * m = 0 then #[] else zs.toArray).size]!) = zl.toArray := by
      by_cases h0 : len * m = 0
      · rw [h0] at hr ⊢
        simp at hr
        subst hr
        simp
      · simp only [h0, if_false]
        rw [← hr]
        apply Array.ext'
        simp [Array.toList_range]
    have h1 := fill_of hf
    first
      | (rw [run_ok_bind hzr]; simp only [parts_map, hvs, e1, h1, bind_assoc]; rw [run_ok_bind (run_newRow e cs.toArray w)]; rfl)
      | (by_cases h0 : len * m = 0
         · simp only [h0, if_true, pure_bind] at e1 ⊢
           simp only [parts_map, hvs, e1, h1, bind_assoc]; rw [run_ok_bind (run_newRow e cs.toArray w)]; rfl
         · simp only [h0, if_false, bind_assoc] at e1 ⊢
           rw [run_ok_bind (hz w), hzs]
           simp only [pure_bind, parts_map, hvs, e1, h1, bind_assoc]; rw [run_ok_bind (run_newRow e cs.toArray w)]; rfl)
  · have := hm e
    rw [← hw] at this
    exact hk _ _ this

theorem wpL_fld {s : TypeId} {i : Nat} {fs : Array Field} {f : Field} {b : Bool} {cs : List Value} {v : Value} (hu : P.underlying s = some (.struct fs)) (hf : fs[i]? = some f) (ht : TyS P f.type m b) (hx : ρ.ev x = .agg cs.toArray)
    (hv : fieldV b cs f.offset m = some v) (hn : Nat.blt d n = true) (hk : wpL P n ops rest Q (ρ.upd d v) h) : wpL P n ops (⟨some d, .field s x i, ty, pos, af, none⟩ :: rest) Q ρ h := by
  refine wpL_val (v := v) rfl rfl hn (fun w _ => ?_) hk
  simp only [execOp, hx, Instr.field, bind_assoc]
  rw [run_ok_bind (run_underlying hu w)]
  simp only [hf, asAgg, pure_bind, part, bind_assoc]
  rw [run_ok_bind (ht.agg w)]
  cases b
  · simp only [fieldV, cond_false] at hv
    simp only [Bool.false_eq_true, if_false, List.getElem?_toArray, hv]; rfl
  · simp only [fieldV, cond_true] at hv
    simp only [if_true, bind_assoc]
    rw [run_ok_bind (ht.size w)]
    simp only [List.extract_toArray]
    simp only [Option.some.injEq] at hv
    rw [List.extract_eq_take_drop, show f.offset + m - f.offset = m by omega, hv]; rfl

theorem wpL_six {s : Str} {i : Int} {k : IntKind} {K : UInt8 → Prop} (hu : P.underlying t = some .string) (hx : ρ.ev x = vS s) (hy : ρ.ev y = .int k i) (hm : SIx s i K) (hn : Nat.blt d n = true)
    (hk : ∀ b, K b → wpL P n ops rest Q (ρ.upd d (.int .u8 (b.toNat : Nat))) h) : wpL P n ops (⟨some d, .index t x y, ty, pos, af, none⟩ :: rest) Q ρ h := by
  obtain ⟨b, h0, h1, hK⟩ := hm
  refine wpL_val (v := .int .u8 (b.toNat : Nat)) rfl rfl hn (fun w _ => ?_) (hk b hK)
  simp only [execOp, hx, hy, Instr.index, asIntOf, pure_bind, vS, bind_assoc]
  rw [run_ok_bind (run_underlying hu w)]
  simp only [h0, if_true, bs_get, h1]; rfl

theorem run_sb {x : Value} {k : IntKind} {i : Int} {yy : Nat} {c : BoundsCode} (hx : x = .int k i) (h0 : 0 ≤ i) (h1 : i ≤ (yy : Int)) : Instr.sliceBound x yy c = (pure i.toNat : Sem Nat) := by
  subst hx
  simp [Instr.sliceBound, asIntOf, h0, h1]

section
variable {lo hi : Option Operand} {l u : Int} {s : Str} {K : Str → Prop} {sl : Sl} {KS : Sl → Prop}
/-- a bound that is there, or not -/
def BoundIs (ρ : Env) (o : Option Operand) (dflt : Int) (v : Int) : Prop := match o with
  | none => v = dflt
  | some x => ∃ k, ρ.ev x = .int k v
theorem wpL_ssl (hu : P.underlying t = some .string) (hx : ρ.ev x = vS s) (hl : BoundIs ρ lo 0 l) (hh : BoundIs ρ hi (s.length : Int) u) (hm : SSl s l u K) (hn : Nat.blt d n = true)
    (hk : ∀ s', K s' → wpL P n ops rest Q (ρ.upd d (vS s')) h) : wpL P n ops (⟨some d, .slice t x lo hi none, ty, pos, af, none⟩ :: rest) Q ρ h := by
  obtain ⟨h0, h1, h2, hK⟩ := hm
  refine wpL_val (v := vS ((s.take u.toNat).drop l.toNat)) rfl rfl hn (fun w _ => ?_) (hk _ hK)
  simp only [execOp, Instr.sliceAt, bind_assoc]
  rw [run_ok_bind (run_underlying hu w)]
  simp only [Instr.slice, bind_assoc]
  rw [run_ok_bind (run_underlying hu w)]
  simp only [hx, vS, Option.map_none, Option.isSome_none, Bool.false_eq_true, if_false]
  have hb : Instr.sliceBounds false (bs s).size (bs s).size (lo.map ρ.ev) (hi.map ρ.ev) none = (pure (l.toNat, u.toNat, (bs s).size) : Sem (Nat × Nat × Nat)) := by
    unfold Instr.sliceBounds
    cases lo with
    | none =>
      obtain rfl : l = 0 := hl
      cases hi with
      | none => obtain rfl : u = (s.length : Int) := hh; simp [bs_size]
      | some hx' => obtain ⟨k, hh⟩ := hh; simp only [Option.map_some, Option.map_none, pure_bind]; rw [run_sb hh (by omega) (by rw [bs_size]; exact h2)]; rfl
    | some lx =>
      obtain ⟨k, hl⟩ := hl
      cases hi with
      | none => obtain rfl : u = (s.length : Int) := hh; simp only [Option.map_some, Option.map_none, pure_bind]; rw [run_sb hl h0 (by rw [bs_size]; exact h1)]; rfl
      | some hx' => obtain ⟨k', hh⟩ := hh; simp only [Option.map_some, pure_bind]; rw [run_sb hh (by omega) (by rw [bs_size]; exact h2)]; simp only [pure_bind]; rw [run_sb hl h0 (by omega)]; rfl
  rw [hb]
  simp only [pure_bind, bs_extract]; rfl
theorem wpL_slsl {e : TypeId} {b : Bool} (hu : P.underlying t = some (.slice e)) (ht : TyS P e m b) (hx : ρ.ev x = sl.enc) (hl : BoundIs ρ lo 0 l) (hh : BoundIs ρ hi (sl.len : Int) u) (hm : SlSl sl l u m KS) (hn : Nat.blt d n = true)
    (hk : ∀ s', KS s' → wpL P n ops rest Q (ρ.upd d s'.enc) h) : wpL P n ops (⟨some d, .slice t x lo hi none, ty, pos, af, none⟩ :: rest) Q ρ h := by
  obtain ⟨h0, h1, h2, hK⟩ := hm
  refine wpL_val (v := (sl.sub l.toNat u.toNat m).enc) rfl rfl hn (fun w _ => ?_) (hk _ hK)
  simp only [execOp, Instr.sliceAt, bind_assoc]
  rw [run_ok_bind (run_underlying hu w)]
  simp only [Instr.slice, bind_assoc]
  rw [run_ok_bind (run_underlying hu w)]
  simp only [hx, Sl.enc, Option.map_none]
  have hb : Instr.sliceBounds true sl.len sl.cap (lo.map ρ.ev) (hi.map ρ.ev) none = (pure (l.toNat, u.toNat, sl.cap) : Sem (Nat × Nat × Nat)) := by
    unfold Instr.sliceBounds
    cases lo with
    | none =>
      obtain rfl : l = 0 := hl
      cases hi with
      | none => obtain rfl : u = (sl.len : Int) := hh; simp
      | some hx' => obtain ⟨k, hh⟩ := hh; simp only [Option.map_some, Option.map_none, pure_bind]; rw [run_sb hh (by omega) h2]; rfl
    | some lx =>
      obtain ⟨k, hl⟩ := hl
      cases hi with
      | none => obtain rfl : u = (sl.len : Int) := hh; simp only [Option.map_some, Option.map_none, pure_bind]; rw [run_sb hl h0 h1]; rfl
      | some hx' => obtain ⟨k', hh⟩ := hh; simp only [Option.map_some, pure_bind]; rw [run_sb hh (by omega) h2]; simp only [pure_bind]; rw [run_sb hl h0 (by omega)]; rfl
  rw [hb]
  simp only [pure_bind, bind_assoc]
  rw [run_ok_bind (ht.size w)]; rfl
end

/-! ### builtins -/
theorem run_builtin {b : Builtin} {as : List Operand} {vs : List Value} {tys : Array TypeId} {w w' : World} {v : Value} (hvs : as.map ρ.ev = vs)
    (hr : ∀ cs, (builtin b tys ty cs vs.toArray).run P w = .ok (.value v) w') :
    (execOp ρ.ev ⟨some d, .call ⟨.builtin b, as.toArray, tys⟩, ty, pos, af, none⟩).run P w = .ok (.value v) w' := by
  simp only [execOp, resolve, pure_bind, List.map_toArray, hvs, invoke]
  exact hr _
theorem wpL_lensl {e : TypeId} {sl : Sl} {as : List Operand} (hu : P.underlying t = some (.slice e)) (hvs : as.map ρ.ev = [sl.enc]) (hn : Nat.blt d n = true) (hk : wpL P n ops rest Q (ρ.upd d (.int .i64 sl.len)) h) :
    wpL P n ops (⟨some d, .call ⟨.builtin .len, as.toArray, #[t]⟩, ty, pos, af, none⟩ :: rest) Q ρ h :=
  wpL_val rfl rfl hn (fun w _ => run_builtin hvs (fun _ => by
    simp only [builtin, Builtin.len_, Sl.enc, List.getElem?_toArray, List.getElem?_cons_zero, bind_assoc]
    rw [run_ok_bind (run_underlying hu w)]; rfl)) hk
theorem wpL_lenstr {s : Str} {as : List Operand} (hu : P.underlying t = some .string) (hvs : as.map ρ.ev = [vS s]) (hn : Nat.blt d n = true) (hk : wpL P n ops rest Q (ρ.upd d (.int .i64 s.length)) h) :
    wpL P n ops (⟨some d, .call ⟨.builtin .len, as.toArray, #[t]⟩, ty, pos, af, none⟩ :: rest) Q ρ h :=
  wpL_val rfl rfl hn (fun w _ => run_builtin hvs (fun _ => by
    simp only [builtin, Builtin.len_, vS, List.getElem?_toArray, List.getElem?_cons_zero, bind_assoc]
    rw [run_ok_bind (run_underlying hu w)]; rfl)) hk
def iMax (a b : Int) : Int := if b > a then b else a
def iMin (a b : Int) : Int := if b < a then b else a
theorem wpL_max {k k' : IntKind} {a b : Int} {as : List Operand} {tys : Array TypeId} (hvs : as.map ρ.ev = [.int k a, .int k' b]) (hn : Nat.blt d n = true) (hk : wpL P n ops rest Q (ρ.upd d (.int k (iMax a b))) h) :
    wpL P n ops (⟨some d, .call ⟨.builtin .max, as.toArray, tys⟩, ty, pos, af, none⟩ :: rest) Q ρ h :=
  wpL_val rfl rfl hn (fun w _ => run_builtin hvs (fun _ => by simp [builtin, Builtin.max_, Builtin.max2, iMax])) hk
theorem wpL_min {k k' : IntKind} {a b : Int} {as : List Operand} {tys : Array TypeId} (hvs : as.map ρ.ev = [.int k a, .int k' b]) (hn : Nat.blt d n = true) (hk : wpL P n ops rest Q (ρ.upd d (.int k (iMin a b))) h) :
    wpL P n ops (⟨some d, .call ⟨.builtin .min, as.toArray, tys⟩, ty, pos, af, none⟩ :: rest) Q ρ h :=
  wpL_val rfl rfl hn (fun w _ => run_builtin hvs (fun _ => by simp [builtin, Builtin.min_, Builtin.min2, iMin])) hk

/-! ### calls -/
def Callable (P : Program) (f : FuncId) : Prop := ∃ fn c, P.funcs[f]? = some fn ∧ fn.body = some c ∧ (fn.name == "runtime.NumGoroutine") = false
theorem run_callFunc {f : FuncId} {vs : Array Value} (hc : Callable P f) (w : World) : (callFunc f vs).run P w = .ok (.enter f vs) w := by
  obtain ⟨fn, c, h1, h2, h3⟩ := hc
  unfold callFunc
  have hp : (program : Sem Program).run P w = .ok P w := rfl
  rw [run_ok_bind hp]
  simp only [h1, h2, h3, Bool.false_eq_true, if_false, Option.isNone_some]; rfl
theorem run_call {f : FuncId} {as : List Operand} {vs : List Value} {tys : Array TypeId} {dd : Option Nat} (hc : Callable P f) (hvs : as.map ρ.ev = vs) (w : World) :
    (execOp ρ.ev ⟨dd, .call ⟨.value (.func f), as.toArray, tys⟩, ty, pos, af, none⟩).run P w = .ok (.enter f vs.toArray) w := by
  simp only [execOp, resolve, Env.ev, Deferred.ofValue, pure_bind, List.map_toArray, hvs, invoke]
  simpa using run_callFunc hc w
theorem wpL_call {α : Type} {enc : α → Value} {K : α → Hp → Prop} {f : FuncId} {as : List Operand} {vs : List Value} {tys : Array TypeId} (hc : Callable P f) (hvs : as.map ρ.ev = vs) (hf : CallsH P f vs.toArray h (Rt enc K)) (hn : Nat.blt d n = true)
    (hk : ∀ r h', K r h' → wpL P n ops rest Q (ρ.upd d (enc r)) h') : wpL P n ops (⟨some d, .call ⟨.value (.func f), as.toArray, tys⟩, ty, pos, af, none⟩ :: rest) Q ρ h :=
  wpL_enter rfl rfl hn (fun w _ => run_call hc hvs w) hf fun e h' ⟨r, he, hr⟩ => by subst he; exact hk r h' hr
theorem wpL_call0 {α : Type} {enc : α → Value} {K : α → Hp → Prop} {f : FuncId} {as : List Operand} {vs : List Value} {tys : Array TypeId} (hc : Callable P f) (hvs : as.map ρ.ev = vs) (hf : CallsH P f vs.toArray h (Rt enc K))
    (hk : ∀ r h', K r h' → wpL P n ops rest Q ρ h') : wpL P n ops (⟨none, .call ⟨.value (.func f), as.toArray, tys⟩, ty, pos, af, none⟩ :: rest) Q ρ h :=
  wpL_enter0 rfl rfl (fun w _ => run_call hc hvs w) hf fun e h' ⟨r, he, hr⟩ => by subst he; exact hk r h' hr
end
end Lf
end Go
namespace Go
namespace Lf
theorem bs_toList (l : Str) : (bs l).toList = l := by rw [ByteArray.toList_eq]; rfl
def sLt (a b : Str) : Bool := Op.bytesLess a b
/-- the first cells that a slice leads to -/
def Cs (h : Hp) (a : Option Addr) (n : Nat) (cs : List Value) : Prop := cs.length = n ∧ match a with
  | some a => Row h a cs
  | none => cs = []
def bcells (s : Str) : List Value := s.map fun b => .int .u8 (b.toNat : Nat)
def S2b (h : Hp) (s : Str) (k : Sl → Hp → Prop) : Prop := ∀ T cap, s.length ≤ cap → k ⟨some ⟨h.size, 0, none⟩, s.length, cap⟩ (h.push (.cells (bcells s ++ List.replicate (cap - s.length) (Value.int .u8 0)).toArray T (cap, cap + 1)))
def B2s (h : Hp) (sl : Sl) (k : Str → Prop) : Prop := ∃ s : Str, Cs h sl.a sl.len (bcells s) ∧ k s
def App (h : Hp) (s : Sl) (cs : List Value) (cnt sz by' : Nat) (k : Sl → Hp → Prop) : Prop :=
  (s.len + cnt ≤ s.cap → match s.a with
    | some a => StA h (a.add (s.len * sz)) cs fun h' => k ⟨s.a, s.len + cnt, s.cap⟩ h'
    | none => k ⟨none, s.len + cnt, s.cap⟩ h) ∧
  (s.cap < s.len + cnt → Builtin.nextslicecap (s.len + cnt) s.cap * by' ≤ 2 ^ 48 ∧ s.len + cnt < 2 ^ 63 ∧ ∃ old, Cs h s.a (s.len * sz) old ∧
    ∀ T newCap rest, s.len + cnt ≤ newCap → rest.length = (newCap - (s.len + cnt)) * sz →
      k ⟨some ⟨h.size, 0, none⟩, s.len + cnt, newCap⟩ (h.push (.cells (old ++ cs ++ rest).toArray T)))
def AppS (h : Hp) (s src : Sl) (sz by' : Nat) (k : Sl → Hp → Prop) : Prop := ∃ cs, Cs h src.a (src.len * sz) cs ∧ (∀ v ∈ cs, one v = true) ∧ App h s cs src.len sz by' k
def Cpy (h : Hp) (dst src : Sl) (sz : Nat) (k : Int → Hp → Prop) : Prop :=
  ∃ cs, Cs h src.a (Nat.min src.len dst.len * sz) cs ∧ (∀ v ∈ cs, one v = true) ∧ match dst.a with
    | some a => StA h a cs fun h' => k (Nat.min src.len dst.len : Nat) h'
    | none => k (Nat.min src.len dst.len : Nat) h
def zrep (zs : List Value) (c : Nat) : List Value := (List.range (c * zs.length)).map fun i => zs[i % zs.length]!
def Mk (h : Hp) (l c : Int) (zs : List Value) (by' : Nat) (k : Sl → Hp → Prop) : Prop :=
  0 ≤ l ∧ l ≤ c ∧ c * by' ≤ 2 ^ 48 ∧ c < 2 ^ 63 ∧ ∀ T, k ⟨some ⟨h.size, 0, none⟩, l.toNat, c.toNat⟩ (h.push (.cells (zrep zs c.toNat).toArray T))

section
variable {P : Program} {n : Nat} {Q : Post} {ρ : Env} {h : Hp} {ops : Array Oper} {rest : List Oper} {d : Nat} {ty : TypeId} {pos : String} {af : Array Edge} {t : TypeId} {m : Nat} {x y : Operand} {a : Addr}

/-! ### strings, pointers, bools compared -/
section
variable {T : TypeId} (a b : Str)
theorem bin_scat (hl : a.length + b.length < 2 ^ 63) : BinR P .add T (vS a) (vS b) (vS (a ++ b)) := fun w x y => by
  have : ¬ (((bs a).size + (bs b).size : Nat) : Int) > IntKind.i64.max := by
    rw [bs_size, bs_size]; simp [IntKind.max, IntKind.signed, IntKind.bits]; omega
  simp only [eqGuard, binOp, vS, Op.stringOp, this, if_false, bs_append]
  simp
theorem bin_seql : BinR P .eql T (vS a) (vS b) (.bool (a == b)) := fun w x y => by simp [eqGuard, binOp, vS, Op.stringOp, bs_toList]
theorem bin_sneq : BinR P .neq T (vS a) (vS b) (.bool (a != b)) := fun w x y => by simp [eqGuard, binOp, vS, Op.stringOp, bs_toList, bne]
theorem bin_slss : BinR P .lss T (vS a) (vS b) (.bool (sLt a b)) := fun w x y => by simp [eqGuard, binOp, vS, Op.stringOp, bs_toList, sLt]
theorem bin_sleq : BinR P .leq T (vS a) (vS b) (.bool (sLt a b || a == b)) := fun w x y => by simp [eqGuard, binOp, vS, Op.stringOp, bs_toList, sLt]
theorem bin_sgtr : BinR P .gtr T (vS a) (vS b) (.bool !(sLt a b || a == b)) := fun w x y => by simp [eqGuard, binOp, vS, Op.stringOp, bs_toList, sLt]
theorem bin_sgeq : BinR P .geq T (vS a) (vS b) (.bool !(sLt a b)) := fun w x y => by simp [eqGuard, binOp, vS, Op.stringOp, bs_toList, sLt]
end
theorem run_eq_ptr {T : TypeId} {e : TypeId} (hu : P.underlying T = some (.pointer e)) (p : Option Addr) (w : World) : (Op.equal T (.pointer p) (.pointer none)).run P w = .ok p.isNone w := by
  unfold Op.equal Op.maxDepth Op.equalIn
  rw [run_ok_bind (run_underlying hu w)]
  cases p <;> rfl
theorem bin_peql {T e : TypeId} (hu : P.underlying T = some (.pointer e)) (p : Option Addr) : BinR P .eql T (.pointer p) (.pointer none) (.bool p.isNone) := fun w x y => by
  have := run_eq_ptr hu p w
  simp only [eqGuard]
  simp only [binOp]
  simp [this]
theorem bin_pneq {T e : TypeId} (hu : P.underlying T = some (.pointer e)) (p : Option Addr) : BinR P .neq T (.pointer p) (.pointer none) (.bool !p.isNone) := fun w x y => by
  have := run_eq_ptr hu p w
  simp only [eqGuard]
  simp only [binOp]
  simp [this]
theorem run_eq_bool {T : TypeId} (hu : P.underlying T = some .bool) (p q : Bool) (w : World) : (Op.equal T (.bool p) (.bool q)).run P w = .ok (p == q) w := by
  unfold Op.equal Op.maxDepth Op.equalIn
  rw [run_ok_bind (run_underlying hu w)]
  rfl
theorem bin_beql {T : TypeId} (hu : P.underlying T = some .bool) (p q : Bool) : BinR P .eql T (.bool p) (.bool q) (.bool (p == q)) := fun w x y => by
  have := run_eq_bool hu p q w
  simp only [eqGuard]
  simp only [binOp]
  simp [this]
theorem bin_bneq {T : TypeId} (hu : P.underlying T = some .bool) (p q : Bool) : BinR P .neq T (.bool p) (.bool q) (.bool (p != q)) := fun w x y => by
  have := run_eq_bool hu p q w
  simp only [eqGuard]
  simp only [binOp]
  simp [this, bne]

/-! ### conversions -/
theorem wpL_cvi {s : TypeId} {k k' : IntKind} {i : Int} {ds : TypeDesc} (hs : P.underlying s = some ds) (hu : P.underlying t = some (.int k)) (hx : ρ.ev x = .int k' i) (hn : Nat.blt d n = true) (hk : wpL P n ops rest Q (ρ.upd d (.int k (k.wrap i))) h) :
    wpL P n ops (⟨some d, .convert s t x, ty, pos, af, none⟩ :: rest) Q ρ h :=
  wpL_val rfl rfl hn (fun w _ => by
    simp only [execOp, convert, bind_assoc, hx]
    rw [run_ok_bind (run_underlying hs w), run_ok_bind (run_underlying hu w)]
    cases ds <;> rfl) hk
theorem wpL_cvs {s : TypeId} {v : Str} (hs : P.underlying s = some .string) (hu : P.underlying t = some .string) (hx : ρ.ev x = vS v) (hn : Nat.blt d n = true) (hk : wpL P n ops rest Q (ρ.upd d (vS v)) h) :
    wpL P n ops (⟨some d, .convert s t x, ty, pos, af, none⟩ :: rest) Q ρ h :=
  wpL_val rfl rfl hn (fun w _ => by
    simp only [execOp, convert, bind_assoc, hx]
    rw [run_ok_bind (run_underlying hs w), run_ok_bind (run_underlying hu w)]
    rfl) hk
theorem modify_push (h : Hp) (o : Obj) (f : Obj → Obj) : (h.push o).modify h.size f = h.push (f o) := by
  apply Array.ext_getElem?
  intro i
  rw [Array.getElem?_modify, Array.getElem?_push, Array.getElem?_push]
  by_cases e : h.size = i
  · subst e; simp
  · rw [if_neg e, if_neg (Ne.symm e), if_neg (Ne.symm e)]
theorem bytes_map (s : Str) : ((bs s).data.map fun b => (Value.int .u8 (b.toNat : Nat))) = (bcells s).toArray := by simp [bs, bcells]
theorem wpL_s2b {s e : TypeId} {v : Str} {K : Sl → Hp → Prop} (hs : P.underlying s = some .string) (hu : P.underlying t = some (.slice e)) (he : P.underlying e = some (.int .u8)) (hx : ρ.ev x = vS v) (hm : S2b h v K) (hn : Nat.blt d n = true)
    (hk : ∀ sl h', K sl h' → wpL P n ops rest Q (ρ.upd d sl.enc) h') : wpL P n ops (⟨some d, .convert s t x, ty, pos, af, none⟩ :: rest) Q ρ h := by
  refine wpL_op rfl rfl hn fun w hw => ?_
  let cap := (Question.appendCap v.length 0 e).cut (w.tape w.drawn (.appendCap v.length 0 e))
  have hcap : v.length ≤ cap := Nat.le_add_right _ _
  refine ⟨Sl.enc ⟨some ⟨w.heap.size, 0, none⟩, v.length, cap⟩, { w with heap := w.heap.push (.cells (bcells v ++ List.replicate (cap - v.length) (Value.int .u8 0)).toArray e (cap, cap + 1)), drawn := w.drawn + 1 }, ?_, ⟨rfl, rfl, rfl, by simp⟩, ?_⟩
  · simp only [execOp, convert, bind_assoc, hx]
    rw [run_ok_bind (run_underlying hs w), run_ok_bind (run_underlying hu w)]
    simp only [vS, bind_assoc]
    rw [run_ok_bind (run_underlying he w)]
    simp only [Conv.stringToBytes, bind_assoc, bs_size, bytes_map]
    have hc : (choose (.appendCap v.length 0 e)).run P w = .ok cap { w with drawn := w.drawn + 1 } := by simp [choose, Sem.run, Question.forced, cap]
    rw [run_ok_bind hc, run_ok_bind (run_newRow e _ _)]
    have hsz : (bcells v ++ List.replicate (cap - v.length) (Value.int .u8 0)).length = cap := by simp [bcells]; omega
    have e1 : (bcells v).toArray ++ Array.replicate (cap - v.length) (Value.int .u8 0) = (bcells v ++ List.replicate (cap - v.length) (Value.int .u8 0)).toArray := by simp
    simp only [e1]
    generalize hL : (bcells v ++ List.replicate (cap - v.length) (Value.int .u8 0)) = L at *
    simp only [markStringish, bind_assoc]
    have hsh : (shape w.heap.size).run P (World.alloc { w with drawn := w.drawn + 1 } (.cells L.toArray e)) = .ok (some (e, cap)) (World.alloc { w with drawn := w.drawn + 1 } (.cells L.toArray e)) := by
      simp [shape, Sem.run, World.shape?, World.alloc, hsz]
    rw [run_ok_bind hsh]
    simp only [freeze, Sem.run_bind, Sem.run]
    simp [World.freeze, World.alloc, Result.andThen, Sl.enc]
    rw [modify_push]; simp
  · have := hm e cap hcap
    rw [← hw] at this
    exact hk _ _ this

theorem wpL_b2s {s e : TypeId} {sl : Sl} {K : Str → Prop} (hs : P.underlying s = some (.slice e)) (hu : P.underlying t = some .string) (he : P.underlying e = some (.int .u8)) (hx : ρ.ev x = sl.enc) (hm : B2s h sl K) (hn : Nat.blt d n = true)
    (hk : ∀ s', K s' → wpL P n ops rest Q (ρ.upd d (vS s')) h) : wpL P n ops (⟨some d, .convert s t x, ty, pos, af, none⟩ :: rest) Q ρ h := by
  obtain ⟨s', ⟨hl, hr⟩, hK⟩ := hm
  refine wpL_val (v := vS s') rfl rfl hn (fun w hw => ?_) (hk s' hK)
  simp only [execOp, convert, bind_assoc, hx, Sl.enc]
  rw [run_ok_bind (run_underlying hs w), run_ok_bind (run_underlying hu w)]
  simp only [bind_assoc]
  rw [run_ok_bind (run_underlying he w)]
  simp only [Conv.bytesToString]
  cases ha : sl.a with
  | none =>
    rw [ha] at hr
    simp only at hr
    have : s' = [] := by simpa [bcells] using hr
    subst this
    rfl
  | some a =>
    rw [ha] at hr
    simp only at hr
    simp only [bind_assoc]
    have hlen : (bcells s').length = sl.len := hl
    have h1 := run_loadCells (P := P) (w := w) (a := a) (cs := bcells s') (hw ▸ hr)
    rw [hlen] at h1
    rw [run_ok_bind h1]
    have key : ∀ (l acc : Str), (forIn (bcells l).toArray (bs acc) fun c r => (match c with | .int .u8 n => pure (ForInStep.yield (r.push (UInt8.ofNat n.toNat))) | _ => do stuck (α := PUnit) "bytesToString: byte expected"; pure (ForInStep.yield r) : Sem (ForInStep ByteArray))).run P w = .ok (bs (acc ++ l)) w := by
      intro l
      induction l with
      | nil => intro acc; simp [bcells, Pure.pure]
      | cons b l ih =>
        intro acc
        have h2 := ih (acc ++ [b])
        simp only [bcells, List.map_cons, List.forIn_toArray, List.forIn_cons, pure_bind] at h2 ⊢
        have e1 : (bs acc).push (UInt8.ofNat (Int.toNat (b.toNat : Nat))) = bs (acc ++ [b]) := by simp [bs, ByteArray.push]
        rw [e1, h2]
        simp
    have h3 := key s' []
    simp only [List.nil_append] at h3
    have e0 : (ByteArray.empty) = bs [] := rfl
    rw [e0]
    exact (run_ok_bind h3).trans rfl

/-! ### append, copy, make -/
theorem run_firstCells {w : World} {s : Sl} {k cnt : Nat} {cs : List Value} (hc : Cs w.heap s.a (cnt * k) cs) : (Builtin.firstCells k cnt s.enc).run P w = .ok cs.toArray w := by
  obtain ⟨hl, hr⟩ := hc
  unfold Builtin.firstCells Sl.enc
  cases ha : s.a with
  | none => rw [ha] at hr; simp only at hr; subst hr; rfl
  | some a =>
    rw [ha] at hr
    simp only at hr ⊢
    rw [← hl]
    exact run_loadCells hr

theorem zeroCells_len (zero : Array Value) (c : Nat) : (Builtin.zeroCells zero c).toList.length = c * zero.size := by simp [Builtin.zeroCells]

theorem run_append {e t2 : TypeId} {b : Bool} {i : TypeInfo} {z : Value} {w : World} {s : Sl} {x : Value} {cs : List Value} {cnt : Nat} {du : TypeDesc} {K : Sl → Hp → Prop}
    (hu : P.underlying t = some (.slice e)) (hu2 : P.underlying t2 = some du) (hdu : (∃ e2, du = .slice e2) ∨ du = .string) (ht : TyS P e m b) (hi : P.info? e = some i) (hby : i.bytes ≠ 0) (hz : TyZ P e z) (hzm : z.cells.size = m)
    (hlen : (Builtin.lenOf x).run P w = .ok cnt w) (hcs : ∀ w', w'.heap = w.heap → (Builtin.firstCells m cnt x).run P w' = .ok cs.toArray w') (hone : ∀ v ∈ cs, one v = true) (hm : App w.heap s cs cnt m i.bytes K) :
    ∃ s' w', (Builtin.append_ #[t, t2] ty #[s.enc, x]).run P w = .ok s'.enc w' ∧ Still w w' ∧ K s' w'.heap := by
  obtain ⟨hroom, hgrow⟩ := hm
  have hinfo : ∀ w : World, (typeInfo e).run P w = .ok i w := fun w => by simp [typeInfo, program, Sem.run_bind, Sem.run, hi]
  by_cases hc : s.len + cnt ≤ s.cap
  · have hr := hroom hc
    cases ha : s.a with
    | none =>
      rw [ha] at hr
      refine ⟨⟨none, s.len + cnt, s.cap⟩, w, ?_, .refl w, hr⟩
      unfold Builtin.append_
      simp only [List.getElem?_toArray, List.getElem?_cons_zero, List.getElem?_cons_succ]
      rw [run_ok_bind (run_underlying hu w)]
      simp only [Sl.enc]
      rw [run_ok_bind (ht.size w)]
      rw [run_ok_bind (run_underlying hu2 w)]
      rcases hdu with ⟨e2, rfl⟩ | rfl
      all_goals
        simp only [pure_bind, Bool.false_eq_true, if_false, bind_assoc]
        rw [run_ok_bind hlen]
        simp only [hc, if_true, Bool.not_false]
        rw [run_ok_bind (hcs w rfl)]
        simp only [ha]; rfl
    | some a =>
      rw [ha] at hr
      obtain ⟨hf, hK⟩ := hr
      obtain ⟨w', h1, h2, h3⟩ := run_storeCells (P := P) (a := a.add (s.len * m)) cs 0 w hone (fun j hj => by rw [Nat.zero_add]; exact hf j hj)
      refine ⟨⟨some a, s.len + cnt, s.cap⟩, w', ?_, h2, by rw [h3]; exact hK⟩
      unfold Builtin.append_
      simp only [List.getElem?_toArray, List.getElem?_cons_zero, List.getElem?_cons_succ]
      rw [run_ok_bind (run_underlying hu w)]
      simp only [Sl.enc]
      rw [run_ok_bind (ht.size w)]
      rw [run_ok_bind (run_underlying hu2 w)]
      rcases hdu with ⟨e2, rfl⟩ | rfl
      all_goals
        simp only [pure_bind, Bool.false_eq_true, if_false, bind_assoc]
        rw [run_ok_bind hlen]
        simp only [hc, if_true, Bool.not_false]
        rw [run_ok_bind (hcs w rfl)]
        simp only [ha]
        rw [run_ok_bind h1]; rfl
  · obtain ⟨hb, h63, old, hold, hK⟩ := hgrow (by omega)
    let cap := (Question.appendCap (s.len + cnt) s.cap e).cut (w.tape w.drawn (.appendCap (s.len + cnt) s.cap e))
    have hcap : s.len + cnt ≤ cap := Nat.le_add_right _ _
    let rest' := (Builtin.zeroCells z.cells (cap - (s.len + cnt))).toList
    have hrl : rest'.length = (cap - (s.len + cnt)) * m := by rw [← hzm]; exact zeroCells_len _ _
    refine ⟨⟨some ⟨w.heap.size, 0, none⟩, s.len + cnt, cap⟩, World.alloc { w with drawn := w.drawn + 1 } (.cells (old ++ cs ++ rest').toArray e), ?_, ⟨rfl, rfl, rfl, by simp [World.alloc]⟩, hK e cap rest' hcap hrl⟩
    have hch : (choose (.appendCap (s.len + cnt) s.cap e)).run P w = .ok cap { w with drawn := w.drawn + 1 } := by simp [choose, Sem.run, Question.forced, cap]
    have hask : ∀ (x : Nat) (w : World), (askRoom x).run P w = .ok () w := fun x w => by unfold askRoom; split <;> rfl
    have hn1 : ¬ (((s.len + cnt : Nat) : Int) > IntKind.i64.max ∧ (False ∨ i.bytes = 0)) := fun hx => hby (hx.2.resolve_left id)
    have hn2 : ¬ (Builtin.nextslicecap (s.len + cnt) s.cap * i.bytes > 2 ^ 48) := by omega
    have hold' := run_firstCells (P := P) (w := { w with drawn := w.drawn + 1 }) (s := s) (k := m) (cnt := s.len) (cs := old) hold
    have hnew := hcs { w with drawn := w.drawn + 1 } rfl
    simp only [Sl.enc] at hold'
    unfold Builtin.append_
    simp only [List.getElem?_toArray, List.getElem?_cons_zero, List.getElem?_cons_succ]
    rw [run_ok_bind (run_underlying hu w)]
    simp only [Sl.enc]
    rw [run_ok_bind (ht.size w)]
    rw [run_ok_bind (run_underlying hu2 w)]
    rcases hdu with ⟨e2, rfl⟩ | rfl
    all_goals
      simp only [pure_bind, Bool.false_eq_true, if_false, bind_assoc]
      rw [run_ok_bind hlen]
      simp only [hc, if_false]
      rw [run_ok_bind (hinfo w)]
      simp only [hn1, if_false]
      rw [run_ok_bind (hinfo w)]
      simp only [hn2, if_false]
      rw [run_ok_bind hch, run_ok_bind (hinfo _), run_ok_bind (hask _ _), run_ok_bind hold']
      simp only [Bool.not_false, if_true]
      rw [run_ok_bind hnew, run_ok_bind (hz _)]
      rw [run_ok_bind (run_newRow e _ _)]
      have e1 : old.toArray ++ cs.toArray ++ Builtin.zeroCells z.cells (cap - (s.len + cnt)) = (old ++ cs ++ rest').toArray := by
        apply Array.ext'; simp [rest']
      rw [e1]; rfl

theorem wpL_apps {t2 e e2 : TypeId} {b : Bool} {i : TypeInfo} {z : Value} {s src : Sl} {as : List Operand} {K : Sl → Hp → Prop} (hu : P.underlying t = some (.slice e)) (hu2 : P.underlying t2 = some (.slice e2)) (ht : TyS P e m b) (hi : P.info? e = some i) (hby : i.bytes ≠ 0)
    (hz : TyZ P e z) (hzm : z.cells.size = m) (hvs : as.map ρ.ev = [s.enc, src.enc]) (hm : AppS h s src m i.bytes K) (hn : Nat.blt d n = true)
    (hk : ∀ s' h', K s' h' → wpL P n ops rest Q (ρ.upd d s'.enc) h') : wpL P n ops (⟨some d, .call ⟨.builtin .append, as.toArray, #[t, t2]⟩, ty, pos, af, none⟩ :: rest) Q ρ h := by
  obtain ⟨cs, hcs, hone, hap⟩ := hm
  refine wpL_op rfl rfl hn fun w hw => ?_
  obtain ⟨s', w', h1, h2, h3⟩ := run_append (ty := ty) hu hu2 (.inl ⟨e2, rfl⟩) ht hi hby hz hzm (s := s) (x := src.enc) (cnt := src.len) (cs := cs) rfl (fun w' hw' => run_firstCells (by rw [hw', hw]; exact hcs)) hone (hw ▸ hap)
  exact ⟨s'.enc, w', run_builtin hvs (fun _ => by simp only [builtin]; rw [run_ok_bind h1]; rfl), h2, hk _ _ h3⟩
theorem wpL_appb {t2 e : TypeId} {b : Bool} {i : TypeInfo} {z : Value} {s : Sl} {src : Str} {as : List Operand} {K : Sl → Hp → Prop} (hu : P.underlying t = some (.slice e)) (hu2 : P.underlying t2 = some .string) (ht : TyS P e 1 b) (hi : P.info? e = some i) (hby : i.bytes ≠ 0)
    (hz : TyZ P e z) (hzm : z.cells.size = 1) (hvs : as.map ρ.ev = [s.enc, vS src]) (hm : App h s (bcells src) src.length 1 i.bytes K) (hn : Nat.blt d n = true)
    (hk : ∀ s' h', K s' h' → wpL P n ops rest Q (ρ.upd d s'.enc) h') : wpL P n ops (⟨some d, .call ⟨.builtin .append, as.toArray, #[t, t2]⟩, ty, pos, af, none⟩ :: rest) Q ρ h := by
  refine wpL_op rfl rfl hn fun w hw => ?_
  have hfc : ∀ w', w'.heap = w.heap → (Builtin.firstCells 1 src.length (vS src)).run P w' = .ok (bcells src).toArray w' := fun w' _ => by
    unfold Builtin.firstCells vS
    simp only [Sem.run, Pure.pure]
    rw [bs_extract]
    simp [bs, bcells]
  obtain ⟨s', w', h1, h2, h3⟩ := run_append (ty := ty) hu hu2 (.inr rfl) ht hi hby hz hzm (s := s) (x := vS src) (cnt := src.length) (cs := bcells src) rfl hfc (by simp [bcells, one]) (hw ▸ hm)
  exact ⟨s'.enc, w', run_builtin hvs (fun _ => by simp only [builtin]; rw [run_ok_bind h1]; rfl), h2, hk _ _ h3⟩
theorem wpL_cpy {t2 e : TypeId} {b : Bool} {s src : Sl} {as : List Operand} {K : Int → Hp → Prop} (hu : P.underlying t = some (.slice e)) (ht : TyS P e m b) (hvs : as.map ρ.ev = [s.enc, src.enc]) (hm : Cpy h s src m K) (hn : Nat.blt d n = true)
    (hk : ∀ r h', K r h' → wpL P n ops rest Q (ρ.upd d (.int .i64 r)) h') : wpL P n ops (⟨some d, .call ⟨.builtin .copy, as.toArray, #[t, t2]⟩, ty, pos, af, none⟩ :: rest) Q ρ h := by
  obtain ⟨cs, hcs, hone, hap⟩ := hm
  refine wpL_op rfl rfl hn fun w hw => ?_
  have hfc := run_firstCells (P := P) (w := w) (s := src) (k := m) (cnt := Nat.min src.len s.len) (cs := cs) (by rw [hw]; exact hcs)
  have hlen : (Builtin.lenOf src.enc).run P w = .ok src.len w := rfl
  cases ha : s.a with
  | none =>
    rw [ha] at hap
    refine ⟨.int .i64 (Nat.min src.len s.len : Nat), w, run_builtin hvs (fun _ => ?_), .refl w, hk _ _ (hw ▸ hap)⟩
    simp only [builtin, Builtin.copy_, List.getElem?_toArray, List.getElem?_cons_zero, List.getElem?_cons_succ, bind_assoc]
    rw [run_ok_bind (run_underlying hu w)]
    rw [show s.enc = .slice s.a s.len s.cap from rfl]
    simp only [bind_assoc]
    rw [run_ok_bind hlen, run_ok_bind (ht.size w), run_ok_bind hfc]
    simp only [ha]; rfl
  | some a =>
    rw [ha] at hap
    obtain ⟨hf, hK⟩ := hap
    obtain ⟨w', h1, h2, h3⟩ := run_storeCells (P := P) (a := a) cs 0 w hone (fun j hj => by rw [Nat.zero_add, hw]; exact hf j hj)
    refine ⟨.int .i64 (Nat.min src.len s.len : Nat), w', run_builtin hvs (fun _ => ?_), h2, hk _ _ (by rw [h3, hw]; exact hK)⟩
    simp only [builtin, Builtin.copy_, List.getElem?_toArray, List.getElem?_cons_zero, List.getElem?_cons_succ, bind_assoc]
    rw [run_ok_bind (run_underlying hu w)]
    rw [show s.enc = .slice s.a s.len s.cap from rfl]
    simp only [bind_assoc]
    rw [run_ok_bind hlen, run_ok_bind (ht.size w), run_ok_bind hfc]
    simp only [ha, bind_assoc]
    rw [run_ok_bind h1]; rfl
theorem wpL_mm {r : Option Operand} {K : Option Nat → Hp → Prop} {kk ee : TypeId} (hu : P.underlying t = some (.map kk ee)) (hr : ∀ o, r = some o → ∃ k i, ρ.ev o = .int k i) (hm : Am h K) (hn : Nat.blt d n = true)
    (hk : ∀ r h', K r h' → wpL P n ops rest Q (ρ.upd d (.map r)) h') : wpL P n ops (⟨some d, .makeMap t r, ty, pos, af, none⟩ :: rest) Q ρ h := by
  refine wpL_op rfl rfl hn fun w hw => ⟨.map (some w.heap.size), w.alloc (.map #[] 0), ?_, still_alloc w _, ?_⟩
  · cases r with
    | none => rfl
    | some o =>
      obtain ⟨k, i, ho⟩ := hr o rfl
      simp only [execOp, Instr.makeMap, Option.map_some, bind_assoc]
      rw [run_ok_bind (run_underlying hu w)]
      simp only [ho, asInt, asIntOf]; rfl
  · subst hw; exact hk _ _ hm
theorem wrap_id {i : Int} (h0 : -2 ^ 63 ≤ i) (h1 : i < 2 ^ 63) : IntKind.i64.wrap i = i := by
  simp [IntKind.wrap, IntKind.bits, IntKind.signed]
  split <;> omega
theorem wpL_mk {e : TypeId} {b : Bool} {i : TypeInfo} {z : Value} {zs : List Value} {l c : Int} {k k' : IntKind} {x y : Operand} {K : Sl → Hp → Prop} (hu : P.underlying t = some (.slice e)) (ht : TyS P e m b) (hi : P.info? e = some i) (hz : TyZ P e z) (hzs : z.cells = zs.toArray) (hzm : zs.length = m)
    (hx : ρ.ev x = .int k l) (hy : ρ.ev y = .int k' c) (hm : Mk h l c zs i.bytes K) (hn : Nat.blt d n = true)
    (hk : ∀ s h', K s h' → wpL P n ops rest Q (ρ.upd d s.enc) h') : wpL P n ops (⟨some d, .makeSlice t x y, ty, pos, af, none⟩ :: rest) Q ρ h := by
  obtain ⟨h0, h1, h2, h3, hK⟩ := hm
  refine wpL_op rfl rfl hn fun w hw => ⟨Sl.enc ⟨some ⟨w.heap.size, 0, none⟩, l.toNat, c.toNat⟩, w.alloc (.cells (zrep zs c.toNat).toArray e), ?_, still_alloc w _, ?_⟩
  · have hinfo : ∀ w : World, (typeInfo e).run P w = .ok i w := fun w => by simp [typeInfo, program, Sem.run_bind, Sem.run, hi]
    have hl : IntKind.i64.wrap l = l := wrap_id (by omega) (by omega)
    have hc : IntKind.i64.wrap c = c := wrap_id (by omega) h3
    have ha : ∀ (x : Nat) (w : World), (askRoom x).run P w = .ok () w := fun x w => by unfold askRoom; split <;> rfl
    simp only [execOp, Instr.makeSlice, bind_assoc]
    rw [run_ok_bind (run_underlying hu w)]
    simp only [hx, hy, asInt, asIntOf, pure_bind, bind_assoc]
    rw [run_ok_bind (hinfo w)]
    have hcond : ¬ ((decide (c < 0) || decide ((i.bytes : Int) * c > 2 ^ 48) || decide (l < 0) || decide (l > c)) = true) := by
      rw [Int.mul_comm]; simp; omega
    simp only [hl, hc]
    have hcond' : ((decide (c < 0) || decide ((i.bytes : Int) * c > 2 ^ 48) || decide (l < 0) || decide (l > c)) = true) = False := eq_false hcond
    first
      | simp only [hcond', if_false]
      | (rw [if_neg (by simpa using hcond)])
    simp only [bind_assoc]
    rw [run_ok_bind (ha _ _), run_ok_bind (ht.size w)]
    by_cases hz0 : c.toNat * m = 0
    · simp only [hz0, if_true, bind_assoc]
      rw [run_ok_bind (run_newRow e _ _)]
      simp [zrep, hzm, hz0, Sl.enc, Sem.run, Pure.pure]
      rw [show Array.range 0 = #[] from rfl]; simp
    · simp only [hz0, if_false, bind_assoc]
      rw [run_ok_bind (hz w)]
      simp only [pure_bind, hzs]
      rw [run_ok_bind (run_newRow e _ _)]
      have e1 : (Array.range (c.toNat * m)).map (fun j => zs.toArray[j % zs.toArray.size]!) = (zrep zs c.toNat).toArray := by
        apply Array.ext'
        simp [zrep, hzm, Array.toList_range]
      rw [e1]; rfl
  · have := hK e
    rw [← hw] at this
    exact hk _ _ this
end
end Lf
end Go
namespace Go
namespace Lf
/-! ### maps -/
def lkp {K V : Type} [BEq K] (l : List (K × V)) (k : K) : Option V := (l.find? fun p => k == p.1).map (·.2)
def mup {K V : Type} [BEq K] : List (K × V) → K → V → List (K × V)
  | [], k, v => [(k, v)]
  | p :: l, k, v => if k == p.1 then (p.1, v) :: l else p :: mup l k v
def mdel {K V : Type} [BEq K] : List (K × V) → K → List (K × V)
  | [], _ => []
  | p :: l, k => if k == p.1 then l else p :: mdel l k

def BornOk (es : List MapEntry) (clk : Nat) : Prop := (∀ e ∈ es, e.born < clk) ∧ (es.map (·.born)).Nodup
def TEs {K V : Type} (ek : K → Value) (ev : V → Value) (es : List MapEntry) (l : List (K × V)) : Prop := es.map (fun e => (e.key, e.val)) = l.map fun p => (ek p.1, ev p.2)
def MapAt {K V : Type} (ek : K → Value) (ev : V → Value) (h : Hp) (r : Nat) (l : List (K × V)) : Prop :=
  ∃ (es : Array MapEntry) (clk : Nat), h[r]? = some (.map es clk) ∧ TEs ek ev es.toList l ∧ BornOk es.toList clk
/-- h' is h but for block r -/
def Only (h h' : Hp) (r : Nat) : Prop := h'.size = h.size ∧ ∀ b, b ≠ r → h'[b]? = h[b]?

def Lk {K V : Type} [BEq K] (ek : K → Value) (ev : V → Value) (h : Hp) (m : Option Nat) (key : K) (k : Option V → Prop) : Prop :=
  (m = none ∧ k none) ∨ ∃ r l, m = some r ∧ MapAt ek ev h r l ∧ k (lkp l key)
def Mu {K V : Type} [BEq K] (ek : K → Value) (ev : V → Value) (h : Hp) (m : Option Nat) (key : K) (v : V) (k : Hp → Prop) : Prop :=
  ∃ r l, m = some r ∧ MapAt ek ev h r l ∧ ∀ h', MapAt ek ev h' r (mup l key v) → Only h h' r → k h'
def Md {K V : Type} [BEq K] (ek : K → Value) (ev : V → Value) (h : Hp) (m : Option Nat) (key : K) (k : Hp → Prop) : Prop :=
  ∃ r l, m = some r ∧ MapAt ek ev h r l ∧ ∀ h', MapAt ek ev h' r (mdel l key) → Only h h' r → k h'
def Ml {K V : Type} (ek : K → Value) (ev : V → Value) (h : Hp) (m : Option Nat) (k : Int → Prop) : Prop :=
  (m = none ∧ k 0) ∨ ∃ r l, m = some r ∧ MapAt ek ev h r l ∧ k (l.length : Nat)
def Mc {K V : Type} (ek : K → Value) (ev : V → Value) (h : Hp) (m : Option Nat) (k : Hp → Prop) : Prop :=
  ∃ r l, m = some r ∧ MapAt ek ev h r l ∧ ∀ h', MapAt ek ev h' r ([] : List (K × V)) → Only h h' r → k h'

/-- what a kind of keys pays -/
structure KeyOk {K : Type} [BEq K] (P : Program) (t : TypeId) (ek : K → Value) : Prop where
  desc : ∃ dd, P.underlying t = some dd ∧ ∀ a b : K, Instr.sameNow dd (ek a) (ek b) = some (a == b)
  check : ∀ (b : Bool) (k : K) (w : World), (Instr.checkKey b 10000 t (ek k)).run P w = .ok () w
  same : ∀ a b : K, (a == b) = true → Instr.sameBits 10000 (ek b) (ek a) = true ∧ ek a = ek b
theorem keyInt {P : Program} {t : TypeId} {k : IntKind} (hu : P.underlying t = some (.int k)) : KeyOk P t (Value.int k) := by
  refine ⟨⟨_, hu, fun a b => by simp [Instr.sameNow]⟩, fun b x w => ?_, fun a b h => ?_⟩
  · unfold Instr.checkKey
    rw [run_ok_bind (run_underlying hu w)]; rfl
  · have : a = b := by simpa using h
    subst this
    exact ⟨by simp [Instr.sameBits], rfl⟩
theorem keyStr {P : Program} {t : TypeId} (hu : P.underlying t = some .string) : KeyOk P t vS := by
  have hinj : ∀ a b : Str, (bs a == bs b) = (a == b) := fun a b => by
    show (Array.mk a == Array.mk b) = (a == b)
    simp
  refine ⟨⟨_, hu, fun a b => by simp [Instr.sameNow, vS, hinj]⟩, fun b x w => ?_, fun a b h => ?_⟩
  · unfold Instr.checkKey
    rw [run_ok_bind (run_underlying hu w)]; rfl
  · have : a = b := by simpa using h
    subst this
    exact ⟨by simp only [Instr.sameBits, vS, hinj]; exact h, rfl⟩

theorem findNow_of {K V : Type} [BEq K] {ek : K → Value} {ev : V → Value} {dd : TypeDesc} (hs : ∀ a b : K, Instr.sameNow dd (ek a) (ek b) = some (a == b)) (key : K) :
    ∀ (es : List MapEntry) (l : List (K × V)) (i : Nat), TEs ek ev es l →
      Instr.findNow dd (ek key) es i = some ((l.findIdx? fun p => key == p.1).bind fun j => (l[j]?).map fun p => (i + j, ev p.2))
  | [], [], i, _ => by simp [Instr.findNow]
  | [], p :: l, i, h => by simp [TEs] at h
  | e :: es, [], i, h => by simp [TEs] at h
  | e :: es, p :: l, i, h => by
    simp only [TEs, List.map_cons, List.cons.injEq, Prod.mk.injEq] at h
    obtain ⟨⟨h1, h2⟩, h3⟩ := h
    unfold Instr.findNow
    rw [h1, hs key p.1]
    cases hk : (key == p.1) with
    | true => simp [List.findIdx?_cons, hk, h2]
    | false =>
      simp only [List.findIdx?_cons, hk, Bool.false_eq_true, if_false]
      rw [findNow_of hs key es l (i + 1) h3]
      cases hf : l.findIdx? (fun p => key == p.1) with
      | none => simp
      | some j => simp [Nat.add_assoc, Nat.add_comm 1 j]

theorem lkp_idx {K V : Type} [BEq K] (key : K) : ∀ (l : List (K × V)), lkp l key = (l.findIdx? fun p => key == p.1).bind fun j => (l[j]?).map (·.2)
  | [] => by simp [lkp]
  | p :: l => by
    have ih := lkp_idx key l
    unfold lkp at *
    cases hk : (key == p.1) with
    | true => simp [List.findIdx?_cons, hk]
    | false =>
      simp only [List.find?_cons, List.findIdx?_cons, hk, Bool.false_eq_true, if_false, ih]
      cases l.findIdx? (fun p => key == p.1) <;> simp

theorem map_eraseIdx {α β : Type} (f : α → β) : ∀ (l : List α) (i : Nat), (l.eraseIdx i).map f = (l.map f).eraseIdx i
  | [], _ => by simp
  | _ :: _, 0 => by simp
  | a :: l, i + 1 => by simp [map_eraseIdx f l i]
section
variable {K V : Type} [BEq K] {P : Program} {ek : K → Value} {ev : V → Value} {t : TypeId}
theorem run_findKey (hk : KeyOk P t ek) {es : List MapEntry} {l : List (K × V)} (hl : TEs ek ev es l) (key : K) (w : World) :
    (Instr.findKey t (ek key) es).run P w = .ok ((l.findIdx? fun p => key == p.1).bind fun j => (l[j]?).map fun p => (j, ev p.2)) w := by
  obtain ⟨dd, hd, hs⟩ := hk.desc
  unfold Instr.findKey
  rw [run_ok_bind (run_underlying hd w), findNow_of hs key es l 0 hl]
  simp [Pure.pure]
theorem run_getMap {w : World} {r : Nat} {es : Array MapEntry} {clk : Nat} (hr : w.heap[r]? = some (.map es clk)) : (getObj r).run P w = .ok (.map es clk) w := by
  simp [getObj, Sem.run, hr]
def putObj (w : World) (r : Nat) (o : Obj) : World := { w with heap := w.heap.setIfInBounds r o }
theorem run_setMap {w : World} {r : Nat} {es : Array MapEntry} {clk : Nat} (hr : w.heap[r]? = some (.map es clk)) (o : Obj) : (Go.setObj r o).run P w = .ok () (putObj w r o) := by
  simp [Go.setObj, Sem.run, hr, putObj]
theorem still_put (w : World) (r : Nat) (o : Obj) : Still w (putObj w r o) := ⟨rfl, rfl, rfl, by simp [putObj]⟩
theorem put_get {w : World} {r : Nat} {o o' : Obj} (hr : w.heap[r]? = some o) : (putObj w r o').heap[r]? = some o' := by
  have : r < w.heap.size := (Array.getElem?_eq_some_iff.1 hr).1
  simp [putObj, this]
theorem put_only (w : World) (r : Nat) (o : Obj) : Only w.heap (putObj w r o).heap r := ⟨by simp [putObj], fun b hb => by simp [putObj, Array.getElem?_setIfInBounds_ne (Ne.symm hb)]⟩

theorem run_lookup {mt te : TypeId} {m : Option Nat} {key : K} {w : World} {z : V} (hu : P.underlying mt = some (.map t te)) (hk : KeyOk P t ek) (hz : TyZ P te (ev z)) (ok : Bool) {k : Option V → Prop} (hm : Lk ek ev w.heap m key k) :
    ∃ o, (Instr.lookup mt (.map m) (ek key) ok).run P w = .ok (if ok then .tuple #[ev (o.getD z), .bool o.isSome] else ev (o.getD z)) w ∧ k o := by
  rcases hm with ⟨rfl, hkn⟩ | ⟨r, l, rfl, ⟨es, clk, hr, hl, _⟩, hkl⟩
  · refine ⟨none, ?_, hkn⟩
    unfold Instr.lookup
    rw [run_ok_bind (run_underlying hu w)]
    simp only [pure_bind]
    rw [run_ok_bind (hk.check _ key w)]
    rw [run_ok_bind (run_findKey hk (ev := ev) (es := #[].toList) (l := []) rfl key w)]
    simp only [List.findIdx?_nil, Option.bind_none]
    rw [run_ok_bind (hz w)]
    cases ok <;> rfl
  · refine ⟨lkp l key, ?_, hkl⟩
    unfold Instr.lookup
    rw [run_ok_bind (run_underlying hu w)]
    simp only []
    rw [run_ok_bind (run_getMap hr)]
    simp only [pure_bind]
    rw [run_ok_bind (hk.check _ key w), run_ok_bind (run_findKey hk hl key w), lkp_idx]
    cases hi : l.findIdx? (fun p => key == p.1) with
    | none =>
      simp only [Option.bind_none]
      rw [run_ok_bind (hz w)]
      cases ok <;> rfl
    | some j =>
      have hj : j < l.length := by
        have := List.findIdx?_eq_some_iff_getElem.1 hi
        exact this.1
      simp only [Option.bind_some, List.getElem?_eq_getElem hj, Option.map_some]
      cases ok <;> rfl

omit [BEq K] in
theorem TEs_len {es : List MapEntry} {l : List (K × V)} (h : TEs ek ev es l) : es.length = l.length := by
  have := congrArg List.length h
  simpa using this
omit [BEq K] in
theorem TEs_get {es : List MapEntry} {l : List (K × V)} (h : TEs ek ev es l) {i : Nat} (hi : i < l.length) : ∃ e, es[i]? = some e ∧ e.key = ek l[i].1 ∧ e.val = ev l[i].2 := by
  have h1 : i < es.length := by rw [TEs_len h]; exact hi
  have := congrArg (fun x => x[i]?) h
  simp only [List.getElem?_map, List.getElem?_eq_getElem hi, List.getElem?_eq_getElem h1, Option.map_some, Option.some.injEq, Prod.mk.injEq] at this
  exact ⟨es[i], List.getElem?_eq_getElem h1, this.1, this.2⟩
theorem mup_hit (key : K) (v : V) : ∀ (l : List (K × V)) (i : Nat) (_ : l.findIdx? (fun p => key == p.1) = some i) (hl : i < l.length), mup l key v = l.set i (l[i].1, v)
  | [], i, hi, hl => by simp at hi
  | p :: l, i, hi, hl => by
    unfold mup
    rw [List.findIdx?_cons] at hi
    cases hk : (key == p.1) with
    | true =>
      simp [hk] at hi
      subst hi
      simp
    | false =>
      simp only [hk, Bool.false_eq_true, if_false, Option.map_eq_some_iff] at hi
      obtain ⟨j, hj, rfl⟩ := hi
      have hjl : j < l.length := by simpa using hl
      simp only [Bool.false_eq_true, if_false, List.set_cons_succ, List.getElem_cons_succ]
      rw [mup_hit key v l j hj hjl]
theorem mup_miss (key : K) (v : V) : ∀ (l : List (K × V)), l.findIdx? (fun p => key == p.1) = none → mup l key v = l ++ [(key, v)]
  | [], _ => rfl
  | p :: l, hi => by
    unfold mup
    rw [List.findIdx?_cons] at hi
    cases hk : (key == p.1) with
    | true => simp [hk] at hi
    | false =>
      simp only [hk, Bool.false_eq_true, if_false, Option.map_eq_none_iff] at hi
      simp only [Bool.false_eq_true, if_false, List.cons_append]
      rw [mup_miss key v l hi]
theorem mdel_hit (key : K) : ∀ (l : List (K × V)) (i : Nat), l.findIdx? (fun p => key == p.1) = some i → mdel l key = l.eraseIdx i
  | [], i, hi => by simp at hi
  | p :: l, i, hi => by
    unfold mdel
    rw [List.findIdx?_cons] at hi
    cases hk : (key == p.1) with
    | true => simp [hk] at hi; subst hi; simp
    | false =>
      simp only [hk, Bool.false_eq_true, if_false, Option.map_eq_some_iff] at hi
      obtain ⟨j, hj, rfl⟩ := hi
      simp only [Bool.false_eq_true, if_false, List.eraseIdx_cons_succ]
      rw [mdel_hit key l j hj]
theorem mdel_miss (key : K) : ∀ (l : List (K × V)), l.findIdx? (fun p => key == p.1) = none → mdel l key = l
  | [], _ => rfl
  | p :: l, hi => by
    unfold mdel
    rw [List.findIdx?_cons] at hi
    cases hk : (key == p.1) with
    | true => simp [hk] at hi
    | false =>
      simp only [hk, Bool.false_eq_true, if_false, Option.map_eq_none_iff] at hi
      simp only [Bool.false_eq_true, if_false]
      rw [mdel_miss key l hi]

theorem run_update {mt te : TypeId} {m : Option Nat} {key : K} {v : V} {w : World} (hu : P.underlying mt = some (.map t te)) (hk : KeyOk P t ek) {k : Hp → Prop} (hm : Mu ek ev w.heap m key v k) :
    ∃ w', (Instr.mapUpdate mt (.map m) (ek key) (ev v)).run P w = .ok () w' ∧ Still w w' ∧ k w'.heap := by
  obtain ⟨r, l, rfl, ⟨es, clk, hr, hl, hb⟩, hkk⟩ := hm
  cases hi : l.findIdx? (fun p => key == p.1) with
  | none =>
    refine ⟨putObj w r (.map (es.push { key := ek key, val := ev v, born := clk }) (clk + 1)), ?_, still_put _ _ _, hkk _ ⟨_, _, put_get hr, ?_, ?_⟩ (put_only _ _ _)⟩
    · unfold Instr.mapUpdate
      rw [run_ok_bind (run_underlying hu w)]
      simp only []
      rw [run_ok_bind (run_getMap hr)]
      simp only []
      rw [run_ok_bind (hk.check _ key w), run_ok_bind (run_findKey hk hl key w), hi]
      exact run_setMap hr _
    · rw [mup_miss key v l hi]
      simp only [TEs, Array.toList_push, List.map_append] at hl ⊢
      rw [hl]; rfl
    · refine ⟨fun e he => ?_, ?_⟩
      · rw [Array.toList_push, List.mem_append] at he
        rcases he with he | he
        · exact Nat.lt_succ_of_lt (hb.1 e he)
        · simp at he; subst he; exact Nat.lt_succ_self _
      · rw [Array.toList_push, List.map_append, List.nodup_append]
        refine ⟨hb.2, by simp, ?_⟩
        intro a ha b hb'
        simp only [List.map_cons, List.map_nil, List.mem_singleton] at hb'
        subst hb'
        obtain ⟨e, he, rfl⟩ := List.mem_map.1 ha
        exact Nat.ne_of_lt (hb.1 e he)
  | some i =>
    have hil : i < l.length := (List.findIdx?_eq_some_iff_getElem.1 hi).1
    have hib : (key == l[i].1) = true := (List.findIdx?_eq_some_iff_getElem.1 hi).2.1
    obtain ⟨e, he, hek, hev⟩ := TEs_get hl hil
    have hes : i < es.size := by have := (List.getElem?_eq_some_iff.1 he).1; simpa using this
    have hsame := hk.same key l[i].1 hib
    let f : MapEntry → MapEntry := fun e => { e with key := ek key, val := ev v }
    refine ⟨putObj w r (.map (es.modify i f) clk), ?_, still_put _ _ _, hkk _ ⟨_, _, put_get hr, ?_, ?_⟩ (put_only _ _ _)⟩
    · unfold Instr.mapUpdate
      rw [run_ok_bind (run_underlying hu w)]
      simp only []
      rw [run_ok_bind (run_getMap hr)]
      simp only []
      rw [run_ok_bind (hk.check _ key w), run_ok_bind (run_findKey hk hl key w), hi]
      simp only [Option.bind_some, List.getElem?_eq_getElem hil, Option.map_some]
      have hkey : (Instr.keyThatStays ((es[i]?.map (·.key)).getD (ek key)) (ek key)).run P w = .ok (ek key) w := by
        have h1 : es[i]? = some e := by rw [← he]; simp
        rw [h1]
        simp only [Option.map_some, Option.getD_some, hek]
        unfold Instr.keyThatStays
        simp only [hsame.1, if_true]; rfl
      rw [run_ok_bind hkey]
      exact run_setMap hr _
    · rw [mup_hit key v l i hi hil]
      simp only [TEs, Array.toList_modify] at hl ⊢
      apply List.ext_getElem?
      intro j
      have hj := congrArg (fun x => x[j]?) hl
      simp only [List.getElem?_map, List.getElem?_modify, List.getElem?_set] at hj ⊢
      by_cases hji : i = j
      · subst hji
        simp only [he, if_true, hil, Option.map_some]
        simp [f, hsame.2]
      · simp only [hji, if_false]
        simpa using hj
    · have hborn : (es.modify i f).toList.map (·.born) = es.toList.map (·.born) := by
        rw [Array.toList_modify]
        apply List.ext_getElem?
        intro j
        simp only [List.getElem?_map, List.getElem?_modify]
        by_cases hji : i = j
        · subst hji; cases es.toList[i]? <;> simp [f]
        · simp [hji]
      refine ⟨fun e' he' => ?_, by rw [hborn]; exact hb.2⟩
      have h1 : e'.born ∈ es.toList.map (·.born) := by rw [← hborn]; exact List.mem_map_of_mem he'
      obtain ⟨e2, h2, h3⟩ := List.mem_map.1 h1
      rw [← h3]; exact hb.1 e2 h2

theorem run_delete {mt te ty : TypeId} {m : Option Nat} {key : K} {w : World} {t2 : TypeId} (hu : P.underlying mt = some (.map t te)) (hk : KeyOk P t ek) {k : Hp → Prop} (hm : Md ek ev w.heap m key k) :
    ∃ v w', (Builtin.delete_ #[mt, t2] ty #[.map m, ek key]).run P w = .ok v w' ∧ Still w w' ∧ k w'.heap := by
  obtain ⟨r, l, rfl, ⟨es, clk, hr, hl, hb⟩, hkk⟩ := hm
  cases hi : l.findIdx? (fun p => key == p.1) with
  | none =>
    refine ⟨.tuple #[], putObj w r (.map es clk), ?_, still_put _ _ _, hkk _ ⟨_, _, put_get hr, by rw [mdel_miss key l hi]; exact hl, hb⟩ (put_only _ _ _)⟩
    · unfold Builtin.delete_
      simp only [List.getElem?_toArray, List.getElem?_cons_zero, List.getElem?_cons_succ]
      rw [run_ok_bind (run_underlying hu w)]
      simp only []
      rw [run_ok_bind (run_getMap hr)]
      simp only []
      rw [run_ok_bind (hk.check _ key w), run_ok_bind (run_findKey hk hl key w), hi]
      simp only [Option.bind_none]
      rw [run_ok_bind (run_setMap hr _)]; rfl
  | some i =>
    have hil : i < l.length := (List.findIdx?_eq_some_iff_getElem.1 hi).1
    have hel : (es.eraseIdxIfInBounds i).toList = es.toList.eraseIdx i := by simp
    refine ⟨.tuple #[], putObj w r (.map (es.eraseIdxIfInBounds i) clk), ?_, still_put _ _ _, hkk _ ⟨_, _, put_get hr, ?_, ?_⟩ (put_only _ _ _)⟩
    · unfold Builtin.delete_
      simp only [List.getElem?_toArray, List.getElem?_cons_zero, List.getElem?_cons_succ]
      rw [run_ok_bind (run_underlying hu w)]
      simp only []
      rw [run_ok_bind (run_getMap hr)]
      simp only []
      rw [run_ok_bind (hk.check _ key w), run_ok_bind (run_findKey hk hl key w), hi]
      simp only [Option.bind_some, List.getElem?_eq_getElem hil, Option.map_some]
      rw [run_ok_bind (run_setMap hr _)]; rfl
    · rw [mdel_hit key l i hi, hel]
      simp only [TEs] at hl ⊢
      rw [map_eraseIdx, map_eraseIdx, hl]
    · rw [hel]
      refine ⟨fun e he => hb.1 e (List.mem_of_mem_eraseIdx he), ?_⟩
      rw [map_eraseIdx]
      exact hb.2.sublist (List.eraseIdx_sublist _ _)
end

/-! ### ranging over a map -/
def It {K V : Type} (ek : K → Value) (ev : V → Value) (h : Hp) (it r : Nat) (l left : List (K × V)) (cur : Option (K × V)) : Prop :=
  ∃ (es : Array MapEntry) (clk : Nat) (seen : Array Nat), h[it]? = some (.mapIter (some r) clk seen clk) ∧ h[r]? = some (.map es clk) ∧ TEs ek ev es.toList l ∧ BornOk es.toList clk ∧
    TEs ek ev (es.toList.filter fun e => !seen.contains e.born) left ∧
    ∀ c, cur = some c → ∃ e b, seen.back? = some b ∧ es.find? (fun e => e.born == b) = some e ∧ e.key = ek c.1 ∧ e.val = ev c.2
def Mr {K V : Type} (ek : K → Value) (ev : V → Value) (h : Hp) (m : Option Nat) (k : Addr → Hp → Prop) : Prop :=
  ∃ r l, m = some r ∧ MapAt ek ev h r l ∧ ∀ o, It ek ev (h.push o) h.size r l l none → k ⟨h.size, 0, none⟩ (h.push o)
def Mn {K V : Type} (ek : K → Value) (ev : V → Value) (h : Hp) (a : Addr) (k : Bool → Hp → Prop) : Prop :=
  ∃ r l left cur, a.off = 0 ∧ It ek ev h a.block r l left cur ∧ (left = [] → k false h) ∧ ∀ i c, left[i]? = some c → ∀ h', It ek ev h' a.block r l (left.eraseIdx i) (some c) → Only h h' a.block → k true h'
def Me {K V : Type} (ek : K → Value) (ev : V → Value) (h : Hp) (a : Addr) (k : K × V → Prop) : Prop :=
  ∃ r l left c, a.off = 0 ∧ It ek ev h a.block r l left (some c) ∧ k c

section
variable {P : Program} {n : Nat} {Q : Post} {ρ : Env} {h : Hp} {ops : Array Oper} {rest : List Oper} {d : Nat} {ty : TypeId} {pos : String} {af : Array Edge} {t mt te : TypeId} {x y z : Operand} {a : Addr}
variable {K V : Type} [BEq K] {ek : K → Value} {ev : V → Value} {m : Option Nat} {key : K} {v : V}

theorem wpL_lk {zv : V} {k : Option V → Prop} (hu : P.underlying mt = some (.map t te)) (hk : KeyOk P t ek) (hz : TyZ P te (ev zv)) (hx : ρ.ev x = .map m) (hy : ρ.ev y = ek key) (hm : Lk ek ev h m key k) (hn : Nat.blt d n = true)
    (hc : ∀ o, k o → wpL P n ops rest Q (ρ.upd d (ev (o.getD zv))) h) : wpL P n ops (⟨some d, .lookup mt x y false, ty, pos, af, none⟩ :: rest) Q ρ h :=
  wpL_op rfl rfl hn fun w hw => by
    obtain ⟨o, h1, h2⟩ := run_lookup hu hk hz false (hw ▸ hm)
    exact ⟨_, w, by simp only [execOp, hx, hy]; rw [run_ok_bind h1]; rfl, .refl w, hw ▸ hc o h2⟩
theorem wpL_lkok {zv : V} {k : Option V → Prop} (hu : P.underlying mt = some (.map t te)) (hk : KeyOk P t ek) (hz : TyZ P te (ev zv)) (hx : ρ.ev x = .map m) (hy : ρ.ev y = ek key) (hm : Lk ek ev h m key k) (hn : Nat.blt d n = true)
    (hc : ∀ o, k o → wpL P n ops rest Q (ρ.upd d (.tuple #[ev (o.getD zv), .bool o.isSome])) h) : wpL P n ops (⟨some d, .lookup mt x y true, ty, pos, af, none⟩ :: rest) Q ρ h :=
  wpL_op rfl rfl hn fun w hw => by
    obtain ⟨o, h1, h2⟩ := run_lookup hu hk hz true (hw ▸ hm)
    exact ⟨_, w, by simp only [execOp, hx, hy]; rw [run_ok_bind h1]; rfl, .refl w, hw ▸ hc o h2⟩
theorem wpL_mu {k : Hp → Prop} (hu : P.underlying mt = some (.map t te)) (hk : KeyOk P t ek) (hx : ρ.ev x = .map m) (hy : ρ.ev y = ek key) (hz : ρ.ev z = ev v) (hm : Mu ek ev h m key v k)
    (hc : ∀ h', k h' → wpL P n ops rest Q ρ h') : wpL P n ops (⟨none, .mapUpdate mt x y z, ty, pos, af, none⟩ :: rest) Q ρ h :=
  wpL_skip rfl rfl fun w hw => by
    obtain ⟨w', h1, h2, h3⟩ := run_update hu hk (hw ▸ hm)
    exact ⟨w', by simp only [execOp, hx, hy, hz]; rw [run_ok_bind h1]; rfl, h2, hc _ h3⟩
theorem wpL_md {t2 : TypeId} {as : List Operand} {k : Hp → Prop} (hu : P.underlying mt = some (.map t te)) (hk : KeyOk P t ek) (hvs : as.map ρ.ev = [.map m, ek key]) (hm : Md ek ev h m key k)
    (hc : ∀ h', k h' → wpL P n ops rest Q ρ h') : wpL P n ops (⟨none, .call ⟨.builtin .delete, as.toArray, #[mt, t2]⟩, ty, pos, af, none⟩ :: rest) Q ρ h :=
  wpL_op0 rfl rfl fun w hw => by
    obtain ⟨v, w', h1, h2, h3⟩ := run_delete (ty := ty) (t2 := t2) hu hk (hw ▸ hm)
    refine ⟨v, w', ?_, h2, hc _ h3⟩
    simp only [execOp, resolve, pure_bind, List.map_toArray, hvs, invoke, builtin]
    rw [run_ok_bind h1]; rfl
omit [BEq K] in
theorem wpL_ml {as : List Operand} {k : Int → Prop} (hu : P.underlying mt = some (.map t te)) (hvs : as.map ρ.ev = [.map m]) (hm : Ml ek ev h m k) (hn : Nat.blt d n = true)
    (hc : ∀ i, k i → wpL P n ops rest Q (ρ.upd d (.int .i64 i)) h) : wpL P n ops (⟨some d, .call ⟨.builtin .len, as.toArray, #[mt]⟩, ty, pos, af, none⟩ :: rest) Q ρ h := by
  rcases hm with ⟨rfl, hk⟩ | ⟨r, l, rfl, ⟨es, clk, hr, hl, _⟩, hk⟩
  · refine wpL_val rfl rfl hn (fun w _ => run_builtin hvs (fun _ => ?_)) (hc 0 hk)
    simp only [builtin, Builtin.len_, List.getElem?_toArray, List.getElem?_cons_zero, bind_assoc]
    rw [run_ok_bind (run_underlying hu w)]; rfl
  · refine wpL_val rfl rfl hn (fun w hw => run_builtin hvs (fun _ => ?_)) (hc _ hk)
    simp only [builtin, Builtin.len_, List.getElem?_toArray, List.getElem?_cons_zero, bind_assoc]
    rw [run_ok_bind (run_underlying hu w)]
    simp only [bind_assoc]
    rw [run_ok_bind (run_getMap (hw ▸ hr))]
    have : es.size = l.length := by have := TEs_len hl; simpa using this
    simp only [goInt, this]; rfl
omit [BEq K] in
theorem wpL_mc {as : List Operand} {k : Hp → Prop} (hu : P.underlying mt = some (.map t te)) (hvs : as.map ρ.ev = [.map m]) (hm : Mc ek ev h m k)
    (hc : ∀ h', k h' → wpL P n ops rest Q ρ h') : wpL P n ops (⟨none, .call ⟨.builtin .clear, as.toArray, #[mt]⟩, ty, pos, af, none⟩ :: rest) Q ρ h :=
  wpL_op0 rfl rfl fun w hw => by
    obtain ⟨r, l, rfl, ⟨es, clk, hr, hl, _⟩, hk⟩ := hm
    subst hw
    refine ⟨.tuple #[], putObj w r (.map #[] clk), ?_, still_put _ _ _, hc _ (hk _ ⟨_, _, put_get hr, rfl, by simp [BornOk]⟩ (put_only _ _ _))⟩
    simp only [execOp, resolve, pure_bind, List.map_toArray, hvs, invoke, builtin, Builtin.clear_, List.getElem?_toArray, List.getElem?_cons_zero, bind_assoc]
    rw [run_ok_bind (run_underlying hu w)]
    rw [run_ok_bind (run_getMap hr)]
    simp only [bind_assoc]
    rw [run_ok_bind (run_setMap hr _)]; rfl
omit [BEq K] in
theorem wpL_mr {k : Addr → Hp → Prop} (hu : P.underlying mt = some (.map t te)) (hx : ρ.ev x = .map m) (hm : Mr ek ev h m k) (hn : Nat.blt d n = true)
    (hc : ∀ a h', k a h' → wpL P n ops rest Q (ρ.upd d (.pointer (some a))) h') : wpL P n ops (⟨some d, .range mt x, ty, pos, af, none⟩ :: rest) Q ρ h :=
  wpL_op rfl rfl hn fun w hw => by
    obtain ⟨r, l, rfl, ⟨es, clk, hr, hl, hb⟩, hk⟩ := hm
    subst hw
    refine ⟨_, w.alloc (.mapIter (some r) clk #[] clk), ?_, still_alloc _ _, hc _ _ (hk (.mapIter (some r) clk #[] clk) ⟨es, clk, #[], by simp, ?_, hl, hb, (by rw [show (es.toList.filter fun e => !(#[] : Array Nat).contains e.born) = es.toList from List.filter_eq_self.2 (by simp)]; exact hl), by simp⟩)⟩
    · simp only [execOp, hx, Instr.range, bind_assoc]
      rw [run_ok_bind (run_underlying hu w)]
      simp only [bind_assoc]
      rw [run_ok_bind (run_getMap hr)]; rfl
    · have : r < w.heap.size := (Array.getElem?_eq_some_iff.1 hr).1
      rw [Array.getElem?_push_lt this]; rw [← hr]; simp [this]

theorem filter_ne_erase : ∀ (L : List MapEntry) (i : Nat) (hi : i < L.length), (L.map (·.born)).Nodup → L.filter (fun e => !(e.born == L[i].born)) = L.eraseIdx i
  | [], i, hi, _ => by simp at hi
  | e :: L, 0, _, hn => by
    rw [List.map_cons, List.nodup_cons] at hn
    simp only [List.getElem_cons_zero, List.eraseIdx_cons_zero, List.filter_cons, beq_self_eq_true, Bool.not_true, Bool.false_eq_true, if_false]
    refine List.filter_eq_self.2 fun x hx => ?_
    have : x.born ≠ e.born := fun h => hn.1 (h ▸ List.mem_map_of_mem hx)
    simpa using this
  | e :: L, i + 1, hi, hn => by
    rw [List.map_cons, List.nodup_cons] at hn
    have hiL : i < L.length := by simpa using hi
    have hne : e.born ≠ L[i].born := fun h => hn.1 (h ▸ List.mem_map_of_mem (List.getElem_mem hiL))
    simp only [List.getElem_cons_succ, List.eraseIdx_cons_succ, List.filter_cons]
    have : (!(e.born == L[i].born)) = true := by simpa using hne
    rw [if_pos this, filter_ne_erase L i hiL hn.2]
theorem find_born : ∀ (L : List MapEntry) (e : MapEntry), e ∈ L → (L.map (·.born)).Nodup → L.find? (fun x => x.born == e.born) = some e
  | x :: L, e, he, hn => by
    rw [List.map_cons, List.nodup_cons] at hn
    rcases List.mem_cons.1 he with rfl | he
    · simp
    · have : x.born ≠ e.born := fun h => hn.1 (h ▸ List.mem_map_of_mem he)
      rw [List.find?_cons_of_neg (by simpa using this)]
      exact find_born L e he hn.2
omit [BEq K] in
theorem wpL_nx {k : Bool → Hp → Prop} (hx : ρ.ev x = .pointer (some a)) (hm : Mn ek ev h a k) (hn : Nat.blt d n = true)
    (hc : ∀ b h' (vs : Array Value), vs[0]? = some (.bool b) → k b h' → wpL P n ops rest Q (ρ.upd d (.tuple vs)) h') : wpL P n ops (⟨some d, .next x false, ty, pos, af, none⟩ :: rest) Q ρ h :=
  wpL_op rfl rfl hn fun w hw => by
    obtain ⟨r, l, left, cur, ha, ⟨es, clk, seen, hit, hr, hl, hb, hleft, _⟩, hno, hyes⟩ := hm
    subst hw
    obtain ⟨b, off, spot⟩ := a
    simp only at ha hit hyes hno
    subst ha
    have hgi : (getObj b).run P w = .ok (.mapIter (some r) clk seen clk) w := by simp [getObj, Sem.run, hit]
    have hcond : (!seen.isEmpty && !es.isEmpty && es.all fun e => decide (e.born ≥ clk)) = false := by
      by_cases hes : es.isEmpty
      · simp [hes]
      · have : es.all (fun e => decide (e.born ≥ clk)) = false := by
          rw [Bool.eq_false_iff]
          intro hall
          have h0 : 0 < es.size := by
            rcases Nat.eq_zero_or_pos es.size with h | h
            · exact absurd (by simpa [Array.isEmpty] using h) hes
            · exact h
          have h1 := Array.all_eq_true.1 hall 0 h0
          have h2 := hb.1 es[0] (by simp)
          simp at h1
          omega
        simp [this]
    have hold : ((es.filter fun e => !seen.contains e.born).filter fun e => decide (e.born < clk)) = es.filter fun e => !seen.contains e.born := by
      apply Array.ext'
      rw [Array.toList_filter]
      refine List.filter_eq_self.2 fun e he => ?_
      rw [Array.toList_filter] at he
      exact decide_eq_true (hb.1 e (List.mem_filter.1 he).1)
    have hnew : ((es.filter fun e => !seen.contains e.born).filter fun e => decide (e.born ≥ clk)) = #[] := by
      apply Array.ext'
      rw [Array.toList_filter]
      refine List.filter_eq_nil_iff.2 fun e he => ?_
      rw [Array.toList_filter] at he
      have := hb.1 e (List.mem_filter.1 he).1
      simp; omega
    generalize hL : (es.filter fun e => !seen.contains e.born) = L at hold hnew
    have hLl : L.toList = es.toList.filter fun e => !seen.contains e.born := by rw [← hL, Array.toList_filter]
    rw [← hLl] at hleft
    have hlen : L.size = left.length := by have := TEs_len hleft; simpa using this
    have start : (execOp ρ.ev ⟨some d, .next x false, ty, pos, af, none⟩).run P w = (do
        let v ← (do
          let candidates := (if L.isEmpty then #[none] else #[]) ++ (L ++ #[]).map some
          match candidates[← choose (.mapNext candidates.size)]? with
          | some (some e) =>
            Go.setObj b (.mapIter (some r) clk (seen.push e.born) clk)
            pure (.tuple #[.bool true, e.key, e.val])
          | some none => pure (.tuple #[.bool false])
          | none => stuck "Next: no such candidate" : Sem Value)
        pure (.value v) : Sem Next).run P w := by
      simp only [execOp, hx, Instr.next]
      simp only [bind_assoc]
      rw [run_ok_bind hgi]
      simp only [bind_assoc]
      rw [run_ok_bind (run_getMap hr)]
      simp only [hcond, Bool.false_eq_true, if_false, hL, hold, hnew]
      simp only [bind_assoc]
      rfl
    by_cases hemp : left = []
    · subst hemp
      have hL0 : L = #[] := by
        have : L.size = 0 := by simpa using hlen
        exact Array.eq_empty_of_size_eq_zero this
      refine ⟨.tuple #[.bool false], w, ?_, .refl w, hc false _ _ rfl (hno rfl)⟩
      rw [start, hL0]
      simp only [Array.isEmpty_empty, if_true, Array.map_empty, Array.append_empty]
      have hch : (choose (.mapNext (#[none] : Array (Option MapEntry)).size)).run P w = .ok 0 w := by simp [choose, Sem.run, Question.forced]
      simp only [bind_assoc]
      rw [run_ok_bind hch]; rfl
    · have hpos : 0 < L.size := by rw [hlen]; exact List.length_pos_iff.2 hemp
      have hLne : L.isEmpty = false := by
        rw [Bool.eq_false_iff]; intro h
        have : L.size = 0 := by simpa [Array.isEmpty] using h
        omega
      obtain ⟨i, w1, hi, hch, hs1⟩ : ∃ i w1, i < L.size ∧ (choose (.mapNext L.size)).run P w = .ok i w1 ∧ (w1.heap = w.heap ∧ Still w w1) := by
        by_cases h1 : L.size ≤ 1
        · exact ⟨0, w, hpos, by simp [choose, Sem.run, Question.forced, h1], rfl, .refl w⟩
        · exact ⟨_, { w with drawn := w.drawn + 1 }, Nat.mod_lt (w.tape w.drawn (.mapNext L.size)) hpos, by simp [choose, Sem.run, Question.forced, h1, Question.cut], rfl, ⟨rfl, rfl, rfl, Nat.le_refl _⟩⟩
      have hil : i < left.length := by rw [← hlen]; exact hi
      obtain ⟨e, he, hek, hev⟩ := TEs_get hleft hil
      have heL : L[i] = e := by
        have := (List.getElem?_eq_some_iff.1 he).2
        simpa using this
      have heL' : L[i]? = some e := by rw [Array.getElem?_eq_getElem hi, heL]
      have hit1 : w1.heap[b]? = some (.mapIter (some r) clk seen clk) := by rw [hs1.1]; exact hit
      have hset : (Go.setObj b (.mapIter (some r) clk (seen.push e.born) clk)).run P w1 = .ok () (putObj w1 b (.mapIter (some r) clk (seen.push e.born) clk)) := by
        simp [Go.setObj, Sem.run, hit1, putObj]
      have hne : r ≠ b := fun h => by subst h; rw [hit] at hr; cases hr
      have hmem : e ∈ es.toList := by
        have h1 : e ∈ L.toList := by rw [← heL]; exact Array.getElem_mem_toList hi
        rw [hLl] at h1; exact (List.mem_filter.1 h1).1
      have hIt : It ek ev (putObj w1 b (.mapIter (some r) clk (seen.push e.born) clk)).heap b r l (left.eraseIdx i) (some left[i]) := by
        refine ⟨es, clk, seen.push e.born, put_get hit1, ?_, hl, hb, ?_, fun c hc => ?_⟩
        · rw [(put_only w1 b _).2 r hne, hs1.1]; exact hr
        · have h1 : (es.toList.filter fun x => !(seen.push e.born).contains x.born) = L.toList.eraseIdx i := by
            have hLL : i < L.toList.length := by simpa using hi
            have h2 := filter_ne_erase L.toList i hLL (by rw [hLl]; exact hb.2.sublist (List.Sublist.map _ List.filter_sublist))
            have h3 : L.toList[i] = e := by simpa using heL
            rw [h3] at h2
            rw [← h2, hLl, List.filter_filter]
            refine List.filter_congr fun x _ => ?_
            rw [Array.contains_push]
            cases h1 : seen.contains x.born <;> cases h2 : (x.born == e.born) <;> rfl
          rw [h1]
          simp only [TEs] at hleft ⊢
          rw [map_eraseIdx, map_eraseIdx, hleft]
        · obtain rfl : left[i] = c := by simpa using hc
          refine ⟨e, e.born, by simp, ?_, hek, hev⟩
          rw [← Array.find?_toList]
          exact find_born es.toList e hmem hb.2
      refine ⟨.tuple #[.bool true, e.key, e.val], _, ?_, hs1.2.trans (still_put w1 b _), hc true _ _ rfl (hyes i _ (List.getElem?_eq_getElem hil) _ hIt ?_)⟩
      · rw [start, hLne]
        simp only [Bool.false_eq_true, if_false, Array.empty_append, Array.append_empty, Array.size_map, bind_assoc]
        rw [run_ok_bind hch]
        simp only [Array.getElem?_map, heL', Option.map_some, bind_assoc]
        rw [run_ok_bind hset]; rfl
      · have := put_only w1 b (.mapIter (some r) clk (seen.push e.born) clk)
        rw [hs1.1] at this; exact this
omit [BEq K] in
theorem wpL_en {k : K × V → Prop} (hx : ρ.ev x = .pointer (some a)) (hm : Me ek ev h a k) (hn : Nat.blt d n = true)
    (hc : ∀ c, k c → wpL P n ops rest Q (ρ.upd d (.tuple #[ek c.1, ev c.2])) h) : wpL P n ops (⟨some d, .entry x, ty, pos, af, none⟩ :: rest) Q ρ h := by
  obtain ⟨r, l, left, c, ha, ⟨es, clk, seen, hit, hr, _, _, _, hcur⟩, hk⟩ := hm
  refine wpL_val rfl rfl hn (fun w hw => ?_) (hc c hk)
  subst hw
  obtain ⟨b, off, spot⟩ := a
  simp only at ha hit
  subst ha
  obtain ⟨e, bb, h1, h2, h3, h4⟩ := hcur c rfl
  have hgi : (getObj b).run P w = .ok (.mapIter (some r) clk seen clk) w := by simp [getObj, Sem.run, hit]
  simp only [execOp, hx, Instr.entry, bind_assoc]
  rw [run_ok_bind hgi]
  simp only [h1, bind_assoc]
  rw [run_ok_bind (run_getMap hr)]
  simp only [bne_self_eq_false, Bool.false_eq_true, if_false, h2, h3, h4]; rfl
end
end Lf
end Go
namespace Go
namespace Lf
/-- in this heap the operation yields v and does nothing -/
def Yl (P : Program) (ρ : Env) (o : Oper) (h : Hp) (v : Value) : Prop := ∀ w, w.heap = h → (execOp ρ.ev o).run P w = .ok (.value v) w
section
variable {P : Program} {n : Nat} {Q : Post} {ρ : Env} {h : Hp} {ops : Array Oper} {rest : List Oper} {o : Oper} {dd : Option Nat} {ty : TypeId} {pos : String} {af : Array Edge} {g : Option (Nat × Bool)} {t : TypeId} {m : Nat} {x y : Operand} {a : Addr} {v : Value}

theorem wpL_y {d : Nat} (hg : o.guard = none) (hd : o.dst = some d) (hn : Nat.blt d n = true) (hy : Yl P ρ o h v) (hk : wpL P n ops rest Q (ρ.upd d v) h) : wpL P n ops (o :: rest) Q ρ h :=
  wpL_val hg hd hn hy hk
theorem wpL_y0 (hg : o.guard = none) (hd : o.dst = none) (hy : Yl P ρ o h v) (hk : wpL P n ops rest Q ρ h) : wpL P n ops (o :: rest) Q ρ h :=
  wpL_op0 hg hd fun w hw => ⟨v, w, hy w hw, .refl w, hw ▸ hk⟩

theorem y_mv : Yl P ρ ⟨dd, .move x, ty, pos, af, g⟩ h (ρ.ev x) := fun _ _ => rfl
theorem y_as : Yl P ρ ⟨dd, .assign x, ty, pos, af, g⟩ h (ρ.ev x) := fun _ _ => rfl
theorem y_pickt {c z u : Operand} (hc : ρ.ev c = .bool true) : Yl P ρ ⟨dd, .pick c z u, ty, pos, af, g⟩ h (ρ.ev z) := fun w _ => by simp [execOp, hc, asBool]
theorem y_pickf {c z u : Operand} (hc : ρ.ev c = .bool false) : Yl P ρ ⟨dd, .pick c z u, ty, pos, af, g⟩ h (ρ.ev u) := fun w _ => by simp [execOp, hc, asBool]
theorem y_ext {i : Nat} {vs : Array Value} (hx : ρ.ev x = .tuple vs) (hi : vs[i]? = some v) : Yl P ρ ⟨dd, .extract x i, ty, pos, af, g⟩ h v := fun w _ => by simp [execOp, hx, Instr.extract, hi]
theorem y_mf {fn : Fn} {fs cs : List Operand} {vs us : List Value} (hf : fs.map ρ.ev = vs) (hc : cs.map ρ.ev = us) : Yl P ρ ⟨dd, .makeFunc fn fs.toArray cs.toArray, ty, pos, af, g⟩ h (.func fn vs.toArray us.toArray) := fun w _ => by simp [execOp, ← hf, ← hc, Instr.makeFunc]
theorem y_bin {op : BinOp} {T yT : TypeId} {vx vy : Value} (hx : ρ.ev x = vx) (hy : ρ.ev y = vy) (hr : BinR P op T vx vy v) : Yl P ρ ⟨dd, .binOp op T x y yT, ty, pos, af, g⟩ h v := fun w _ => by
  simp only [execOp]
  rw [hx, hy, run_ok_bind (hr w x y)]; rfl
theorem y_not {T : TypeId} {b : Bool} (hx : ρ.ev x = .bool b) : Yl P ρ ⟨dd, .unOp .not T x, ty, pos, af, g⟩ h (.bool !b) := fun w _ => by simp [execOp, hx, Op.unary]
theorem y_neg {T : TypeId} {k : IntKind} {i : Int} (hx : ρ.ev x = .int k i) : Yl P ρ ⟨dd, .unOp .neg T x, ty, pos, af, g⟩ h (.int k (k.wrap (0 - i))) := fun w _ => by simp only [execOp, hx, Op.unary]; rfl
theorem y_xor {T : TypeId} {k : IntKind} {i : Int} (hx : ρ.ev x = .int k i) : Yl P ρ ⟨dd, .unOp .xor T x, ty, pos, af, g⟩ h (.int k (iNot k i)) := fun w _ => by simp only [execOp, hx, Op.unary]; rfl
theorem y_ld (ht : TyS P t m false) (hx : ρ.ev x = .pointer (some a)) (hc : Hp.cell? h a = some v) : Yl P ρ ⟨dd, .load t x, ty, pos, af, g⟩ h v := fun w hw => by
  simp only [execOp, hx, Instr.loadAt, Instr.sureAddr, pure_bind, loadVar]
  have : (do if ← isAgg t then pure (Value.agg (← loadCells a (← sizeOf t))) else load a : Sem Value).run P w = .ok v w := by
    rw [run_ok_bind (ht.agg w)]
    simp only [Bool.false_eq_true, if_false]
    exact run_load (hw ▸ hc)
  rw [run_ok_bind this]; rfl
theorem y_lda {cs : List Value} (ht : TyS P t m true) (hl : cs.length = m) (hx : ρ.ev x = .pointer (some a)) (hc : Row h a cs) : Yl P ρ ⟨dd, .load t x, ty, pos, af, g⟩ h (.agg cs.toArray) := fun w hw => by
  simp only [execOp, hx, Instr.loadAt, Instr.sureAddr, pure_bind, loadVar]
  have : (do if ← isAgg t then pure (Value.agg (← loadCells a (← sizeOf t))) else load a : Sem Value).run P w = .ok (.agg cs.toArray) w := by
    rw [run_ok_bind (ht.agg w)]
    simp only [if_true]
    rw [run_ok_bind (ht.size w), ← hl, run_ok_bind (run_loadCells (hw ▸ hc))]
    rfl
  rw [run_ok_bind this]; rfl
theorem y_fa {i off : Nat} {s : TypeId} (hfa : FA P s i off) (hx : ρ.ev x = .pointer (some a)) : Yl P ρ ⟨dd, .fieldAddr s x i, ty, pos, af, g⟩ h (.pointer (some (a.add off))) := fun w _ => by
  simp only [execOp, hx]; rw [run_ok_bind (hfa a w)]; rfl
theorem y_nn (hx : ρ.ev x = .pointer (some a)) : Yl P ρ ⟨dd, .nilCheck x, ty, pos, af, g⟩ h (.pointer (some a)) := fun w _ => by simp [execOp, hx]
theorem y_ix {e : TypeId} {b : Bool} {s : Sl} {i : Int} {k : IntKind} (hu : P.underlying t = some (.slice e)) (ht : TyS P e m b) (hx : ρ.ev x = s.enc) (hy : ρ.ev y = .int k i) (ha : s.a = some a) (h0 : 0 ≤ i) (h1 : i < (s.len : Int)) :
    Yl P ρ ⟨dd, .indexAddr t x y, ty, pos, af, g⟩ h (.pointer (some (a.add (i.toNat * m)))) := fun w _ => by
  simp only [execOp, hx, hy, Sl.enc, Instr.indexAt, asIntOf, pure_bind]
  simp only [bind_assoc]
  rw [run_ok_bind (run_underlying hu w)]
  simp only [bind_assoc]
  rw [run_ok_bind (run_underlying hu w)]
  simp only [ha, h0, h1, and_self, if_true, bind_assoc]
  rw [run_ok_bind (ht.size w)]; rfl
theorem y_six {s : Str} {i : Int} {k : IntKind} {b : UInt8} (hu : P.underlying t = some .string) (hx : ρ.ev x = vS s) (hy : ρ.ev y = .int k i) (h0 : 0 ≤ i) (h1 : s[i.toNat]? = some b) :
    Yl P ρ ⟨dd, .index t x y, ty, pos, af, g⟩ h (.int .u8 (b.toNat : Nat)) := fun w _ => by
  simp only [execOp, hx, hy, Instr.index, asIntOf, pure_bind, vS, bind_assoc]
  rw [run_ok_bind (run_underlying hu w)]
  simp only [h0, if_true, bs_get, h1]; rfl
theorem y_fld {s : TypeId} {i : Nat} {fs : Array Field} {f : Field} {b : Bool} {cs : List Value} (hu : P.underlying s = some (.struct fs)) (hf : fs[i]? = some f) (ht : TyS P f.type m b) (hx : ρ.ev x = .agg cs.toArray)
    (hv : fieldV b cs f.offset m = some v) : Yl P ρ ⟨dd, .field s x i, ty, pos, af, g⟩ h v := fun w _ => by
  simp only [execOp, hx, Instr.field, bind_assoc]
  rw [run_ok_bind (run_underlying hu w)]
  simp only [hf, asAgg, pure_bind, part, bind_assoc]
  rw [run_ok_bind (ht.agg w)]
  cases b
  · simp only [fieldV, cond_false] at hv
    simp only [Bool.false_eq_true, if_false, List.getElem?_toArray, hv]; rfl
  · simp only [fieldV, cond_true] at hv
    simp only [if_true, bind_assoc]
    rw [run_ok_bind (ht.size w)]
    simp only [List.extract_toArray]
    simp only [Option.some.injEq] at hv
    rw [List.extract_eq_take_drop, show f.offset + m - f.offset = m by omega, hv]; rfl
theorem y_build {z : Value} {zs cs : List Value} {fs : List Field} {pl : List (Nat × Nat)} {ps : List (Nat × Operand)} {vs : List (Nat × Value)} (hz : TyZ P t z) (hzs : z.cells = zs.toArray) (hu : P.underlying t = some (.struct fs.toArray)) (hp : Places P fs pl)
    (hvs : (ps.map fun (i, x) => (i, ρ.ev x)) = vs) (hf : fillL (fun i => pl[i]?) zs vs = some cs) : Yl P ρ ⟨dd, .build t ps.toArray, ty, pos, af, g⟩ h (.agg cs.toArray) := fun w _ => by
  simp only [execOp, Instr.build, bind_assoc]
  rw [run_ok_bind (hz w), run_ok_bind (run_underlying hu w)]
  simp only [bind_assoc, List.mapM_toArray, map_eq_pure_bind]
  have hp' := hp w
  rw [run_ok_bind hp']
  have h1 := fill_of hf
  simp only [parts_map, hvs, hzs, pure_bind]
  have e : (fun (i : Nat) => pl.toArray[i]?) = (fun (i : Nat) => pl[i]?) := by funext i; simp
  rw [e, h1]; rfl
theorem y_builda {z : Value} {zs cs : List Value} {len : Nat} {e : TypeId} {b : Bool} {ps : List (Nat × Operand)} {vs : List (Nat × Value)} (hz : TyZ P t z) (hzs : z.cells = zs.toArray) (hu : P.underlying t = some (.array len e)) (ht : TyS P e m b)
    (hvs : (ps.map fun (i, x) => (i, ρ.ev x)) = vs) (hf : fillL (fun i => some (i * m, m)) zs vs = some cs) : Yl P ρ ⟨dd, .build t ps.toArray, ty, pos, af, g⟩ h (.agg cs.toArray) := fun w _ => by
  simp only [execOp, Instr.build, bind_assoc]
  rw [run_ok_bind (hz w), run_ok_bind (run_underlying hu w)]
  simp only [bind_assoc]
  rw [run_ok_bind (ht.size w)]
  have h1 := fill_of hf
  simp only [parts_map, hvs, hzs, h1]; rfl
section
variable {lo hi : Option Operand} {l u : Int} {s : Str} {sl : Sl}
theorem y_ssl (hu : P.underlying t = some .string) (hx : ρ.ev x = vS s) (hl : BoundIs ρ lo 0 l) (hh : BoundIs ρ hi (s.length : Int) u) (h0 : 0 ≤ l) (h1 : l ≤ u) (h2 : u ≤ (s.length : Int)) :
    Yl P ρ ⟨dd, .slice t x lo hi none, ty, pos, af, g⟩ h (vS ((s.take u.toNat).drop l.toNat)) := fun w hw => by
  have hk : wpL P 1 #[] [] (fun _ _ _ => True) ρ h := wpL_nil trivial
  simp only [execOp, Instr.sliceAt, bind_assoc]
  rw [run_ok_bind (run_underlying hu w)]
  simp only [Instr.slice, bind_assoc]
  rw [run_ok_bind (run_underlying hu w)]
  simp only [hx, vS, Option.map_none, Option.isSome_none, Bool.false_eq_true, if_false]
  have hb : Instr.sliceBounds false (bs s).size (bs s).size (lo.map ρ.ev) (hi.map ρ.ev) none = (pure (l.toNat, u.toNat, (bs s).size) : Sem (Nat × Nat × Nat)) := by
    unfold Instr.sliceBounds
    cases lo with
    | none =>
      obtain rfl : l = 0 := hl
      cases hi with
      | none => obtain rfl : u = (s.length : Int) := hh; simp [bs_size]
      | some hx' => obtain ⟨k, hh⟩ := hh; simp only [Option.map_some, Option.map_none, pure_bind]; rw [run_sb hh (by omega) (by rw [bs_size]; exact h2)]; rfl
    | some lx =>
      obtain ⟨k, hl⟩ := hl
      cases hi with
      | none => obtain rfl : u = (s.length : Int) := hh; simp only [Option.map_some, Option.map_none, pure_bind]; rw [run_sb hl h0 (by rw [bs_size]; exact h1)]; rfl
      | some hx' => obtain ⟨k', hh⟩ := hh; simp only [Option.map_some, pure_bind]; rw [run_sb hh (by omega) (by rw [bs_size]; exact h2)]; simp only [pure_bind]; rw [run_sb hl h0 (by omega)]; rfl
  rw [hb]
  simp only [pure_bind, bs_extract]; rfl
theorem y_slsl {e : TypeId} {b : Bool} (hu : P.underlying t = some (.slice e)) (ht : TyS P e m b) (hx : ρ.ev x = sl.enc) (hl : BoundIs ρ lo 0 l) (hh : BoundIs ρ hi (sl.len : Int) u) (h0 : 0 ≤ l) (h1 : l ≤ u) (h2 : u ≤ (sl.cap : Int)) :
    Yl P ρ ⟨dd, .slice t x lo hi none, ty, pos, af, g⟩ h (sl.sub l.toNat u.toNat m).enc := fun w hw => by
  simp only [execOp, Instr.sliceAt, bind_assoc]
  rw [run_ok_bind (run_underlying hu w)]
  simp only [Instr.slice, bind_assoc]
  rw [run_ok_bind (run_underlying hu w)]
  simp only [hx, Sl.enc, Option.map_none]
  have hb : Instr.sliceBounds true sl.len sl.cap (lo.map ρ.ev) (hi.map ρ.ev) none = (pure (l.toNat, u.toNat, sl.cap) : Sem (Nat × Nat × Nat)) := by
    unfold Instr.sliceBounds
    cases lo with
    | none =>
      obtain rfl : l = 0 := hl
      cases hi with
      | none => obtain rfl : u = (sl.len : Int) := hh; simp
      | some hx' => obtain ⟨k, hh⟩ := hh; simp only [Option.map_some, Option.map_none, pure_bind]; rw [run_sb hh (by omega) h2]; rfl
    | some lx =>
      obtain ⟨k, hl⟩ := hl
      cases hi with
      | none => obtain rfl : u = (sl.len : Int) := hh; simp only [Option.map_some, Option.map_none, pure_bind]; rw [run_sb hl h0 h1]; rfl
      | some hx' => obtain ⟨k', hh⟩ := hh; simp only [Option.map_some, pure_bind]; rw [run_sb hh (by omega) h2]; simp only [pure_bind]; rw [run_sb hl h0 (by omega)]; rfl
  rw [hb]
  simp only [pure_bind, bind_assoc]
  rw [run_ok_bind (ht.size w)]; rfl
end
theorem yl_builtin {b : Builtin} {as : List Operand} {vs : List Value} {tys : Array TypeId} (hvs : as.map ρ.ev = vs)
    (hr : ∀ w, w.heap = h → ∀ cs, (builtin b tys ty cs vs.toArray).run P w = .ok (.value v) w) : Yl P ρ ⟨dd, .call ⟨.builtin b, as.toArray, tys⟩, ty, pos, af, g⟩ h v := fun w hw => by
  simp only [execOp, resolve, pure_bind, List.map_toArray, hvs, invoke]
  exact hr w hw _
theorem y_lensl {e : TypeId} {sl : Sl} {as : List Operand} (hu : P.underlying t = some (.slice e)) (hvs : as.map ρ.ev = [sl.enc]) : Yl P ρ ⟨dd, .call ⟨.builtin .len, as.toArray, #[t]⟩, ty, pos, af, g⟩ h (.int .i64 sl.len) :=
  yl_builtin hvs fun w _ _ => by
    simp only [builtin, Builtin.len_, Sl.enc, List.getElem?_toArray, List.getElem?_cons_zero, bind_assoc]
    rw [run_ok_bind (run_underlying hu w)]; rfl
theorem y_lenstr {s : Str} {as : List Operand} (hu : P.underlying t = some .string) (hvs : as.map ρ.ev = [vS s]) : Yl P ρ ⟨dd, .call ⟨.builtin .len, as.toArray, #[t]⟩, ty, pos, af, g⟩ h (.int .i64 s.length) :=
  yl_builtin hvs fun w _ _ => by
    simp only [builtin, Builtin.len_, vS, List.getElem?_toArray, List.getElem?_cons_zero, bind_assoc]
    rw [run_ok_bind (run_underlying hu w)]; rfl
theorem y_capsl {e : TypeId} {sl : Sl} {as : List Operand} (hu : P.underlying t = some (.slice e)) (hvs : as.map ρ.ev = [sl.enc]) : Yl P ρ ⟨dd, .call ⟨.builtin .cap, as.toArray, #[t]⟩, ty, pos, af, g⟩ h (.int .i64 sl.cap) :=
  yl_builtin hvs fun w _ _ => by
    simp only [builtin, Builtin.cap_, Sl.enc, List.getElem?_toArray, List.getElem?_cons_zero, bind_assoc]
    rw [run_ok_bind (run_underlying hu w)]; rfl
theorem y_max {k k' : IntKind} {i j : Int} {as : List Operand} {tys : Array TypeId} (hvs : as.map ρ.ev = [.int k i, .int k' j]) : Yl P ρ ⟨dd, .call ⟨.builtin .max, as.toArray, tys⟩, ty, pos, af, g⟩ h (.int k (iMax i j)) :=
  yl_builtin hvs fun w _ _ => by simp [builtin, Builtin.max_, Builtin.max2, iMax]
theorem y_min {k k' : IntKind} {i j : Int} {as : List Operand} {tys : Array TypeId} (hvs : as.map ρ.ev = [.int k i, .int k' j]) : Yl P ρ ⟨dd, .call ⟨.builtin .min, as.toArray, tys⟩, ty, pos, af, g⟩ h (.int k (iMin i j)) :=
  yl_builtin hvs fun w _ _ => by simp [builtin, Builtin.min_, Builtin.min2, iMin]
theorem y_cvi {s : TypeId} {k k' : IntKind} {i : Int} {ds : TypeDesc} (hs : P.underlying s = some ds) (hu : P.underlying t = some (.int k)) (hx : ρ.ev x = .int k' i) : Yl P ρ ⟨dd, .convert s t x, ty, pos, af, g⟩ h (.int k (k.wrap i)) := fun w _ => by
  simp only [execOp, convert, bind_assoc, hx]
  rw [run_ok_bind (run_underlying hs w), run_ok_bind (run_underlying hu w)]
  cases ds <;> rfl
theorem y_cvs {s : TypeId} {u : Str} (hs : P.underlying s = some .string) (hu : P.underlying t = some .string) (hx : ρ.ev x = vS u) : Yl P ρ ⟨dd, .convert s t x, ty, pos, af, g⟩ h (vS u) := fun w _ => by
  simp only [execOp, convert, bind_assoc, hx]
  rw [run_ok_bind (run_underlying hs w), run_ok_bind (run_underlying hu w)]
  rfl
theorem y_b2s {s e : TypeId} {sl : Sl} {s' : Str} (hs : P.underlying s = some (.slice e)) (hu : P.underlying t = some .string) (he : P.underlying e = some (.int .u8)) (hx : ρ.ev x = sl.enc) (hc : Cs h sl.a sl.len (bcells s')) : Yl P ρ ⟨dd, .convert s t x, ty, pos, af, g⟩ h (vS s') := fun w hw => by
  obtain ⟨hl, hr⟩ := hc
  simp only [execOp, convert, bind_assoc, hx, Sl.enc]
  rw [run_ok_bind (run_underlying hs w), run_ok_bind (run_underlying hu w)]
  simp only [bind_assoc]
  rw [run_ok_bind (run_underlying he w)]
  simp only [Conv.bytesToString]
  cases ha : sl.a with
  | none =>
    rw [ha] at hr
    simp only at hr
    have : s' = [] := by simpa [bcells] using hr
    subst this
    rfl
  | some a =>
    rw [ha] at hr
    simp only at hr
    simp only [bind_assoc]
    have hlen : (bcells s').length = sl.len := hl
    have h1 := run_loadCells (P := P) (w := w) (a := a) (cs := bcells s') (hw ▸ hr)
    rw [hlen] at h1
    rw [run_ok_bind h1]
    have key : ∀ (l acc : Str), (forIn (bcells l).toArray (bs acc) fun c r => (match c with | .int .u8 n => pure (ForInStep.yield (r.push (UInt8.ofNat n.toNat))) | _ => do stuck (α := PUnit) "bytesToString: byte expected"; pure (ForInStep.yield r) : Sem (ForInStep ByteArray))).run P w = .ok (bs (acc ++ l)) w := by
      intro l
      induction l with
      | nil => intro acc; simp [bcells, Pure.pure]
      | cons b l ih =>
        intro acc
        have h2 := ih (acc ++ [b])
        simp only [bcells, List.map_cons, List.forIn_toArray, List.forIn_cons, pure_bind] at h2 ⊢
        have e1 : (bs acc).push (UInt8.ofNat (Int.toNat (b.toNat : Nat))) = bs (acc ++ [b]) := by simp [bs, ByteArray.push]
        rw [e1, h2]
        simp
    have h3 := key s' []
    simp only [List.nil_append] at h3
    have e0 : (ByteArray.empty) = bs [] := rfl
    rw [e0]
    exact (run_ok_bind h3).trans rfl
/-- an owned look into a map: what is read, and what it hangs on -/
def LkAt {K V : Type} [BEq K] (ek : K → Value) (ev : V → Value) (h : Hp) (m : Option Nat) (key : K) (o : Option V) : Prop := Lk ek ev h m key (fun o' => o' = o)
theorem y_lk {K V : Type} [BEq K] {ek : K → Value} {ev : V → Value} {mt te : TypeId} {m : Option Nat} {key : K} {zv : V} {o : Option V} (hu : P.underlying mt = some (.map t te)) (hk : KeyOk P t ek) (hz : TyZ P te (ev zv)) (hx : ρ.ev x = .map m) (hy : ρ.ev y = ek key) (hm : LkAt ek ev h m key o) :
    Yl P ρ ⟨dd, .lookup mt x y false, ty, pos, af, g⟩ h (ev (o.getD zv)) := fun w hw => by
  obtain ⟨o', h1, h2⟩ := run_lookup hu hk hz false (hw ▸ hm)
  subst h2
  simp only [execOp, hx, hy]; rw [run_ok_bind h1]; rfl
theorem y_lkok {K V : Type} [BEq K] {ek : K → Value} {ev : V → Value} {mt te : TypeId} {m : Option Nat} {key : K} {zv : V} {o : Option V} (hu : P.underlying mt = some (.map t te)) (hk : KeyOk P t ek) (hz : TyZ P te (ev zv)) (hx : ρ.ev x = .map m) (hy : ρ.ev y = ek key) (hm : LkAt ek ev h m key o) :
    Yl P ρ ⟨dd, .lookup mt x y true, ty, pos, af, g⟩ h (.tuple #[ev (o.getD zv), .bool o.isSome]) := fun w hw => by
  obtain ⟨o', h1, h2⟩ := run_lookup hu hk hz true (hw ▸ hm)
  subst h2
  simp only [execOp, hx, hy]; rw [run_ok_bind h1]; rfl
end
/-- a look into a map, as a step of a formula -/
def LkF {K V : Type} [BEq K] (ek : K → Value) (ev : V → Value) (h : Hp) (m : Option Nat) (key : K) (k : Option V → Prop) : Prop := ∃ o, LkAt ek ev h m key o ∧ k o

/-! ### results -/
def tupV : List Value → Value
  | [v] => v
  | vs => .tuple vs.toArray
theorem run_res {P : Program} {fn : Func} {ρ : Env} {w : World} (ts : List Nat) (hres : fn.results = (ts.map ResultVar.tmp).toArray) : (resV fn ρ).run P w = .ok (tupV (ts.map ρ)) w := by
  unfold resV
  have h1 : ∀ (l : List Nat), ((l.map ResultVar.tmp).mapM (resE ρ) : Sem (List Value)) = pure (l.map ρ) := by
    intro l
    induction l with
    | nil => rfl
    | cons t l ih => rw [List.map_cons, List.mapM_cons, ih]; rfl
  rw [hres, List.mapM_toArray, h1 ts]
  simp only [map_pure, pure_bind]
  match ts with
  | [] => rfl
  | [t] => rfl
  | t :: u :: l => simp [tupV, Pure.pure]
theorem body_ret {P : Program} {fn : Func} {ρ : Env} {h : Hp} {α : Type} {enc : α → Value} {K : α → Hp → Prop} {r : α} (ts : List Nat) (hres : fn.results = (ts.map ResultVar.tmp).toArray) {vs : List Value} (hv : ts.map ρ = vs) (he : tupV vs = enc r) (hk : K r h) : Body P fn (Rt enc K) .ret ρ h :=
  ⟨enc r, fun w _ => by rw [run_res ts hres, hv, he], r, rfl, hk⟩
theorem body_end {P : Program} {fn : Func} {ρ : Env} {h : Hp} {α : Type} {enc : α → Value} {K : α → Hp → Prop} {r : α} (ts : List Nat) (hres : fn.results = (ts.map ResultVar.tmp).toArray) {vs : List Value} (hv : ts.map ρ = vs) (he : tupV vs = enc r) (hk : K r h) : Body P fn (Rt enc K) .normal ρ h :=
  body_ret ts hres hv he hk
theorem body_retE {P : Program} {fn : Func} {ρ : Env} {h : Hp} {α : Type} {enc : α → Value} {K : α → Hp → Prop} {E : List PanicEntry → Hp → Prop} {r : α} (ts : List Nat) (hres : fn.results = (ts.map ResultVar.tmp).toArray) {vs : List Value} (hv : ts.map ρ = vs) (he : tupV vs = enc r) (hk : K r h) : Body P fn (RtE enc K E) .ret ρ h :=
  ⟨enc r, fun w _ => by rw [run_res ts hres, hv, he], r, rfl, hk⟩
theorem body_endE {P : Program} {fn : Func} {ρ : Env} {h : Hp} {α : Type} {enc : α → Value} {K : α → Hp → Prop} {E : List PanicEntry → Hp → Prop} {r : α} (ts : List Nat) (hres : fn.results = (ts.map ResultVar.tmp).toArray) {vs : List Value} (hv : ts.map ρ = vs) (he : tupV vs = enc r) (hk : K r h) : Body P fn (RtE enc K E) .normal ρ h :=
  body_retE ts hres hv he hk
theorem lnil {α β : Type} {f : α → β} : List.map f [] = [] := rfl
theorem lcons {α β : Type} {f : α → β} {a : α} {l : List α} {b : β} {l' : List β} (h : f a = b) (hl : List.map f l = l') : List.map f (a :: l) = b :: l' := by rw [List.map_cons, h, hl]
theorem pcons {ρ : Env} {i : Nat} {a : Operand} {l : List (Nat × Operand)} {b : Value} {l' : List (Nat × Value)} (h : ρ.ev a = b) (hl : (l.map fun (i, x) => (i, ρ.ev x)) = l') : (((i, a) :: l).map fun (i, x) => (i, ρ.ev x)) = (i, b) :: l' := by rw [List.map_cons, hl]; simp only [h]
end Lf
end Go
namespace Go
namespace Lf
/-! ### a region that draws its order -/
section
variable {P : Program} {ops : Array Oper} {Q : Exit → Act → World → Prop} {md : Region.Mode}
/-- whatever order is picked from here on, and S holds behind each operation -/
def wpS (P : Program) (md : Region.Mode) (ops : Array Oper) (Q : Exit → Act → World → Prop) (S : Array Bool → World → Prop) : Nat → Array Bool → Act → World → Prop
  | 0, listed, a, w => Region.ready md ops listed = [] ∧ Q .normal a w
  | fuel + 1, listed, a, w =>
    (Region.ready md ops listed = [] → Q .normal a w) ∧
    ∀ i ∈ Region.ready md ops listed, wpOp P ops Q i (fun a' w' => S (listed.setIfInBounds i true) w' ∧ wpS P md ops Q S fuel (listed.setIfInBounds i true) a' w') a w
theorem wpAny_of_S {S : Array Bool → World → Prop} : ∀ (fuel : Nat) (listed : Array Bool) (a : Act) (w : World), wpS P md ops Q S fuel listed a w → wpAny P md ops Q fuel listed a w
  | 0, _, _, _, h => h
  | fuel + 1, _, _, _, h => ⟨h.1, fun i hi => wpOp_mono (fun a' w' h' => wpAny_of_S fuel _ a' w' h'.2) (h.2 i hi)⟩
theorem wpS_mono {S S' : Array Bool → World → Prop} (hs : ∀ l w, S l w → S' l w) : ∀ (fuel : Nat) (listed : Array Bool) (a : Act) (w : World), wpS P md ops Q S fuel listed a w → wpS P md ops Q S' fuel listed a w
  | 0, _, _, _, h => h
  | fuel + 1, _, _, _, h => ⟨h.1, fun i hi => wpOp_mono (fun a' w' h' => ⟨hs _ _ h'.1, wpS_mono hs fuel _ a' w' h'.2⟩) (h.2 i hi)⟩
/-- an operation that may come up now may be taken first, if it yields its value in every world that S allows before operation kk, which waits for it, has come up -/
theorem wpS_first {S : Array Bool → World → Prop} {i : Nat} {oi : Oper} {v : Value} (kk : Nat) (hi : ops[i]? = some oi) (hsel : ∀ (j : Nat) (o : Oper) cs b, ops[j]? = some o → o.op ≠ .select cs b)
    (hQ : ∀ c a w, Q (.panic c) (a.put oi.dst v) w → Q (.panic c) a w)
    (hw : ∀ o, ops[kk]? = some o → ∃ e ∈ o.after, Region.binds md e = true ∧ e.on = i)
    (hSi : ∀ l w, S (l.setIfInBounds i true) w → S l w) :
    ∀ (fuel : Nat) (listed : Array Bool) (a : Act) (w : World),
      (∀ j oj, ops[j]? = some oj → j ≠ i → listed.getD j true = false → (∀ e ∈ oj.after, Region.binds md e = true → e.on ≠ i) → oi.apart ops oj = true) →
      i ∈ Region.ready md ops listed → listed.getD kk false = false → YieldsIf P ops (fun w => ∃ l, l.getD kk false = false ∧ S l w) oi v a → S listed w → S (listed.setIfInBounds i true) w →
      wpS P md ops Q S fuel (listed.setIfInBounds i true) (a.put oi.dst v) w → wpS P md ops Q S (fuel + 1) listed a w := by
  intro fuel
  induction fuel with
  | zero =>
    intro listed a w _ hr hk hy hS hS' H
    refine ⟨fun h => (by rw [h] at hr; cases hr), fun j hj => ?_⟩
    by_cases hji : j = i
    · subst hji; exact hy.wpOp hi ⟨listed, hk, hS⟩ ⟨hS', H⟩
    · have := ready_mono hj hji
      rw [H.1] at this
      cases this
  | succ fuel ih =>
    intro listed a w hfree hr hk hy hS hS' H
    refine ⟨fun h => (by rw [h] at hr; cases hr), fun j hj => ?_⟩
    by_cases hji : j = i
    · subst hji; exact hy.wpOp hi ⟨listed, hk, hS⟩ ⟨hS', H⟩
    · have h1 := H.2 j (ready_mono hj hji)
      obtain ⟨hjun, oj, hoj, hall⟩ := mem_ready.1 hj
      have hnot : ∀ e ∈ oj.after, Region.binds md e = true → e.on ≠ i := fun e he hb heq => by
        have h1 := hall e he hb
        have h0 := (mem_ready.1 hr).1
        rw [heq] at h1
        rcases Nat.lt_or_ge i listed.size with h' | h'
        · simp [h'] at h0 h1; rw [h0] at h1; cases h1
        · simp [Array.getElem?_eq_none h'] at h1
      have hjk : j ≠ kk := fun hjk => by
        subst hjk
        obtain ⟨e, he, hb, hon⟩ := hw oj hoj
        exact hnot e he hb hon
      have h2 := wpOp_putIf hoj (hfree j oj hoj hji hjun hnot) (fun cs b => hsel i oi cs b hi) (fun cs b => hsel j oj cs b hoj) hQ hy h1
      have hfree' : ∀ k ok, ops[k]? = some ok → k ≠ i → (listed.setIfInBounds j true).getD k true = false →
          (∀ e ∈ ok.after, Region.binds md e = true → e.on ≠ i) → oi.apart ops ok = true := fun k ok hk hki hun hno => by
        refine hfree k ok hk hki ?_ hno
        by_cases hjk : j = k
        · subst hjk; exact hjun
        · rw [getD_set_ne true hjk] at hun; exact hun
      refine wpOp_mono (fun a' w' h3 => ?_) h2
      obtain ⟨h3y, h3S, h3k⟩ := h3
      have h3S2 : S ((listed.setIfInBounds j true).setIfInBounds i true) w' := by rw [Array.setIfInBounds_comm _ _ hji]; exact h3S
      have h3S' : S (listed.setIfInBounds j true) w' := hSi _ _ h3S2
      refine ⟨h3S', ih (listed.setIfInBounds j true) a' w' hfree' (ready_mono hr (Ne.symm hji)) (by rw [getD_set_ne false hjk]; exact hk) h3y h3S' h3S2 ?_⟩
      rw [Array.setIfInBounds_comm _ _ hji]
      exact h3k
theorem wpS_done {S : Array Bool → World → Prop} {listed : Array Bool} {a : Act} {w : World} (hr : Region.ready md ops listed = []) (h : Q .normal a w) : ∀ fuel, wpS P md ops Q S fuel listed a w
  | 0 => ⟨hr, h⟩
  | _ + 1 => ⟨fun _ => h, by rw [hr]; simp⟩
end

/-- what is held of a heap till an operation has come up -/
abbrev Held := List (Nat × (Hp → Prop))
def HS (H : Held) (l : Array Bool) (h : Hp) : Prop := ∀ p ∈ H, l.getD p.1 false = false → p.2 h
def HSW (H : Held) (l : Array Bool) (w : World) : Prop := HS H l w.heap

def wpA (P : Program) (n : Nat) (ops : Array Oper) (H : Held) (fuel : Nat) (listed : Array Bool) (Q : Post) (ρ : Env) (h : Hp) : Prop :=
  ∀ w a, w.heap = h → HS H listed h → Rep n a ρ → wpS P .any ops (up n w Q) (HSW H) fuel listed a w

section
variable {P : Program} {n : Nat} {Q : Post} {ρ : Env} {h : Hp} {ops : Array Oper} {H : Held} {listed : Array Bool} {fuel : Nat}

theorem wpE_draw {id m : Nat} (hm : P.follows .mixedOrders = true) (hs : ops.size = m) (hk : wpA P n ops [] m (Array.replicate m false) Q ρ h) : wpE P n (.region id ops true) Q ρ h := by
  intro w a hw ha
  refine wp_region_any hm ?_
  rw [hs]
  refine wpAny_of_S (S := HSW []) _ _ _ _ ?_
  have h1 := hk { w with drawn := w.drawn + 1 } a hw (fun p hp => by cases hp) ha
  have e : up n { w with drawn := w.drawn + 1 } Q = up n w Q := by
    funext e a w'
    apply propext
    constructor
    · rintro ⟨⟨s1, s2, s3, s4⟩, r⟩; exact ⟨⟨s1, s2, s3, s4⟩, r⟩
    · rintro ⟨⟨s1, s2, s3, s4⟩, r⟩; exact ⟨⟨s1, s2, s3, s4⟩, r⟩
  rw [e] at h1
  exact h1

theorem wpA_done (hr : Region.ready .any ops listed = []) (hq : Q .normal ρ h) : wpA P n ops H fuel listed Q ρ h :=
  fun w _ hw _ ha => wpS_done hr ⟨.refl w, ρ, ha, hw ▸ hq⟩ fuel

/-- is an operation wanted? -/
def Wt (ops : Array Oper) (ρ : Env) (o : Oper) (b : Bool) : Prop := ∀ n a, Rep n a ρ → Region.wanted o (yielded ops a.tmps) = b
theorem wt_none {o : Oper} (hg : o.guard = none) : Wt ops ρ o true := fun _ _ _ => wanted_none hg
theorem wt_bool {o og : Oper} {g t : Nat} {b want r : Bool} (hg : o.guard = some (g, want)) (hog : ops[g]? = some og) (ht : og.dst = some t) (hv : ρ t = .bool b) (hb : (b == want) = r) : Wt ops ρ o r := fun _ _ ha => by
  unfold Region.wanted; rw [hg]; simp only [yielded_of ha hog ht hv]; simpa using hb
theorem wt_undef {o og : Oper} {g t : Nat} {want : Bool} (hg : o.guard = some (g, want)) (hog : ops[g]? = some og) (ht : og.dst = some t) (hv : ρ t = undef) : Wt ops ρ o false := fun n a ha => by
  have h2 := ha.get t
  rw [hv] at h2
  have hy : yielded ops a.tmps g = none := by
    unfold yielded
    rw [hog, Option.bind_some, ht, Option.bind_some]
    rw [Array.getD_eq_getD_getElem?] at h2
    cases hx : a.tmps[t]? with
    | none => rfl
    | some x => rw [hx] at h2; simp only [Option.getD_some] at h2; rw [h2]; rfl
  unfold Region.wanted; rw [hg]; simp only [hy]; rfl

def Region.waits (ops : Array Oper) (k i : Nat) : Bool := match ops[k]? with
  | some o => o.after.any fun e => Region.binds .any e && e.on == i
  | none => true
theorem waits_spec {k i : Nat} (h : Region.waits ops k i = true) : ∀ o, ops[k]? = some o → ∃ e ∈ o.after, Region.binds .any e = true ∧ e.on = i := by
  intro o ho
  unfold Region.waits at h
  rw [ho] at h
  obtain ⟨e, he, hb⟩ := Array.any_eq_true'.1 h
  simp only [Bool.and_eq_true, beq_iff_eq] at hb
  exact ⟨e, he, hb.1, hb.2⟩
def noLook (H : Held) (i : Nat) : Bool := H.all fun p => !(Nat.beq p.1 i)
theorem HS_set {i : Nat} (hn : noLook H i = true) {l : Array Bool} {h : Hp} : HS H (l.setIfInBounds i true) h ↔ HS H l h := by
  have : ∀ p ∈ H, i ≠ p.1 := fun p hp e => by
    have := List.all_eq_true.1 hn p hp
    subst e; simp at this
  constructor
  · intro hs p hp hl; exact hs p hp (by rw [getD_set_ne false (this p hp)]; exact hl)
  · intro hs p hp hl; exact hs p hp (by rw [getD_set_ne false (this p hp)] at hl; exact hl)

/-- the statics of a take -/
def canTake (ops : Array Oper) (listed : Array Bool) (i kk : Nat) : Bool :=
  Region.noSelect ops && Region.free .any ops listed i && (Region.ready .any ops listed).contains i && Region.waits ops kk i && !(listed.getD kk false)

theorem wpA_take {i kk d : Nat} {o : Oper} {v : Value} (p : Hp → Prop) (hi : ops[i]? = some o) (hd : o.dst = some d) (hn : Nat.blt d n = true) (hs : canTake ops listed i kk = true) (hl : noLook ((kk, p) :: H) i = true)
    (hw : Wt ops ρ o true) (hQ : ∀ c ρ ρ' h, Q (.panic c) ρ h → Q (.panic c) ρ' h) (hp : p h) (hy : ∀ h', p h' → Yl P ρ o h' v) (hk : wpA P n ops ((kk, p) :: H) fuel (listed.setIfInBounds i true) Q (ρ.upd d v) h) : wpA P n ops H (fuel + 1) listed Q ρ h := by
  intro w a hwh hS ha
  simp only [canTake, Bool.and_eq_true, Bool.not_eq_true'] at hs
  obtain ⟨⟨⟨⟨h1, h2⟩, h3⟩, h4⟩, h5⟩ := hs
  have hS2 : HS ((kk, p) :: H) listed h := fun q hq hl => by
    rcases List.mem_cons.1 hq with rfl | hq
    · exact hp
    · exact hS q hq hl
  refine wpS_mono (S := HSW ((kk, p) :: H)) (fun l w hs q hq => hs q (List.mem_cons_of_mem _ hq)) _ _ _ _ ?_
  refine wpS_first (v := v) kk hi (Region.noSelect_spec h1) ?_ (waits_spec h4) (fun l w hs => (HS_set hl).1 hs) fuel listed a w (Region.free_spec hi h2) (by simpa using h3) h5 ?_ ?_ ?_ ?_
  · rintro c a w ⟨s, ρ', hr, hq⟩
    refine ⟨s, fun t => a.tmps.getD t undef, ⟨by have := hr.defers; rw [hd] at this; exact this, ?_, fun _ => rfl⟩, ?_⟩
    · have := hr.size; rw [hd] at this; simpa [Act.put] using this
    · exact hQ _ _ _ _ hq
  · refine .inl ⟨hw n a ha, fun w' ⟨l, hlk, hs⟩ => ?_⟩
    rw [ha.ev]
    exact hy w'.heap (hs (kk, p) (by simp) hlk) w' rfl
  · show HS _ _ _; rw [hwh]; exact hS2
  · show HS _ _ _; rw [hwh]; exact (HS_set hl).2 hS2
  · rw [hd]
    exact hk w _ hwh ((HS_set hl).2 hS2) (ha.put v (by simpa [Nat.blt_eq] using hn))
theorem wpA_pass {i d : Nat} {o : Oper} (hi : ops[i]? = some o) (hd : o.dst = some d) (hn : Nat.blt d n = true) (hs : canTake ops listed i ops.size = true) (hl : noLook H i = true)
    (hw : Wt ops ρ o false) (hQ : ∀ c ρ ρ' h, Q (.panic c) ρ h → Q (.panic c) ρ' h) (hk : wpA P n ops H fuel (listed.setIfInBounds i true) Q (ρ.upd d undef) h) : wpA P n ops H (fuel + 1) listed Q ρ h := by
  intro w a hwh hS ha
  simp only [canTake, Bool.and_eq_true, Bool.not_eq_true'] at hs
  obtain ⟨⟨⟨⟨h1, h2⟩, h3⟩, h4⟩, h5⟩ := hs
  refine wpS_first (v := undef) ops.size hi (Region.noSelect_spec h1) ?_ (waits_spec h4) (fun l w hs => (HS_set hl).1 hs) fuel listed a w (Region.free_spec hi h2) (by simpa using h3) h5 ?_ ?_ ?_ ?_
  · rintro c a w ⟨s, ρ', hr, hq⟩
    refine ⟨s, fun t => a.tmps.getD t undef, ⟨by have := hr.defers; rw [hd] at this; exact this, ?_, fun _ => rfl⟩, ?_⟩
    · have := hr.size; rw [hd] at this; simpa [Act.put] using this
    · exact hQ _ _ _ _ hq
  · exact .inr ⟨hw n a ha, rfl⟩
  · show HS _ _ _; rw [hwh]; exact hS
  · show HS _ _ _; rw [hwh]; exact (HS_set hl).2 hS
  · rw [hd]
    exact hk w _ hwh ((HS_set hl).2 hS) (ha.put undef (by simpa [Nat.blt_eq] using hn))

theorem oper_imp {o : Oper} {a : Act} {w : World} {K K' : Act → World → Prop} {R R' : Exit → Act → World → Prop} (hK : ∀ a w, K a w → K' a w) (hR : ∀ e a w, R e a w → R' e a w) (h : o.wp P a w K R) : o.wp P a w K' R' := by
  unfold Oper.wp at *
  generalize (execOp a.eval o).run P w = r at *
  cases r with
  | ok x w' =>
    cases x <;> simp only [Oper.upon] at h ⊢ <;> first
      | exact hK _ _ h
      | (refine Calls.mono h fun e w'' he => ?_; cases e <;> first | exact hK _ _ he | exact hR _ _ _ he | (obtain ⟨a0, w0, h2⟩ := he; exact ⟨a0, w0, hR _ _ _ h2⟩))
      | exact Rows.mono h fun _ _ he => hK _ _ he
  | halt x w' => cases x <;> simp only [Oper.upon] at h ⊢ <;> first | exact hR _ _ _ h | exact h
theorem wpList_imp {R R' : Exit → Act → World → Prop} (hR : ∀ e a w, R e a w → R' e a w) : ∀ (l : List Oper) (a : Act) (w : World), wpList P ops R l a w → wpList P ops R' l a w
  | [], _, _, h => hR _ _ _ h
  | o :: l, a, w, h => by
    simp only [wpList] at h ⊢
    split
    · rename_i hw
      simp only [hw, if_true] at h
      exact h.imp (oper_imp (fun a w => wpList_imp hR l a w) hR) fun ⟨h1, a0, w0, h2⟩ => ⟨h1, a0, w0, hR _ _ _ h2⟩
    · rename_i hw
      simp only [hw] at h
      exact wpList_imp hR l _ _ h
theorem wpOp_imp {i : Nat} {a : Act} {w : World} {K K' : Act → World → Prop} {R R' : Exit → Act → World → Prop} (hK : ∀ a w, K a w → K' a w) (hR : ∀ e a w, R e a w → R' e a w) (h : wpOp P ops R i K a w) : wpOp P ops R' i K' a w := by
  unfold wpOp at *
  split
  · exact hK _ _ (by simpa [*] using h)
  · rename_i o ho
    simp only [ho] at h
    split
    · rename_i hw; simp only [hw, if_true] at h; exact h.imp (oper_imp hK hR) fun ⟨h1, a0, w0, h2⟩ => ⟨h1, a0, w0, hR _ _ _ h2⟩
    · rename_i hw; simp only [hw] at h; exact hK _ _ h
theorem wpS_imp {R R' : Exit → Act → World → Prop} {S : Array Bool → World → Prop} {md : Region.Mode} (hR : ∀ e a w, R e a w → R' e a w) : ∀ (fuel : Nat) (listed : Array Bool) (a : Act) (w : World), wpS P md ops R S fuel listed a w → wpS P md ops R' S fuel listed a w
  | 0, _, _, _, h => ⟨h.1, hR _ _ _ h.2⟩
  | fuel + 1, _, _, _, h => ⟨fun h0 => hR _ _ _ (h.1 h0), fun i hi => wpOp_imp (fun a' w' h' => ⟨h'.1, wpS_imp hR fuel _ a' w' h'.2⟩) hR (h.2 i hi)⟩
theorem wpOp_list {w : World} {a : Act} {i : Nat} {o : Oper} {R : Exit → Act → World → Prop} {K : Act → World → Prop} (hi : ops[i]? = some o) (h : wpList P ops (Exit.then K R) [o] a w) : wpOp P ops R i K a w := by
  unfold wpOp
  rw [hi]
  simp only
  simp only [wpList] at h
  split
  · rename_i hw
    simp only [hw, if_true] at h
    rcases h with h | ⟨h1, a0, w0, h2⟩
    · refine .inl ?_
      unfold Oper.wp at *
      generalize (execOp a.eval o).run P w = r at *
      cases r with
      | ok x w' =>
        cases x <;> simp only [Oper.upon] at h ⊢ <;> first
          | exact h
          | (refine Calls.mono h fun e w'' he => ?_; cases e <;> first | exact he | (obtain ⟨a0, w0, h2⟩ := he; exact ⟨a0, w0, h2⟩))
          | exact Rows.mono h fun _ _ he => he
      | halt x w' => cases x <;> simp only [Oper.upon] at h ⊢ <;> exact h
    · exact .inr ⟨h1, a0, w0, h2⟩
  · rename_i hw
    simp only [hw] at h
    exact h

/-- one of the operations that may come up is carried out; behind it what is held holds -/
def Step (P : Program) (n : Nat) (ops : Array Oper) (H : Held) (fuel : Nat) (listed : Array Bool) (Q : Post) (ρ : Env) (h : Hp) (i : Nat) : Prop :=
  ∃ o, ops[i]? = some o ∧ wpL P n ops [o] (Seq (fun ρ' h' => HS H (listed.setIfInBounds i true) h' ∧ wpA P n ops H fuel (listed.setIfInBounds i true) Q ρ' h') Q) ρ h
theorem wpA_loud {rs : List Nat} (hr : Region.ready .any ops listed = rs) (hne : rs.isEmpty = false) (hk : ∀ i ∈ rs, Step P n ops H fuel listed Q ρ h i) : wpA P n ops H (fuel + 1) listed Q ρ h := by
  intro w a hwh hS ha
  refine ⟨fun h0 => ?_, fun i hi => ?_⟩
  · rw [hr] at h0; subst h0; cases hne
  · rw [hr] at hi
    obtain ⟨o, ho, hl⟩ := hk i hi
    have h1 := hl w a hwh ha
    refine wpOp_list ho (wpList_imp ?_ _ _ _ h1)
    rintro e a' w' ⟨s, ρ', hr', hq⟩
    cases e with
    | normal =>
      obtain ⟨q1, q2⟩ := hq
      exact ⟨q1, wpS_imp (fun _ _ _ k => up_trans s k) _ _ _ _ (q2 w' a' rfl q1 hr')⟩
    | _ => exact ⟨s, ρ', hr', hq⟩
theorem hs_nil {l : Array Bool} : HS [] l h := fun _ hp => by cases hp
theorem hs_dead {k : Nat} {p : Hp → Prop} {l : Array Bool} (hl : l.getD k false = true) (hr : HS H l h) : HS ((k, p) :: H) l h := fun q hq hf => by
  rcases List.mem_cons.1 hq with rfl | hq
  · rw [hl] at hf; cases hf
  · exact hr q hq hf
theorem hs_live {k : Nat} {p : Hp → Prop} {l : Array Bool} (hp : p h) (hr : HS H l h) : HS ((k, p) :: H) l h := fun q hq hf => by
  rcases List.mem_cons.1 hq with rfl | hq
  · exact hp
  · exact hr q hq hf
theorem step_of {i : Nat} {o : Oper} (ho : ops[i]? = some o) (hl : wpL P n ops [o] (Seq (fun ρ' h' => HS H (listed.setIfInBounds i true) h' ∧ wpA P n ops H fuel (listed.setIfInBounds i true) Q ρ' h') Q) ρ h) : Step P n ops H fuel listed Q ρ h i := ⟨o, ho, hl⟩
end
/-! ### what is held, behind new blocks -/
theorem cell_push {h : Hp} {a : Addr} {v : Value} {o : Obj} (hc : Hp.cell? h a = some v) : Hp.cell? (h.push o) a = some v := by
  unfold Hp.cell? at *
  have hlt : a.block < h.size := by
    rcases Nat.lt_or_ge a.block h.size with h1 | h1
    · exact h1
    · rw [Array.getElem?_eq_none h1] at hc; cases hc
  rw [Array.getElem?_push_lt hlt, ← Array.getElem?_eq_getElem hlt]; exact hc
theorem row_push {h : Hp} {a : Addr} {cs : List Value} {o : Obj} (hc : Row h a cs) : Row (h.push o) a cs := fun i v hi => cell_push (hc i v hi)
end Lf
end Go
namespace Go
namespace Lf
section
variable {P : Program} {n : Nat} {Q : Post} {ρ : Env} {h : Hp} {ops : Array Oper} {H : Held} {listed : Array Bool} {fuel : Nat}
theorem wpA_pure {i d : Nat} {o : Oper} {v : Value} (hi : ops[i]? = some o) (hd : o.dst = some d) (hn : Nat.blt d n = true) (hs : canTake ops listed i ops.size = true) (hl : noLook H i = true)
    (hw : Wt ops ρ o true) (hQ : ∀ c ρ ρ' h, Q (.panic c) ρ h → Q (.panic c) ρ' h) (hy : ∀ h', Yl P ρ o h' v) (hk : wpA P n ops H fuel (listed.setIfInBounds i true) Q (ρ.upd d v) h) : wpA P n ops H (fuel + 1) listed Q ρ h := by
  intro w a hwh hS ha
  simp only [canTake, Bool.and_eq_true, Bool.not_eq_true'] at hs
  obtain ⟨⟨⟨⟨h1, h2⟩, h3⟩, h4⟩, h5⟩ := hs
  refine wpS_first (v := v) ops.size hi (Region.noSelect_spec h1) ?_ (waits_spec h4) (fun l w hs => (HS_set hl).1 hs) fuel listed a w (Region.free_spec hi h2) (by simpa using h3) h5 ?_ ?_ ?_ ?_
  · rintro c a w ⟨s, ρ', hr, hq⟩
    refine ⟨s, fun t => a.tmps.getD t undef, ⟨by have := hr.defers; rw [hd] at this; exact this, ?_, fun _ => rfl⟩, ?_⟩
    · have := hr.size; rw [hd] at this; simpa [Act.put] using this
    · exact hQ _ _ _ _ hq
  · refine .inl ⟨hw n a ha, fun w' _ => ?_⟩
    rw [ha.ev]
    exact hy w'.heap w' rfl
  · show HS _ _ _; rw [hwh]; exact hS
  · show HS _ _ _; rw [hwh]; exact (HS_set hl).2 hS
  · rw [hd]
    exact hk w _ hwh ((HS_set hl).2 hS) (ha.put v (by simpa [Nat.blt_eq] using hn))
theorem mcons {α : Type} {p : α → Prop} {a : α} {l : List α} (h : p a) (hl : ∀ i ∈ l, p i) : ∀ i ∈ a :: l, p i := fun i hi => by
  rcases List.mem_cons.1 hi with rfl | hi
  · exact h
  · exact hl i hi
theorem mnil {α : Type} {p : α → Prop} : ∀ i ∈ ([] : List α), p i := fun _ hi => by cases hi
def Keep (p k : Prop) : Prop := p ∧ k

/-! ### ways that meet again -/
theorem wpE_seqJ {x y : Code} {τ : Type} (K : τ → Hp → Prop) (F : τ → Env → Prop) (hB : ∀ ρ x h, F x ρ → K x h → wpE P n y Q ρ h)
    (hA : wpE P n x (Seq (fun ρ h => ∃ x, F x ρ ∧ K x h) Q) ρ h) : wpE P n (.seq x y) Q ρ h :=
  wpE_seq (wpE_mono hA fun e ρ h hq => by
    cases e with
    | normal => obtain ⟨x, hf, hk⟩ := hq; exact hB ρ x h hf hk
    | _ => exact hq)
theorem wpL_split {l : List Oper} {b : Bool} {A B : Prop} (hf : If b A B) (hA : b = true → A → wpL P n ops l Q ρ h) (hB : b = false → B → wpL P n ops l Q ρ h) : wpL P n ops l Q ρ h := by
  cases b
  · exact hB rfl (hf.2 rfl)
  · exact hA rfl (hf.1 rfl)
theorem wpA_split {b : Bool} {A B : Prop} (hf : If b A B) (hA : b = true → A → wpA P n ops H fuel listed Q ρ h) (hB : b = false → B → wpA P n ops H fuel listed Q ρ h) : wpA P n ops H fuel listed Q ρ h := by
  cases b
  · exact hB rfl (hf.2 rfl)
  · exact hA rfl (hf.1 rfl)
theorem g_tt {b : Bool} (h : b = true) : (b == true) = true := by rw [h]; rfl
theorem g_ff {b : Bool} (h : b = false) : (b == false) = true := by rw [h]; rfl
theorem g_tf {b : Bool} (h : b = true) : (b == false) = false := by rw [h]; rfl
theorem g_ft {b : Bool} (h : b = false) : (b == true) = false := by rw [h]; rfl
theorem vbool {v : Value} {b c : Bool} (h : v = .bool b) (e : b = c) : v = .bool c := by rw [h, e]

/-! ### results, cells among them -/
def ResL (P : Program) (ρ : Env) (h : Hp) (rl : List ResultVar) (vs : List Value) : Prop := ∀ w, w.heap = h → (rl.mapM (resE ρ)).run P w = .ok vs w
theorem rs_nil : ResL P ρ h [] [] := fun _ _ => rfl
theorem rs_tmp {t : Nat} {v : Value} {rl : List ResultVar} {vs : List Value} (hv : ρ t = v) (hr : ResL P ρ h rl vs) : ResL P ρ h (.tmp t :: rl) (v :: vs) := fun w hw => by
  rw [List.mapM_cons]
  simp only [resE, pure_bind, hv]
  rw [run_ok_bind (hr w hw)]; rfl
theorem rs_cella {t m : Nat} {T : TypeId} {a : Addr} {cs : List Value} {rl : List ResultVar} {vs : List Value} (ht : TyS P T m true) (hl : cs.length = m) (hv : ρ t = .pointer (some a)) (hc : Row h a cs) (hr : ResL P ρ h rl vs) : ResL P ρ h (.cell t T :: rl) (.agg cs.toArray :: vs) := fun w hw => by
  rw [List.mapM_cons]
  have : (loadVar T a).run P w = .ok (.agg cs.toArray) w := by
    unfold loadVar
    rw [run_ok_bind (ht.agg w)]
    simp only [if_true]
    rw [run_ok_bind (ht.size w), ← hl, run_ok_bind (run_loadCells (hw ▸ hc))]
    rfl
  simp only [resE, hv, asAddr, pure_bind]
  rw [run_ok_bind this, run_ok_bind (hr w hw)]; rfl
theorem rs_cell {t m : Nat} {T : TypeId} {a : Addr} {v : Value} {rl : List ResultVar} {vs : List Value} (ht : TyS P T m false) (hv : ρ t = .pointer (some a)) (hc : Hp.cell? h a = some v) (hr : ResL P ρ h rl vs) : ResL P ρ h (.cell t T :: rl) (v :: vs) := fun w hw => by
  rw [List.mapM_cons]
  have : (loadVar T a).run P w = .ok v w := by
    unfold loadVar
    rw [run_ok_bind (ht.agg w)]
    simp only [Bool.false_eq_true, if_false]
    exact run_load (hw ▸ hc)
  simp only [resE, hv, asAddr, pure_bind]
  rw [run_ok_bind this, run_ok_bind (hr w hw)]; rfl
theorem run_resL {fn : Func} {rl : List ResultVar} {vs : List Value} (hres : fn.results = rl.toArray) (hr : ResL P ρ h rl vs) {w : World} (hw : w.heap = h) : (resV fn ρ).run P w = .ok (tupV vs) w := by
  unfold resV
  rw [hres, List.mapM_toArray]
  simp only [map_eq_pure_bind, bind_assoc]
  rw [run_ok_bind (hr w hw)]
  match vs with
  | [] => rfl
  | [t] => rfl
  | t :: u :: l => simp [tupV, Sem.run, Pure.pure]
theorem body_r {fn : Func} {α : Type} {enc : α → Value} {K : α → Hp → Prop} (r : α) {rl : List ResultVar} {vs : List Value} (hres : fn.results = rl.toArray) (hr : ResL P ρ h rl vs) (he : tupV vs = enc r) (hk : K r h) : Body P fn (Rt enc K) .ret ρ h :=
  ⟨enc r, fun _ hw => by rw [run_resL hres hr hw, he], r, rfl, hk⟩
theorem body_n {fn : Func} {α : Type} {enc : α → Value} {K : α → Hp → Prop} (r : α) {rl : List ResultVar} {vs : List Value} (hres : fn.results = rl.toArray) (hr : ResL P ρ h rl vs) (he : tupV vs = enc r) (hk : K r h) : Body P fn (Rt enc K) .normal ρ h := body_r r hres hr he hk
theorem body_rE {fn : Func} {α : Type} {enc : α → Value} {K : α → Hp → Prop} {E : List PanicEntry → Hp → Prop} (r : α) {rl : List ResultVar} {vs : List Value} (hres : fn.results = rl.toArray) (hr : ResL P ρ h rl vs) (he : tupV vs = enc r) (hk : K r h) : Body P fn (RtE enc K E) .ret ρ h :=
  ⟨enc r, fun _ hw => by rw [run_resL hres hr hw, he], r, rfl, hk⟩
theorem body_nE {fn : Func} {α : Type} {enc : α → Value} {K : α → Hp → Prop} {E : List PanicEntry → Hp → Prop} (r : α) {rl : List ResultVar} {vs : List Value} (hres : fn.results = rl.toArray) (hr : ResL P ρ h rl vs) (he : tupV vs = enc r) (hk : K r h) : Body P fn (RtE enc K E) .normal ρ h := body_rE r hres hr he hk

/-! ### calls that may panic; calls of function values -/
variable {rest : List Oper} {d : Nat} {ty : TypeId} {pos : String} {af : Array Edge}
theorem wpL_callE {α : Type} {enc : α → Value} {K : α → Hp → Prop} {E : List PanicEntry → Hp → Prop} {f : FuncId} {as : List Operand} {vs : List Value} {tys : Array TypeId} (hc : Callable P f) (hvs : as.map ρ.ev = vs) (hf : CallsH P f vs.toArray h (RtE enc K E)) (hn : Nat.blt d n = true)
    (hE : ∀ c h', E c h' → Q (.panic c) ρ h') (hk : ∀ r h', K r h' → wpL P n ops rest Q (ρ.upd d (enc r)) h') : wpL P n ops (⟨some d, .call ⟨.value (.func f), as.toArray, tys⟩, ty, pos, af, none⟩ :: rest) Q ρ h :=
  wpL_enter rfl rfl hn (fun w _ => run_call hc hvs w) hf fun e h' he => by
    cases e with
    | returned v => obtain ⟨r, rfl, hr⟩ := he; exact hk r h' hr
    | panicked c => exact hE c h' he
    | outgrown => exact he.elim
theorem wpL_callE0 {α : Type} {enc : α → Value} {K : α → Hp → Prop} {E : List PanicEntry → Hp → Prop} {f : FuncId} {as : List Operand} {vs : List Value} {tys : Array TypeId} (hc : Callable P f) (hvs : as.map ρ.ev = vs) (hf : CallsH P f vs.toArray h (RtE enc K E))
    (hE : ∀ c h', E c h' → Q (.panic c) ρ h') (hk : ∀ r h', K r h' → wpL P n ops rest Q ρ h') : wpL P n ops (⟨none, .call ⟨.value (.func f), as.toArray, tys⟩, ty, pos, af, none⟩ :: rest) Q ρ h :=
  wpL_enter0 rfl rfl (fun w _ => run_call hc hvs w) hf fun e h' he => by
    cases e with
    | returned v => obtain ⟨r, rfl, hr⟩ := he; exact hk r h' hr
    | panicked c => exact hE c h' he
    | outgrown => exact he.elim
/-- a call of a function value -/
def CallsV (P : Program) (gv : Value) (args : List Value) (h : Hp) (R : Ending → Hp → Prop) : Prop :=
  ∃ (f : FuncId) (first cap : List Value), gv = .func (.func f) first.toArray cap.toArray ∧ Callable P f ∧ CallsH P f (first ++ args ++ cap).toArray h R
theorem run_callv {gv : Value} {x : Operand} {as : List Operand} {vs : List Value} {tys : Array TypeId} {dd : Option Nat} {f : FuncId} {first cap : List Value} (hx : ρ.ev x = gv) (hg : gv = .func (.func f) first.toArray cap.toArray) (hc : Callable P f) (hvs : as.map ρ.ev = vs) (w : World) :
    (execOp ρ.ev ⟨dd, .call ⟨.value x, as.toArray, tys⟩, ty, pos, af, none⟩).run P w = .ok (.enter f (first ++ vs ++ cap).toArray) w := by
  simp only [execOp, resolve, hx, hg, Deferred.ofValue, pure_bind, List.map_toArray, hvs, invoke]
  have e : (first.toArray ++ vs.toArray ++ cap.toArray) = (first ++ vs ++ cap).toArray := by simp
  rw [e]
  exact run_callFunc hc w
theorem wpL_callv {α : Type} {enc : α → Value} {K : α → Hp → Prop} {gv : Value} {x : Operand} {as : List Operand} {vs : List Value} {tys : Array TypeId} (hx : ρ.ev x = gv) (hvs : as.map ρ.ev = vs) (hf : CallsV P gv vs h (Rt enc K)) (hn : Nat.blt d n = true)
    (hk : ∀ r h', K r h' → wpL P n ops rest Q (ρ.upd d (enc r)) h') : wpL P n ops (⟨some d, .call ⟨.value x, as.toArray, tys⟩, ty, pos, af, none⟩ :: rest) Q ρ h := by
  obtain ⟨f, first, cap, hg, hc, hf⟩ := hf
  exact wpL_enter rfl rfl hn (fun w _ => run_callv hx hg hc hvs w) hf fun e h' ⟨r, he, hr⟩ => by subst he; exact hk r h' hr
end
end Lf
end Go
namespace Go
namespace Lf
def Rec (p : Nat → Prop) : Prop := ∃ k, p k
def TyI (P : Program) (e : TypeId) (b : Nat) : Prop := ∃ i, P.info? e = some i ∧ i.bytes = b
theorem tyI {P : Program} {e : TypeId} {b : Nat} (h : (P.info? e).map (·.bytes) = some b) : TyI P e b := by
  obtain ⟨i, h1, h2⟩ := Option.map_eq_some_iff.1 h
  exact ⟨i, h1, h2⟩
/-- how a struct is laid out of parts -/
def BL (P : Program) (t : TypeId) (zs : List Value) (pl : List (Nat × Nat)) : Prop := ∃ z fs, TyZ P t z ∧ z.cells = zs.toArray ∧ P.underlying t = some (.struct fs.toArray) ∧ Places P fs pl
def IxA (n : Nat) (a : Addr) (i : Int) (sz : Nat) (k : Addr → Prop) : Prop := 0 ≤ i ∧ i < (n : Int) ∧ k (a.add (i.toNat * sz))
/-- bytes of a constant: the array is marked at its end -/
def Fz (h : Hp) (s : Sl) (k : Hp → Prop) : Prop := ∃ b cs T, s.a = some ⟨b, 0, none⟩ ∧ h[b]? = some (.cells cs T (0, 0)) ∧ k (h.modify b fun _ => .cells cs T (cs.size, cs.size + 1))
def AppZ (h : Hp) (s : Sl) (n : Int) (zs : List Value) (by' : Nat) (k : Sl → Hp → Prop) : Prop := 0 ≤ n ∧ n * by' ≤ 2 ^ 48 ∧ n < 2 ^ 63 ∧ App h s (zrep zs n.toNat) n.toNat zs.length by' k

section
variable {P : Program} {n : Nat} {Q : Post} {ρ : Env} {h : Hp} {ops : Array Oper} {rest : List Oper} {d : Nat} {dd : Option Nat} {g : Option (Nat × Bool)} {ty : TypeId} {pos : String} {af : Array Edge} {t : TypeId} {m : Nat} {x y : Operand} {a : Addr} {v : Value}

theorem ycast_p {o : Oper} {a a' : Addr} (hy : Yl P ρ o h (.pointer (some a))) (e : a = a') : Yl P ρ o h (.pointer (some a')) := e ▸ hy
theorem ycast_s {o : Oper} {a a' : Str} (hy : Yl P ρ o h (vS a)) (e : a = a') : Yl P ρ o h (vS a') := e ▸ hy
theorem ycast_l {o : Oper} {a a' : Sl} (hy : Yl P ρ o h a.enc) (e : a = a') : Yl P ρ o h a'.enc := e ▸ hy
theorem y_bl {zs cs : List Value} {pl : List (Nat × Nat)} {ps : List (Nat × Operand)} {vs : List (Nat × Value)} (hb : BL P t zs pl)
    (hvs : (ps.map fun (i, x) => (i, ρ.ev x)) = vs) (hf : fillL (fun i => pl[i]?) zs vs = some cs) : Yl P ρ ⟨dd, .build t ps.toArray, ty, pos, af, g⟩ h (.agg cs.toArray) := by
  obtain ⟨z, fs, h1, h2, h3, h4⟩ := hb
  exact y_build h1 h2 h3 h4 hvs hf
theorem y_ixa {e : TypeId} {b : Bool} {i : Int} {k : IntKind} {len : Nat} (hu : P.underlying t = some (.array len e)) (ht : TyS P e m b) (hx : ρ.ev x = .pointer (some a)) (hy : ρ.ev y = .int k i) (h0 : 0 ≤ i) (h1 : i < (len : Int)) :
    Yl P ρ ⟨dd, .indexAddr t x y, ty, pos, af, g⟩ h (.pointer (some (a.add (i.toNat * m)))) := fun w _ => by
  simp only [execOp, hx, hy, Instr.indexAt, asIntOf, pure_bind]
  simp only [bind_assoc]
  rw [run_ok_bind (run_underlying hu w)]
  simp only [Instr.sureAddr, pure_bind, bind_assoc]
  rw [run_ok_bind (run_underlying hu w)]
  simp only [h0, h1, and_self, if_true, bind_assoc]
  rw [run_ok_bind (ht.size w)]; rfl
theorem y_sla {e : TypeId} {b : Bool} {len : Nat} (hu : P.underlying t = some (.array len e)) (ht : TyS P e m b) (hx : ρ.ev x = .pointer (some a)) :
    Yl P ρ ⟨dd, .slice t x none none none, ty, pos, af, g⟩ h (Sl.enc ⟨some a, len, len⟩) := fun w _ => by
  simp only [execOp, hx, Instr.sliceAt, bind_assoc]
  rw [run_ok_bind (run_underlying hu w)]
  simp only [Instr.sureAddr, pure_bind, Option.map_none, Instr.sliceBounds, bind_assoc]
  rw [run_ok_bind (ht.size w)]
  by_cases h0 : len = 0
  · subst h0; rfl
  · simp only [h0, if_false, Nat.zero_mul, Nat.sub_zero]; rfl
theorem run_eq_sl {T : TypeId} {e : TypeId} (hu : P.underlying T = some (.slice e)) (s : Sl) (w : World) : (Op.equal T s.enc (.slice none 0 0)).run P w = .ok s.a.isNone w := by
  unfold Op.equal Op.maxDepth Op.equalIn Sl.enc
  rw [run_ok_bind (run_underlying hu w)]
  obtain ⟨a, l, c⟩ := s
  cases a <;> rfl
theorem bin_sleql {T e : TypeId} (hu : P.underlying T = some (.slice e)) (s : Sl) : BinR P .eql T s.enc (.slice none 0 0) (.bool s.a.isNone) := fun w x y => by
  have := run_eq_sl hu s w
  simp only [eqGuard, Sl.enc] at this ⊢
  simp only [binOp]
  simp [this]
theorem bin_slneq {T e : TypeId} (hu : P.underlying T = some (.slice e)) (s : Sl) : BinR P .neq T s.enc (.slice none 0 0) (.bool !s.a.isNone) := fun w x y => by
  have := run_eq_sl hu s w
  simp only [eqGuard, Sl.enc] at this ⊢
  simp only [binOp]
  simp [this]
theorem wpL_fz {e : TypeId} {s : Sl} {K : Hp → Prop} (hu : P.underlying t = some (.slice e)) (he : P.underlying e = some (.int .u8)) (hx : ρ.ev x = s.enc) (hm : Fz h s K) (hn : Nat.blt d n = true)
    (hk : ∀ h', K h' → wpL P n ops rest Q (ρ.upd d s.enc) h') : wpL P n ops (⟨some d, .convert t t x, ty, pos, af, none⟩ :: rest) Q ρ h := by
  refine wpL_op rfl rfl hn fun w hw => ?_
  obtain ⟨b, cs, T, ha, hb, hK⟩ := hm
  subst hw
  refine ⟨s.enc, w.freeze ⟨b, cs.size, none⟩ 1, ?_, ?_, hk _ ?_⟩
  · simp only [execOp, convert, bind_assoc, hx, Sl.enc, ha]
    rw [run_ok_bind (run_underlying hu w), run_ok_bind (run_underlying hu w)]
    simp only [beq_self_eq_true, bind_assoc]
    rw [run_ok_bind (run_underlying he w)]
    simp only [markStringish, bind_assoc]
    have hsh : (shape b).run P w = .ok (some (T, cs.size)) w := by simp [shape, Sem.run, World.shape?, hb]
    rw [run_ok_bind hsh]
    simp only [freeze, Sem.run_bind, Sem.run]
    rfl
  · exact ⟨rfl, rfl, rfl, by simp [World.freeze]⟩
  · have : (w.freeze ⟨b, cs.size, none⟩ 1).heap = w.heap.modify b fun _ => .cells cs T (cs.size, cs.size + 1) := by
      simp only [World.freeze, Nat.one_ne_zero, if_false]
      apply Array.ext_getElem?
      intro i
      rw [Array.getElem?_modify, Array.getElem?_modify]
      by_cases e : b = i
      · subst e; simp [hb]
      · rw [if_neg e, if_neg e]
    rw [this]; exact hK
theorem wpL_appsI {t2 e e2 : TypeId} {b : Bool} {by' : Nat} {z : Value} {s src : Sl} {as : List Operand} {K : Sl → Hp → Prop} (hu : P.underlying t = some (.slice e)) (hu2 : P.underlying t2 = some (.slice e2)) (ht : TyS P e m b) (hi : TyI P e by') (hby : by' ≠ 0)
    (hz : TyZ P e z) (hzm : z.cells.size = m) (hvs : as.map ρ.ev = [s.enc, src.enc]) (hm : AppS h s src m by' K) (hn : Nat.blt d n = true)
    (hk : ∀ s' h', K s' h' → wpL P n ops rest Q (ρ.upd d s'.enc) h') : wpL P n ops (⟨some d, .call ⟨.builtin .append, as.toArray, #[t, t2]⟩, ty, pos, af, none⟩ :: rest) Q ρ h := by
  obtain ⟨i, hi, rfl⟩ := hi
  exact wpL_apps hu hu2 ht hi hby hz hzm hvs hm hn hk
theorem wpL_appbI {t2 e : TypeId} {b : Bool} {by' : Nat} {z : Value} {s : Sl} {src : Str} {as : List Operand} {K : Sl → Hp → Prop} (hu : P.underlying t = some (.slice e)) (hu2 : P.underlying t2 = some .string) (ht : TyS P e 1 b) (hi : TyI P e by') (hby : by' ≠ 0)
    (hz : TyZ P e z) (hzm : z.cells.size = 1) (hvs : as.map ρ.ev = [s.enc, vS src]) (hm : App h s (bcells src) src.length 1 by' K) (hn : Nat.blt d n = true)
    (hk : ∀ s' h', K s' h' → wpL P n ops rest Q (ρ.upd d s'.enc) h') : wpL P n ops (⟨some d, .call ⟨.builtin .append, as.toArray, #[t, t2]⟩, ty, pos, af, none⟩ :: rest) Q ρ h := by
  obtain ⟨i, hi, rfl⟩ := hi
  exact wpL_appb hu hu2 ht hi hby hz hzm hvs hm hn hk
theorem wpL_mkI {e : TypeId} {b : Bool} {by' : Nat} {z : Value} {zs : List Value} {l c : Int} {k k' : IntKind} {x y : Operand} {K : Sl → Hp → Prop} (hu : P.underlying t = some (.slice e)) (ht : TyS P e m b) (hi : TyI P e by') (hz : TyZ P e z) (hzs : z.cells = zs.toArray) (hzm : zs.length = m)
    (hx : ρ.ev x = .int k l) (hy : ρ.ev y = .int k' c) (hm : Mk h l c zs by' K) (hn : Nat.blt d n = true)
    (hk : ∀ s h', K s h' → wpL P n ops rest Q (ρ.upd d s.enc) h') : wpL P n ops (⟨some d, .makeSlice t x y, ty, pos, af, none⟩ :: rest) Q ρ h := by
  obtain ⟨i, hi, rfl⟩ := hi
  exact wpL_mk hu ht hi hz hzs hzm hx hy hm hn hk
end
end Lf
end Go
namespace Go
namespace Lf
section
variable {P : Program} {n : Nat} {Q : Post} {ρ : Env} {h : Hp} {ops : Array Oper} {rest : List Oper} {d : Nat} {ty : TypeId} {pos : String} {af : Array Edge} {t : TypeId} {m : Nat}
theorem zeroCells_zrep (zs : List Value) (c : Nat) : Builtin.zeroCells zs.toArray c = (zrep zs c).toArray := by
  apply Array.ext'
  simp [Builtin.zeroCells, zrep, Array.toList_range]
theorem zrep_nil (zs : List Value) (c : Nat) (h : c * zs.length = 0) : zrep zs c = [] := by simp [zrep, h]
theorem run_appendz {e t2 : TypeId} {b : Bool} {i : TypeInfo} {z : Value} {zs : List Value} {w : World} {s : Sl} {k kx : IntKind} {cnt : Int} {K : Sl → Hp → Prop}
    (hu : P.underlying t = some (.slice e)) (hu2 : P.underlying t2 = some (.int k)) (ht : TyS P e m b) (hi : P.info? e = some i) (hby : i.bytes ≠ 0) (hz : TyZ P e z) (hzs : z.cells = zs.toArray) (hzm : zs.length = m) (hone : zs.all one = true)
    (hm : AppZ w.heap s cnt zs i.bytes K) :
    ∃ s' w', (Builtin.append_ #[t, t2] ty #[s.enc, .int kx cnt]).run P w = .ok s'.enc w' ∧ Still w w' ∧ K s' w'.heap := by
  obtain ⟨h0, hb48, hc63, hroom, hgrow⟩ := hm
  have hinfo : ∀ w : World, (typeInfo e).run P w = .ok i w := fun w => by simp [typeInfo, program, Sem.run_bind, Sem.run, hi]
  have hwrap : IntKind.i64.wrap cnt = cnt := wrap_id (by omega) hc63
  have hn0 : ¬ cnt < 0 := by omega
  have hn48 : ¬ (cnt * (i.bytes : Int) > 2 ^ 48) := by omega
  have hz0 : z.cells.size = m := by rw [hzs, ← hzm]; simp
  have hone' : ∀ v ∈ zrep zs cnt.toNat, one v = true := by
    intro v hv
    simp only [zrep, List.mem_map, List.mem_range] at hv
    obtain ⟨j, hj, rfl⟩ := hv
    have hpos : 0 < zs.length := by
      rcases Nat.eq_zero_or_pos zs.length with h | h
      · rw [h] at hj; simp at hj
      · exact h
    have hjm : j % zs.length < zs.length := Nat.mod_lt _ hpos
    rw [getElem!_pos zs _ hjm]
    exact List.all_eq_true.1 hone _ (List.getElem_mem hjm)
  have happ : ∀ w : World, (if cnt.toNat * m = 0 then pure #[] else do pure (Builtin.zeroCells (← zeroValue e).cells cnt.toNat) : Sem (Array Value)).run P w = .ok (zrep zs cnt.toNat).toArray w := fun w => by
    by_cases h0 : cnt.toNat * m = 0
    · rw [if_pos h0, zrep_nil zs _ (by rw [hzm]; exact h0)]; rfl
    · rw [if_neg h0, run_ok_bind (hz w), hzs, zeroCells_zrep]; rfl
  by_cases hc : s.len + cnt.toNat ≤ s.cap
  · have hr := hroom hc
    cases ha : s.a with
    | none =>
      rw [ha] at hr
      refine ⟨⟨none, s.len + cnt.toNat, s.cap⟩, w, ?_, .refl w, hr⟩
      unfold Builtin.append_
      simp only [List.getElem?_toArray, List.getElem?_cons_zero, List.getElem?_cons_succ]
      rw [run_ok_bind (run_underlying hu w)]
      simp only [Sl.enc]
      rw [run_ok_bind (ht.size w), run_ok_bind (run_underlying hu2 w)]
      simp only [asInt, asIntOf, pure_bind, if_true, hwrap, hn0, if_false]
      rw [run_ok_bind (hinfo w)]
      simp only [hn48, if_false, hc, if_true, Bool.not_true, Bool.false_eq_true]
      have := happ w
      by_cases h00 : cnt.toNat * m = 0
      · simp only [h00, if_true, pure_bind, ha]; rfl
      · simp only [h00, if_false, bind_assoc]
        rw [run_ok_bind (hz w)]
        simp only [ha]; rfl
    | some a =>
      rw [ha] at hr
      obtain ⟨hf, hK⟩ := hr
      rw [hzm] at hf hK
      obtain ⟨w', h1, h2, h3⟩ := run_storeCells (P := P) (a := a.add (s.len * m)) (zrep zs cnt.toNat) 0 w hone' (fun j hj => by rw [Nat.zero_add]; exact hf j hj)
      refine ⟨⟨some a, s.len + cnt.toNat, s.cap⟩, w', ?_, h2, by rw [h3]; exact hK⟩
      unfold Builtin.append_
      simp only [List.getElem?_toArray, List.getElem?_cons_zero, List.getElem?_cons_succ]
      rw [run_ok_bind (run_underlying hu w)]
      simp only [Sl.enc]
      rw [run_ok_bind (ht.size w), run_ok_bind (run_underlying hu2 w)]
      simp only [asInt, asIntOf, pure_bind, if_true, hwrap, hn0, if_false]
      rw [run_ok_bind (hinfo w)]
      simp only [hn48, if_false, hc, if_true, Bool.not_true, Bool.false_eq_true]
      by_cases h00 : cnt.toNat * m = 0
      · have hzn := zrep_nil zs cnt.toNat (by rw [hzm]; exact h00)
        rw [hzn] at h1
        simp only [h00, if_true, pure_bind, ha]
        rw [run_ok_bind h1]; rfl
      · simp only [h00, if_false, bind_assoc]
        rw [run_ok_bind (hz w)]
        simp only [pure_bind, hzs, zeroCells_zrep, ha]
        rw [run_ok_bind h1]; rfl
  · obtain ⟨hb, h63, old, hold, hK⟩ := hgrow (by omega)
    rw [hzm] at hold hK
    let cap := (Question.appendCap (s.len + cnt.toNat) s.cap e).cut (w.tape w.drawn (.appendCap (s.len + cnt.toNat) s.cap e))
    have hcap : s.len + cnt.toNat ≤ cap := Nat.le_add_right _ _
    let rest' := (Builtin.zeroCells z.cells (cap - (s.len + cnt.toNat))).toList
    have hrl : rest'.length = (cap - (s.len + cnt.toNat)) * m := by rw [← hz0]; exact zeroCells_len _ _
    refine ⟨⟨some ⟨w.heap.size, 0, none⟩, s.len + cnt.toNat, cap⟩, World.alloc { w with drawn := w.drawn + 1 } (.cells (old ++ zrep zs cnt.toNat ++ rest').toArray e), ?_, ⟨rfl, rfl, rfl, by simp [World.alloc]⟩, hK e cap rest' hcap hrl⟩
    have hch : (choose (.appendCap (s.len + cnt.toNat) s.cap e)).run P w = .ok cap { w with drawn := w.drawn + 1 } := by simp [choose, Sem.run, Question.forced, cap]
    have hask : ∀ (x : Nat) (w : World), (askRoom x).run P w = .ok () w := fun x w => by unfold askRoom; split <;> rfl
    have hn1 : ¬ (((s.len + cnt.toNat : Nat) : Int) > IntKind.i64.max ∧ (True ∨ i.bytes = 0)) := fun hx => by
      have := hx.1
      simp [IntKind.max, IntKind.signed, IntKind.bits] at this
      omega
    have hn2 : ¬ (Builtin.nextslicecap (s.len + cnt.toNat) s.cap * i.bytes > 2 ^ 48) := by omega
    have hold' := run_firstCells (P := P) (w := { w with drawn := w.drawn + 1 }) (s := s) (k := m) (cnt := s.len) (cs := old) hold
    simp only [Sl.enc] at hold'
    unfold Builtin.append_
    simp only [List.getElem?_toArray, List.getElem?_cons_zero, List.getElem?_cons_succ]
    rw [run_ok_bind (run_underlying hu w)]
    simp only [Sl.enc]
    rw [run_ok_bind (ht.size w), run_ok_bind (run_underlying hu2 w)]
    simp only [asInt, asIntOf, pure_bind, if_true, hwrap, hn0, if_false]
    rw [run_ok_bind (hinfo w)]
    simp only [hn48, if_false, hc]
    rw [run_ok_bind (hinfo w)]
    simp only [hn1, if_false]
    rw [run_ok_bind (hinfo w)]
    simp only [hn2, if_false]
    rw [run_ok_bind hch, run_ok_bind (hinfo _), run_ok_bind (hask _ _), run_ok_bind hold']
    simp only [Bool.not_true, Bool.false_eq_true, if_false]
    have e1 : old.toArray ++ (zrep zs cnt.toNat).toArray ++ Builtin.zeroCells z.cells (cap - (s.len + cnt.toNat)) = (old ++ zrep zs cnt.toNat ++ rest').toArray := by
      apply Array.ext'; simp [rest']
    by_cases h00 : cnt.toNat * m = 0
    · have hzn := zrep_nil zs cnt.toNat (by rw [hzm]; exact h00)
      rw [hzn] at e1 ⊢
      simp only [h00, if_true, pure_bind]
      rw [run_ok_bind (hz _), run_ok_bind (run_newRow e _ _)]
      rw [e1]; rfl
    · simp only [h00, if_false, bind_assoc]
      rw [run_ok_bind (hz _)]
      simp only [pure_bind]
      rw [run_ok_bind (hz _), run_ok_bind (run_newRow e _ _)]
      have e2 : Builtin.zeroCells z.cells cnt.toNat = (zrep zs cnt.toNat).toArray := by rw [hzs, zeroCells_zrep]
      rw [e2, e1]; rfl
theorem wpL_appz {t2 e : TypeId} {b : Bool} {by' : Nat} {z : Value} {zs : List Value} {s : Sl} {k kx : IntKind} {cnt : Int} {as : List Operand} {K : Sl → Hp → Prop} (hu : P.underlying t = some (.slice e)) (hu2 : P.underlying t2 = some (.int k)) (ht : TyS P e m b) (hi : TyI P e by') (hby : by' ≠ 0)
    (hz : TyZ P e z) (hzs : z.cells = zs.toArray) (hzm : zs.length = m) (hone : zs.all one = true) (hvs : as.map ρ.ev = [s.enc, .int kx cnt]) (hm : AppZ h s cnt zs by' K) (hn : Nat.blt d n = true)
    (hk : ∀ s' h', K s' h' → wpL P n ops rest Q (ρ.upd d s'.enc) h') : wpL P n ops (⟨some d, .call ⟨.builtin .append, as.toArray, #[t, t2]⟩, ty, pos, af, none⟩ :: rest) Q ρ h := by
  obtain ⟨i, hi, rfl⟩ := hi
  refine wpL_op rfl rfl hn fun w hw => ?_
  obtain ⟨s', w', h1, h2, h3⟩ := run_appendz (ty := ty) (kx := kx) hu hu2 ht hi hby hz hzs hzm hone (hw ▸ hm)
  exact ⟨s'.enc, w', run_builtin hvs (fun _ => by simp only [builtin]; rw [run_ok_bind h1]; rfl), h2, hk _ _ h3⟩
def PnE (T : TypeId) (E : Int → Hp → Prop) (c : List PanicEntry) (h : Hp) : Prop := ∃ e, c = [{ v := .iface T (.agg #[.int .i64 e]), recovered := false }] ∧ E e h
end
end Lf
end Go
namespace Go
namespace Lf
/-- eight of a kind -/
structure A8 (α : Type) where
  a0 : α
  a1 : α
  a2 : α
  a3 : α
  a4 : α
  a5 : α
  a6 : α
  a7 : α
def A8.toL {α : Type} (x : A8 α) : List α := [x.a0, x.a1, x.a2, x.a3, x.a4, x.a5, x.a6, x.a7]
def A8.eqb (x y : A8 Int) : Bool := x.a0 == y.a0 && (x.a1 == y.a1 && (x.a2 == y.a2 && (x.a3 == y.a3 && (x.a4 == y.a4 && (x.a5 == y.a5 && (x.a6 == y.a6 && (x.a7 == y.a7 && true)))))))
theorem A8.eqb_iff {x y : A8 Int} : A8.eqb x y = true ↔ x = y := by
  cases x; cases y
  simp [A8.eqb]
def ArIx {α : Type} (x : A8 α) (i : Int) (k : α → Prop) : Prop := ∃ v, 0 ≤ i ∧ x.toL[i.toNat]? = some v ∧ k v
section
variable {P : Program} {n : Nat} {Q : Post} {ρ : Env} {h : Hp} {ops : Array Oper} {rest : List Oper} {d : Nat} {dd : Option Nat} {ty : TypeId} {pos : String} {af : Array Edge} {g : Option (Nat × Bool)} {t : TypeId} {m : Nat} {x y : Operand} {a : Addr}

theorem y_arix {e : TypeId} {k k' : IntKind} {s : A8 Int} {i v : Int} (hu : P.underlying t = some (.array 8 e)) (ht : TyS P e 1 false)
    (hx : ρ.ev x = .agg #[.int k s.a0, .int k s.a1, .int k s.a2, .int k s.a3, .int k s.a4, .int k s.a5, .int k s.a6, .int k s.a7]) (hy : ρ.ev y = .int k' i) (h0 : 0 ≤ i) (h1 : s.toL[i.toNat]? = some v) :
    Yl P ρ ⟨dd, .index t x y, ty, pos, af, g⟩ h (.int k v) := fun w _ => by
  have hlt : i.toNat < 8 := by
    have := List.getElem?_eq_some_iff.1 h1
    obtain ⟨h, _⟩ := this
    simpa [A8.toL] using h
  have hi8 : i < ((8 : Nat) : Int) := by omega
  simp only [execOp, hx, hy, Instr.index, asIntOf, pure_bind, bind_assoc]
  rw [run_ok_bind (run_underlying hu w)]
  simp only [h0, hi8, and_self, if_true, bind_assoc]
  rw [run_ok_bind (ht.size w)]
  simp only [part, bind_assoc]
  rw [run_ok_bind (ht.agg w)]
  simp only [Bool.false_eq_true, if_false, Nat.mul_one]
  generalize i.toNat = j at *
  match j, hlt with
  | 0, _ | 1, _ | 2, _ | 3, _ | 4, _ | 5, _ | 6, _ | 7, _ => (simp [A8.toL] at h1; subst h1; rfl)

def BLA (P : Program) (t : TypeId) (zs : List Value) : Prop := ∃ z nn e b, TyZ P t z ∧ z.cells = zs.toArray ∧ P.underlying t = some (.array nn e) ∧ TyS P e 1 b
theorem y_bla {zs cs : List Value} {ps : List (Nat × Operand)} {vs : List (Nat × Value)} (hb : BLA P t zs)
    (hvs : (ps.map fun (i, x) => (i, ρ.ev x)) = vs) (hf : fillL (fun i => some (i * 1, 1)) zs vs = some cs) : Yl P ρ ⟨dd, .build t ps.toArray, ty, pos, af, g⟩ h (.agg cs.toArray) := fun w _ => by
  obtain ⟨z, nn, e, b, hz, hzs, hu, he⟩ := hb
  simp only [execOp, Instr.build, bind_assoc]
  rw [run_ok_bind (hz w), run_ok_bind (run_underlying hu w)]
  simp only [bind_assoc]
  rw [run_ok_bind (he.size w)]
  have h1 := fill_of hf
  simp only [parts_map, hvs, hzs, h1]; rfl

/-! ### equality -/
def EqV (P : Program) (k : Nat) (t : TypeId) (v u : Value) (b : Bool) : Prop := ∀ d w, (Op.equalIn (d + k) t v u).run P w = .ok b w
def EqF (P : Program) (k : Nat) (xs ys : Array Value) (fs : List Field) (b : Bool) : Prop := ∀ d w, (Op.eqFields (d + k) xs ys fs).run P w = .ok b w
theorem EqV.mono {k k' : Nat} {v u : Value} {b : Bool} (h : EqV P k t v u b) (hk : k ≤ k') : EqV P k' t v u b := fun d w => by
  have := h (d + (k' - k)) w
  rwa [show d + (k' - k) + k = d + k' by omega] at this
theorem eqv_int {ik ik' : IntKind} {i j : Int} (hu : P.underlying t = some (.int ik')) : EqV P 1 t (.int ik i) (.int ik j) (i == j) := fun d w => run_equalIn_int w d t ik ik' i j hu
theorem eqv_bool {i j : Bool} (hu : P.underlying t = some .bool) : EqV P 1 t (.bool i) (.bool j) (i == j) := fun d w => run_equalIn_bool w d t i j hu
theorem eqv_str {i j : Str} (hu : P.underlying t = some .string) : EqV P 1 t (vS i) (vS j) (i == j) := fun d w => by
  have := run_equalIn_string (P := P) w d t (bs i) (bs j) hu
  rw [ByteArray.toList_eq, ByteArray.toList_eq] at this
  exact this
theorem eqf_nil {xs ys : Array Value} : EqF P 0 xs ys [] true := fun _ _ => rfl
theorem run_partV {b : Bool} {cs : List Value} {off : Nat} {v : Value} (ht : TyS P t m b) (hv : fieldV b cs off m = some v) (w : World) : (part t cs.toArray off).run P w = .ok v w := by
  simp only [part]
  rw [run_ok_bind (ht.agg w)]
  cases b
  · simp only [fieldV, cond_false] at hv
    simp only [Bool.false_eq_true, if_false, List.getElem?_toArray, hv]; rfl
  · simp only [fieldV, cond_true] at hv
    simp only [if_true]
    rw [run_ok_bind (ht.size w)]
    obtain rfl : Value.agg ((cs.drop off).take m).toArray = v := by simpa using hv
    simp [List.take_drop]
    try (rw [List.take_drop]; rfl)
theorem eqf_cons {k k' : Nat} {b r r' : Bool} {xs ys : List Value} {f : Field} {fs : List Field} {v u : Value} (hn : f.name ≠ "_") (ht : TyS P f.type m b) (hv : fieldV b xs f.offset m = some v) (hu : fieldV b ys f.offset m = some u)
    (he : EqV P k f.type v u r) (hk : k ≤ k') (hr : EqF P k' xs.toArray ys.toArray fs r') : EqF P k' xs.toArray ys.toArray (f :: fs) (r && r') := fun d w => by
  have he := he.mono hk
  simp only [Op.eqFields, hn, ne_eq, not_false_eq_true, if_true]
  rw [run_ok_bind (run_partV ht hv w), run_ok_bind (run_partV ht hu w), run_ok_bind (he d w)]
  cases r
  · rfl
  · simp only [Bool.not_true, Bool.false_eq_true, if_false, Bool.true_and]
    exact hr d w
theorem eqf_up {k k' : Nat} {xs ys : Array Value} {fs : List Field} {b : Bool} (h : EqF P k xs ys fs b) (hk : k ≤ k') : EqF P k' xs ys fs b := fun d w => by
  have := h (d + (k' - k)) w
  rwa [show d + (k' - k) + k = d + k' by omega] at this
theorem eqv_st {k : Nat} {xs ys : Array Value} {fs : List Field} {b : Bool} (hu : P.underlying t = some (.struct fs.toArray)) (hp : P.stoodInHeld t = false) (hf : EqF P k xs ys fs b) : EqV P (k + 1) t (.agg xs) (.agg ys) b := fun d w => by
  have e : P.fieldsOf t = fs.toArray := by simp [Program.fieldsOf, hu]
  have := run_equalIn_struct (P := P) w (d + k) t xs ys (by rw [e]; exact hu) hp
  rw [e] at this
  rw [show d + (k + 1) = d + k + 1 by omega, this]
  exact hf d w
theorem eqv_a8 {e : TypeId} {k ik : IntKind} {x y : A8 Int} (hu : P.underlying t = some (.array 8 e)) (he : P.underlying e = some (.int ik)) (hi : (P.info? e).isSome = true) (hc : P.cellsOf e = 1) (hs : TyS P e 1 false) :
    EqV P 2 t (.agg #[.int k x.a0, .int k x.a1, .int k x.a2, .int k x.a3, .int k x.a4, .int k x.a5, .int k x.a6, .int k x.a7]) (.agg #[.int k y.a0, .int k y.a1, .int k y.a2, .int k y.a3, .int k y.a4, .int k y.a5, .int k y.a6, .int k y.a7]) (A8.eqb x y) := fun d w => by
  obtain ⟨i, hi⟩ := Option.isSome_iff_exists.1 hi
  rw [show d + 2 = d + 1 + 1 from rfl, run_equalIn_array w (d + 1) _ _ hu hi, hc]
  have hp : ∀ (v : Value) (l : List Value) (j : Nat), l[j]? = some v → (part e l.toArray j).run P w = .ok v w := fun v l j hv => run_partV hs (by simpa [fieldV] using hv) w
  have hq : ∀ a b : Int, (Op.equalIn (d + 1) e (.int k a) (.int k b)).run P w = .ok (a == b) w := fun a b => run_equalIn_int w d e k ik a b he
  have step : ∀ (xs ys : List Value) (j : Nat) (a b : Int) (js : List Nat) (r : Bool), xs[j]? = some (.int k a) → ys[j]? = some (.int k b) → (Op.eqItems (d + 1) e 1 xs.toArray ys.toArray js).run P w = .ok r w →
      (Op.eqItems (d + 1) e 1 xs.toArray ys.toArray (j :: js)).run P w = .ok (a == b && r) w := by
    intro xs ys j a b js r h1 h2 h3
    simp only [Op.eqItems, Nat.mul_one]
    rw [run_ok_bind (hp _ _ _ h1), run_ok_bind (hp _ _ _ h2), run_ok_bind (hq a b)]
    cases hab : a == b
    · rfl
    · simp only [Bool.not_true, Bool.false_eq_true, if_false, Bool.true_and]
      exact h3
  show (Op.eqItems (d + 1) e 1 ([.int k x.a0, .int k x.a1, .int k x.a2, .int k x.a3, .int k x.a4, .int k x.a5, .int k x.a6, .int k x.a7] : List Value).toArray ([.int k y.a0, .int k y.a1, .int k y.a2, .int k y.a3, .int k y.a4, .int k y.a5, .int k y.a6, .int k y.a7] : List Value).toArray [0, 1, 2, 3, 4, 5, 6, 7]).run P w = _
  unfold A8.eqb
  exact step _ _ _ _ _ _ _ rfl rfl (step _ _ _ _ _ _ _ rfl rfl (step _ _ _ _ _ _ _ rfl rfl (step _ _ _ _ _ _ _ rfl rfl (step _ _ _ _ _ _ _ rfl rfl (step _ _ _ _ _ _ _ rfl rfl (step _ _ _ _ _ _ _ rfl rfl (step _ _ _ _ _ _ _ rfl rfl rfl)))))))
theorem bin_aeql {k : Nat} {xs ys : Array Value} {b : Bool} (hg : P.eqGuardType P.depth t = false) (he : EqV P k t (.agg xs) (.agg ys) b) (hk : k ≤ 10000) : BinR P .eql t (.agg xs) (.agg ys) (.bool b) := fun w x y => by
  have h1 := run_eqGuard_agg (P := P) w .eql t x y xs ys hg
  rw [run_ok_bind h1, run_eql_struct]
  have h2 := (he.mono hk) 0 w
  rw [show 0 + 10000 = 10000 from rfl] at h2
  rw [h2]; rfl
theorem bin_aneq {k : Nat} {xs ys : Array Value} {b : Bool} (hg : P.eqGuardType P.depth t = false) (he : EqV P k t (.agg xs) (.agg ys) b) (hk : k ≤ 10000) : BinR P .neq t (.agg xs) (.agg ys) (.bool (!b)) := fun w x y => by
  have h1 := run_eqGuard_agg (P := P) w .neq t x y xs ys hg
  rw [run_ok_bind h1, run_neq_struct]
  have h2 := (he.mono hk) 0 w
  rw [show 0 + 10000 = 10000 from rfl] at h2
  rw [h2]; rfl
def fEq (a b : Nat) : Bool := Op.floatEq .f64 a b
theorem bin_feql {a b : Nat} : BinR P .eql t (.float .f64 a) (.float .f64 b) (.bool (fEq a b)) := fun w x y => by simp [eqGuard, binOp, Op.floatCmp, fEq, Op.floatEq]
theorem bin_fneq {a b : Nat} : BinR P .neq t (.float .f64 a) (.float .f64 b) (.bool (!fEq a b)) := fun w x y => by simp [eqGuard, binOp, Op.floatCmp, fEq, Op.floatEq, bne]
def sMax (a b : Str) : Str := if sLt a b then b else a
theorem y_smax {i j : Str} {as : List Operand} {tys : Array TypeId} (hvs : as.map ρ.ev = [vS i, vS j]) : Yl P ρ ⟨dd, .call ⟨.builtin .max, as.toArray, tys⟩, ty, pos, af, g⟩ h (vS (sMax i j)) :=
  yl_builtin hvs fun w _ _ => by
    simp [builtin, Builtin.max_, Builtin.max2, vS, Op.stringOp, bs_toList, sMax, sLt, asBool]
    split <;> simp_all
/-! ### a slice of which all is given -/
def Full (m : Nat) : Nat → List (Nat × Value) → List (List Value) → Prop
  | _, [], [] => True
  | j, (i, v) :: vs, cs :: css => i = j ∧ v.cells = cs.toArray ∧ cs.length = m ∧ Full m (j + 1) vs css
  | _, _, _ => False
theorem full_nil {m j : Nat} : Full m j [] [] := trivial
theorem full_cons {m j : Nat} {v : Value} {cs : List Value} {vs : List (Nat × Value)} {css : List (List Value)} (h1 : v.cells = cs.toArray) (h2 : cs.length = m) (h : Full m (j + 1) vs css) : Full m j ((j, v) :: vs) (cs :: css) := ⟨rfl, h1, h2, h⟩
theorem put_mid : ∀ (vs pre mid post : List Value), mid.length = vs.length → put (pre ++ (mid ++ post)) pre.length vs = pre ++ (vs ++ post)
  | [], pre, [], post, _ => by simp [put]
  | v :: vs, pre, x :: mid, post, h => by
    simp only [put, List.cons_append]
    rw [show (pre ++ x :: (mid ++ post)).set pre.length v = (pre ++ [v]) ++ (mid ++ post) by simp]
    have := put_mid vs (pre ++ [v]) mid post (by simpa using h)
    rw [show (pre ++ [v]).length = pre.length + 1 by simp] at this
    rw [this]
    simp
  | [], _, _ :: _, _, h => by simp at h
  | _ :: _, _, [], _, h => by simp at h
theorem full_fill {m : Nat} : ∀ (vs : List (Nat × Value)) (css : List (List Value)) (j : Nat) (pre zl : List Value), Full m j vs css → zl.length = vs.length * m → pre.length = j * m → fillL (fun i => some (i * m, m)) (pre ++ zl) vs = some (pre ++ css.flatten)
  | [], [], _, pre, zl, _, hz, _ => by
    have : zl = [] := by simpa using hz
    simp [fillL, this]
  | (i, v) :: vs, cs :: css, j, pre, zl, h, hz, hp => by
    obtain ⟨rfl, h1, h2, h3⟩ := h
    have hzl : zl = zl.take m ++ zl.drop m := by simp
    have hlen : zl.length = vs.length * m + m := by rw [hz]; simp [Nat.add_mul]
    unfold fillL
    rw [h1]
    have hb : (Nat.beq cs.length m && Nat.ble (i * m + m) (pre ++ zl).length) = true := by
      simp only [Bool.and_eq_true, Nat.beq_eq, Nat.ble_eq, List.length_append]
      omega
    simp only [hb, cond_true]
    have hput : put (pre ++ zl) (i * m) cs = (pre ++ cs) ++ zl.drop m := by
      have := put_mid cs pre (zl.take m) (zl.drop m) (by simp; omega)
      rw [← hzl, hp] at this
      rw [this]; simp
    rw [hput, full_fill vs css (i + 1) (pre ++ cs) (zl.drop m) h3 (by simp; omega) (by simp [Nat.add_mul, hp, h2])]
    simp
  | [], _ :: _, _, _, _, h, _, _ => h.elim
  | _ :: _, [], _, _, _, h, _, _ => h.elim
theorem wpL_bsf {e : TypeId} {b : Bool} {len : Nat} {z : Value} {zs : List Value} {css : List (List Value)} {ps : List (Nat × Operand)} {vs : List (Nat × Value)} {K : Addr → Hp → Prop} (hu : P.underlying t = some (.slice e)) (ht : TyS P e m b) (hz : TyZ P e z) (hzs : z.cells = zs.toArray)
    (hb : Nat.ble (len * m) 16777216 = true) (hvs : (ps.map fun (i, x) => (i, ρ.ev x)) = vs) (hf : Full m 0 vs css) (hl : vs.length = len) (hm : Al h css.flatten K) (hn : Nat.blt d n = true)
    (hk : ∀ a h', K a h' → wpL P n ops rest Q (ρ.upd d (Sl.enc ⟨some a, len, len⟩)) h') : wpL P n ops (⟨some d, .buildSlice t len ps.toArray, ty, pos, af, none⟩ :: rest) Q ρ h := by
  refine wpL_bsl hu ht hz hzs hb rfl hvs ?_ hm hn hk
  exact full_fill vs css 0 [] _ hf (by simp [hl]) (by simp)
end
end Lf
end Go
namespace Go
namespace Lf
/-! ### boxes that no one else sees -/
def Has1 (h : Hp) (b : Addr) (cs : List Value) : Prop := b.off = 0 ∧ b.spot = none ∧ ∃ T, h[b.block]? = some (.cells cs.toArray T)
def Bx (h : Hp) : List (Addr × List Value) → Prop
  | [] => True
  | (b, cs) :: l => Has1 h b cs ∧ (∀ p ∈ l, p.1.block ≠ b.block) ∧ Bx h l
def AlX (h : Hp) (k : Addr → Hp → Prop) : Prop := ∀ o, k ⟨h.size, 0, none⟩ (h.push o)
def StX (h : Hp) (b : Addr) (k : Hp → Prop) : Prop := ∀ o, k (h.setIfInBounds b.block o)
def KpX (h h' : Hp) (bs : List Addr) (k : Prop) : Prop := (∀ b ∈ bs, h'[b.block]? = h[b.block]?) ∧ k

theorem Bx.nil {h : Hp} : Bx h [] := trivial
theorem Bx.mem {h : Hp} : ∀ {L : List (Addr × List Value)}, Bx h L → ∀ p ∈ L, Has1 h p.1 p.2
  | [], _, p, hp => by cases hp
  | (b, cs) :: l, hb, p, hp => by
    rcases List.mem_cons.1 hp with rfl | hp
    · exact hb.1
    · exact Bx.mem hb.2.2 p hp
theorem Has1.lt {h : Hp} {b : Addr} {cs : List Value} (hb : Has1 h b cs) : b.block < h.size := by
  obtain ⟨_, _, T, e⟩ := hb
  exact (Array.getElem?_eq_some_iff.1 e).1
theorem Has1.congr {h h' : Hp} {b : Addr} {cs : List Value} (hb : Has1 h b cs) (e : h'[b.block]? = h[b.block]?) : Has1 h' b cs := by
  obtain ⟨h1, h2, T, h3⟩ := hb
  exact ⟨h1, h2, T, by rw [e, h3]⟩
theorem Bx.congr {h h' : Hp} : ∀ {L : List (Addr × List Value)}, Bx h L → (∀ p ∈ L, h'[p.1.block]? = h[p.1.block]?) → Bx h' L
  | [], _, _ => trivial
  | (b, cs) :: l, hb, e => ⟨hb.1.congr (e _ (List.mem_cons_self ..)), hb.2.1, Bx.congr hb.2.2 fun p hp => e p (List.mem_cons_of_mem _ hp)⟩
theorem Bx.sub {h : Hp} {L' L : List (Addr × List Value)} (hb : Bx h L) (s : List.Sublist L' L) : Bx h L' := by
  induction s with
  | slnil => exact hb
  | cons a s ih => exact ih hb.2.2
  | cons_cons a s ih =>
    obtain ⟨b, cs⟩ := a
    exact ⟨hb.1, fun p hp => hb.2.1 p (s.subset hp), ih hb.2.2⟩
theorem Bx.keep {h h' : Hp} {L : List (Addr × List Value)} {bs : List Addr} (hb : Bx h L) (e : ∀ b ∈ bs, h'[b.block]? = h[b.block]?) (hm : L.map Prod.fst = bs) : Bx h' L :=
  hb.congr fun p hp => e p.1 (hm ▸ List.mem_map_of_mem hp)
theorem Bx.new {h : Hp} {L : List (Addr × List Value)} {cs : List Value} {T : TypeId} (hb : Bx h L) : Bx (h.push (.cells cs.toArray T)) ((⟨h.size, 0, none⟩, cs) :: L) := by
  refine ⟨⟨rfl, rfl, T, by simp⟩, fun p hp => ?_, hb.congr fun p hp => ?_⟩
  · have := (hb.mem p hp).lt
    exact Nat.ne_of_lt this
  · have := (hb.mem p hp).lt
    rw [Array.getElem?_push, if_neg (Nat.ne_of_lt this)]
theorem Bx.set {h : Hp} {cs' : List Value} {T : TypeId} : ∀ {L : List (Addr × List Value)} {i : Nat} {b : Addr} {cs : List Value}, Bx h L → L[i]? = some (b, cs) → Bx (h.setIfInBounds b.block (.cells cs'.toArray T)) (L.set i (b, cs'))
  | [], i, b, cs, _, hi => by simp at hi
  | (b', cs0) :: l, 0, b, cs, hb, hi => by
    simp only [List.getElem?_cons_zero, Option.some.injEq, Prod.mk.injEq] at hi
    obtain ⟨rfl, rfl⟩ := hi
    have hlt := hb.1.lt
    refine ⟨⟨hb.1.1, hb.1.2.1, T, by simp [hlt]⟩, hb.2.1, hb.2.2.congr fun p hp => ?_⟩
    rw [Array.getElem?_setIfInBounds_ne (Ne.symm (hb.2.1 p hp))]
  | (b', cs0) :: l, i + 1, b, cs, hb, hi => by
    simp only [List.getElem?_cons_succ] at hi
    have hm : (b, cs) ∈ l := List.mem_of_getElem? hi
    have hne := hb.2.1 _ hm
    refine ⟨hb.1.congr (by rw [Array.getElem?_setIfInBounds_ne hne]), fun p hp => ?_, Bx.set hb.2.2 hi⟩
    rcases List.mem_or_eq_of_mem_set hp with hp | rfl
    · exact hb.2.1 p hp
    · exact hne
theorem add_flat {b : Addr} (hs : b.spot = none) (ho : b.off = 0) (i : Nat) : b.add i = ⟨b.block, i, none⟩ := by
  obtain ⟨k, o, s⟩ := b
  simp only at hs ho
  subst hs; subst ho
  simp [Addr.add]
  try exact fun e => e.symm
theorem Has1.cell {h : Hp} {b : Addr} {cs : List Value} (hb : Has1 h b cs) (off : Nat) : Hp.cell? h (b.add off) = cs[off]? := by
  obtain ⟨h1, h2, T, h3⟩ := hb
  rw [add_flat h2 h1]
  simp [Hp.cell?, h3]
theorem Has1.frozen {h : Hp} {b : Addr} {cs : List Value} (hb : Has1 h b cs) (off : Nat) : Hp.frozen? h (b.add off) = false := by
  obtain ⟨h1, h2, T, h3⟩ := hb
  rw [add_flat h2 h1]
  simp [Hp.frozen?, h3]
theorem Bx.has {h : Hp} {L : List (Addr × List Value)} {i : Nat} {b : Addr} {cs : List Value} (hb : Bx h L) (hi : L[i]? = some (b, cs)) : Has1 h b cs := hb.mem _ (List.mem_of_getElem? hi)
theorem Bx.cell {h : Hp} {L : List (Addr × List Value)} {b : Addr} {cs : List Value} {v : Value} (hb : Bx h L) (i off : Nat) (hi : L[i]? = some (b, cs)) (hv : cs[off]? = some v) : Hp.cell? h (b.add off) = some v := by
  rw [(hb.has hi).cell]; exact hv
theorem Bx.row {h : Hp} {L : List (Addr × List Value)} {b : Addr} {cs vs : List Value} (hb : Bx h L) (i off : Nat) (hi : L[i]? = some (b, cs)) (hv : (cs.drop off).take vs.length = vs) : Row h (b.add off) vs := by
  intro j v hj
  rw [add_add, (hb.has hi).cell]
  have hjl : j < vs.length := (List.getElem?_eq_some_iff.1 hj).1
  rw [← hv, List.getElem?_take] at hj
  rw [if_pos hjl, List.getElem?_drop] at hj
  exact hj
theorem A8.len (x : A8 Int) : x.toL.length = 8 := rfl
def A8.at_ (x : A8 Int) (i : Int) : Int := x.toL.getD i.toNat 0
def A8.ofL (l : List Int) : A8 Int := ⟨l.getD 0 0, l.getD 1 0, l.getD 2 0, l.getD 3 0, l.getD 4 0, l.getD 5 0, l.getD 6 0, l.getD 7 0⟩
def A8.put (x : A8 Int) (i : Int) (v : Int) : A8 Int := A8.ofL (x.toL.set i.toNat v)
def A8.cells (k : IntKind) (x : A8 Int) : List Value := [.int k x.a0, .int k x.a1, .int k x.a2, .int k x.a3, .int k x.a4, .int k x.a5, .int k x.a6, .int k x.a7]
def A8.enc (k : IntKind) (x : A8 Int) : Value := .agg #[.int k x.a0, .int k x.a1, .int k x.a2, .int k x.a3, .int k x.a4, .int k x.a5, .int k x.a6, .int k x.a7]
theorem A8.ofL_toL : ∀ (l : List Int), l.length = 8 → (A8.ofL l).toL = l
  | [_, _, _, _, _, _, _, _], _ => rfl
theorem A8.put_toL (x : A8 Int) (i v : Int) : (x.put i v).toL = x.toL.set i.toNat v := A8.ofL_toL _ (by simp [A8.len])
theorem A8.cells_toL (k : IntKind) (x : A8 Int) : A8.cells k x = x.toL.map (Value.int k) := rfl
theorem A8.at_cells {k : IntKind} {x : A8 Int} {i : Int} (h : 0 ≤ i ∧ i < 8) : (A8.cells k x)[i.toNat]? = some (.int k (x.at_ i)) := by
  rw [A8.cells_toL, List.getElem?_map]
  have : i.toNat < x.toL.length := by rw [A8.len]; omega
  simp [A8.at_, List.getD_eq_getElem?_getD, this]
theorem A8.put_cells {k : IntKind} {x : A8 Int} {i v : Int} : (A8.cells k x).set i.toNat (.int k v) = A8.cells k (x.put i v) := by
  rw [A8.cells_toL, A8.cells_toL, A8.put_toL, List.map_set]
theorem Bx.ari {h : Hp} {L : List (Addr × List Value)} {b : Addr} {cs : List Value} {k : IntKind} {x : A8 Int} {j : Int} (hb : Bx h L) (i off : Nat) (hi : L[i]? = some (b, cs)) (hv : (cs.drop off).take 8 = A8.cells k x) (hj : 0 ≤ j ∧ j < 8) :
    Hp.cell? h ((b.add off).add (j.toNat * 1)) = some (.int k (x.at_ j)) := by
  rw [add_add, (hb.has hi).cell, Nat.mul_one]
  have := A8.at_cells (k := k) (x := x) hj
  rw [← hv, List.getElem?_take, if_pos (by omega), List.getElem?_drop] at this
  exact this
theorem put_len' (vs cs : List Value) (off : Nat) : (put cs off vs).length = cs.length := put_len vs cs off

theorem setCell_has {h : Hp} {b : Addr} {cs : List Value} {T : TypeId} {off : Nat} {v : Value} (h1 : b.off = 0) (h2 : b.spot = none) (h3 : h[b.block]? = some (.cells cs.toArray T)) :
    Hp.setCell h (b.add off) v = h.setIfInBounds b.block (.cells (cs.set off v).toArray T) := by
  rw [add_flat h2 h1]
  apply Array.ext_getElem?
  intro i
  rw [setCell_get, Array.getElem?_setIfInBounds]
  have hlt := (Array.getElem?_eq_some_iff.1 h3).1
  by_cases e : b.block = i
  · subst e
    rw [if_pos rfl, h3]
    simp [hlt, setObj]
  · simp [e]
theorem setCells_has {b : Addr} {T : TypeId} (h1 : b.off = 0) (h2 : b.spot = none) : ∀ (vs : List Value) (h : Hp) (cs : List Value) (off i : Nat), h[b.block]? = some (.cells cs.toArray T) →
    setCells h (b.add off) i vs = h.setIfInBounds b.block (.cells (put cs (off + i) vs).toArray T)
  | [], h, cs, off, i, h3 => by
    simp only [setCells, put]
    apply Array.ext_getElem?
    intro j
    rw [Array.getElem?_setIfInBounds]
    have hlt := (Array.getElem?_eq_some_iff.1 h3).1
    by_cases e : b.block = j
    · subst e; rw [h3]; simp [hlt]
    · simp [e]
  | v :: vs, h, cs, off, i, h3 => by
    simp only [setCells, put]
    rw [add_add, setCell_has h1 h2 h3]
    have hlt := (Array.getElem?_eq_some_iff.1 h3).1
    rw [setCells_has (T := T) h1 h2 vs _ (cs.set (off + i) v) off (i + 1) (by simp [hlt])]
    simp [Nat.add_assoc]

section
variable {P : Program} {n : Nat} {Q : Post} {ρ : Env} {h : Hp} {ops : Array Oper} {rest : List Oper} {d : Nat} {ty : TypeId} {pos : String} {af : Array Edge} {t : TypeId} {m : Nat} {x y : Operand} {L L' : List (Addr × List Value)}
theorem wpL_allocX {z : Value} {zs : List Value} {K : Addr → Hp → Prop} (hz : TyZ P t z) (hzs : z.cells = zs.toArray) (bx : Bx h L) (hm : AlX h K) (hn : Nat.blt d n = true)
    (hk : ∀ b h', K b h' → Bx h' ((b, zs) :: L) → wpL P n ops rest Q (ρ.upd d (.pointer (some b))) h') : wpL P n ops (⟨some d, .alloc t, ty, pos, af, none⟩ :: rest) Q ρ h :=
  wpL_alloc (K := fun b h' => K b h' ∧ Bx h' ((b, zs) :: L)) hz hzs (fun _ => ⟨hm _, bx.new⟩) hn fun b h' hq => hk b h' hq.1 hq.2
theorem wpL_boxX {v : Value} {vs : List Value} {K : Addr → Hp → Prop} (hx : ρ.ev x = v) (hvs : v.cells = vs.toArray) (bx : Bx h L) (hm : AlX h K) (hn : Nat.blt d n = true)
    (hk : ∀ b h', K b h' → Bx h' ((b, vs) :: L) → wpL P n ops rest Q (ρ.upd d (.pointer (some b))) h') : wpL P n ops (⟨some d, .box t x, ty, pos, af, none⟩ :: rest) Q ρ h :=
  wpL_box (K := fun b h' => K b h' ∧ Bx h' ((b, vs) :: L)) hx hvs (fun _ => ⟨hm _, bx.new⟩) hn fun b h' hq => hk b h' hq.1 hq.2
theorem wpL_stX {b : Addr} {cs : List Value} {v u : Value} {i off : Nat} {K : Hp → Prop} (ht : TyS P t 1 false) (hx : ρ.ev x = .pointer (some (b.add off))) (hy : ρ.ev y = v) (hv : one v = true) (bx : Bx h L) (hi : L[i]? = some (b, cs)) (ho : cs[off]? = some u) (hm : StX h b K)
    (hL : L.set i (b, cs.set off v) = L') (hk : ∀ h', K h' → Bx h' L' → wpL P n ops rest Q ρ h') : wpL P n ops (⟨none, .store t x y, ty, pos, af, none⟩ :: rest) Q ρ h := by
  have hb := bx.has hi
  obtain ⟨h1, h2, T, h3⟩ := id hb
  have e := setCell_has (off := off) (v := v) h1 h2 h3
  refine wpL_st (K := fun _ => True) ht hx hy hv ⟨⟨u, by rw [hb.cell]; exact ho⟩, hb.frozen off, trivial⟩ fun _ => ?_
  rw [e]
  exact hk _ (hm _) (hL ▸ bx.set hi)
theorem wpL_staX {b : Addr} {cs vs cs' : List Value} {i off : Nat} {K : Hp → Prop} (ht : TyS P t m true) (hx : ρ.ev x = .pointer (some (b.add off))) (hy : ρ.ev y = .agg vs.toArray) (hl : vs.length = m) (hv : vs.all one = true) (bx : Bx h L) (hi : L[i]? = some (b, cs)) (ho : Nat.ble (off + vs.length) cs.length = true) (hm : StX h b K)
    (hp : put cs off vs = cs') (hL : L.set i (b, cs') = L') (hk : ∀ h', K h' → Bx h' L' → wpL P n ops rest Q ρ h') : wpL P n ops (⟨none, .store t x y, ty, pos, af, none⟩ :: rest) Q ρ h := by
  have hb := bx.has hi
  obtain ⟨h1, h2, T, h3⟩ := id hb
  have e := setCells_has (T := T) h1 h2 vs h cs off 0 h3
  refine wpL_sta (K := fun _ => True) ht hx hy hl hv ⟨fun j hj => ⟨⟨cs[off + j]'(by have := Nat.le_of_ble_eq_true ho; omega), by rw [add_add, hb.cell]; simp⟩, by rw [add_add]; exact hb.frozen _⟩, trivial⟩ fun _ => ?_
  rw [e, Nat.add_zero, hp]
  exact hk _ (hm _) (hL ▸ bx.set hi)
/-- a store at a place of an array -/
theorem wpL_stiX {b : Addr} {cs cs' : List Value} {v : Value} {i off : Nat} {j : Int} {K : Hp → Prop} (ht : TyS P t 1 false) (hx : ρ.ev x = .pointer (some ((b.add off).add (j.toNat * 1)))) (hy : ρ.ev y = v) (hv : one v = true) (bx : Bx h L) (hi : L[i]? = some (b, cs))
    (hj : 0 ≤ j ∧ j < 8) (ho : Nat.ble (off + 8) cs.length = true) (hm : StX h b K) (hp : cs.set (off + j.toNat) v = cs')
    (hL : L.set i (b, cs') = L') (hk : ∀ h', K h' → Bx h' L' → wpL P n ops rest Q ρ h') : wpL P n ops (⟨none, .store t x y, ty, pos, af, none⟩ :: rest) Q ρ h := by
  rw [add_add, Nat.mul_one] at hx
  have hlt : off + j.toNat < cs.length := by have := Nat.le_of_ble_eq_true ho; omega
  subst hp
  exact wpL_stX (u := cs[off + j.toNat]) ht hx hy hv bx hi (by simp) hm hL hk
theorem wpE_seqJH {x y : Code} {τ : Type} (K : τ → Hp → Prop) (F : τ → Env → Hp → Prop) (hB : ∀ ρ x h, F x ρ h → K x h → wpE P n y Q ρ h)
    (hA : wpE P n x (Seq (fun ρ h => ∃ x, F x ρ h ∧ K x h) Q) ρ h) : wpE P n (.seq x y) Q ρ h :=
  wpE_seq (wpE_mono hA fun e ρ h hq => by
    cases e with
    | normal => obtain ⟨x, hf, hk⟩ := hq; exact hB ρ x h hf hk
    | _ => exact hq)
theorem y_ixaX {e : TypeId} {dd : Option Nat} {g : Option (Nat × Bool)} {b : Bool} {a : Addr} {i : Int} {k : IntKind} {len : Nat} (hu : P.underlying t = some (.array len e)) (ht : TyS P e m b) (hx : ρ.ev x = .pointer (some a)) (hy : ρ.ev y = .int k i) (hq : 0 ≤ i ∧ i < (len : Int)) :
    Yl P ρ ⟨dd, .indexAddr t x y, ty, pos, af, g⟩ h (.pointer (some (a.add (i.toNat * m)))) := y_ixa hu ht hx hy hq.1 hq.2
theorem y_arixX {e : TypeId} {dd : Option Nat} {g : Option (Nat × Bool)} {k k' : IntKind} {s : A8 Int} {i : Int} (hu : P.underlying t = some (.array 8 e)) (ht : TyS P e 1 false)
    (hx : ρ.ev x = A8.enc k s) (hy : ρ.ev y = .int k' i) (hq : 0 ≤ i ∧ i < 8) :
    Yl P ρ ⟨dd, .index t x y, ty, pos, af, g⟩ h (.int k (s.at_ i)) := by
  have := A8.at_cells (k := k) (x := s) hq
  rw [A8.cells_toL, List.getElem?_map] at this
  obtain ⟨v, h1, h2⟩ := Option.map_eq_some_iff.1 this
  cases h2
  exact y_arix hu ht hx hy hq.1 h1
end
end Lf
end Go
namespace Go
namespace Lf
/-! ## the same laws by short names, with what is closed left to the reader -/
section
variable {P : Program} {n : Nat} {Q : Post} {ρ : Env} {h : Hp} {ops : Array Oper} {rest : List Oper} {o : Oper} {d : Nat} {v : Value} {H : Held} {listed : Array Bool} {fuel : Nat} {x : Operand} {ty : TypeId} {pos : String} {af : Array Edge} {id : Nat} {c : Code}
theorem qy (e : (o.guard, o.dst) = (none, some d)) (hy : Yl P ρ o h v) (hk : wpL P n ops rest Q (ρ.upd d v) h) (hn : Nat.blt d n = true := by rfl) : wpL P n ops (o :: rest) Q ρ h :=
  wpL_y (Prod.mk.inj e).1 (Prod.mk.inj e).2 hn hy hk
theorem qm (hk : wpL P n ops rest Q (ρ.upd d (ρ.ev x)) h) (hn : Nat.blt d n = true := by rfl) : wpL P n ops (⟨some d, .move x, ty, pos, af, none⟩ :: rest) Q ρ h := wpL_y rfl rfl hn y_mv hk
theorem qa (hk : wpL P n ops rest Q (ρ.upd d (ρ.ev x)) h) (hn : Nat.blt d n = true := by rfl) : wpL P n ops (⟨some d, .assign x, ty, pos, af, none⟩ :: rest) Q ρ h := wpL_y rfl rfl hn y_as hk
def gd (ops : Array Oper) (o : Oper) : Option (Nat × Bool) := o.guard.bind fun p => (ops[p.1]?).bind fun og => og.dst.bind fun t => some (t, p.2)
theorem gd_of {t : Nat} {want : Bool} (e : gd ops o = some (t, want)) : ∃ g og, o.guard = some (g, want) ∧ ops[g]? = some og ∧ og.dst = some t := by
  unfold gd at e
  cases hg : o.guard with
  | none => rw [hg] at e; cases e
  | some p =>
    obtain ⟨g, w⟩ := p
    rw [hg] at e
    simp only [Option.bind_some] at e
    cases ho : ops[g]? with
    | none => rw [ho] at e; cases e
    | some og =>
      rw [ho] at e
      simp only [Option.bind_some] at e
      cases hd : og.dst with
      | none => rw [hd] at e; cases e
      | some t' =>
        rw [hd] at e
        simp only [Option.bind_some, Option.some.injEq, Prod.mk.injEq] at e
        exact ⟨g, og, by rw [e.2], ho, by rw [hd, e.1]⟩
theorem qg {t : Nat} {b b' want : Bool} (e : gd ops o = some (t, want)) (g : b' = b) (hk : wpL P n ops (⟨o.dst, o.op, o.type, o.pos, o.after, none⟩ :: rest) Q ρ h) (hv : ρ t = .bool b' := by rfl) (hb : (b == want) = true := by rfl) : wpL P n ops (o :: rest) Q ρ h := by
  obtain ⟨_, _, h1, h2, h3⟩ := gd_of e
  exact wpL_guard h1 h2 h3 (vbool hv g) hb hk
theorem qp {t : Nat} {b b' want : Bool} (e : (gd ops o, o.dst) = (some (t, want), some d)) (g : b' = b) (hk : wpL P n ops rest Q (ρ.upd d undef) h) (hv : ρ t = .bool b' := by rfl) (hb : (b == want) = false := by rfl) (hn : Nat.blt d n = true := by rfl) : wpL P n ops (o :: rest) Q ρ h := by
  obtain ⟨e1, e2⟩ := Prod.mk.inj e
  obtain ⟨_, _, h1, h2, h3⟩ := gd_of e1
  exact wpL_pass h1 e2 hn h2 h3 (vbool hv g) hb hk
theorem qP {t : Nat} {b want : Bool} (e : (gd ops o, o.dst) = (some (t, want), some d)) (hv : ρ t = .bool b) (hk : wpL P n ops rest Q (ρ.upd d undef) h) (hb : (b == want) = false := by rfl) (hn : Nat.blt d n = true := by rfl) : wpL P n ops (o :: rest) Q ρ h := by
  obtain ⟨e1, e2⟩ := Prod.mk.inj e
  obtain ⟨_, _, h1, h2, h3⟩ := gd_of e1
  exact wpL_pass h1 e2 hn h2 h3 hv hb hk
theorem qG {t : Nat} {b want : Bool} (e : gd ops o = some (t, want)) (hv : ρ t = .bool b) (hk : wpL P n ops (⟨o.dst, o.op, o.type, o.pos, o.after, none⟩ :: rest) Q ρ h) (hb : (b == want) = true := by rfl) : wpL P n ops (o :: rest) Q ρ h := by
  obtain ⟨_, _, h1, h2, h3⟩ := gd_of e
  exact wpL_guard h1 h2 h3 hv hb hk
theorem qu {t : Nat} {want : Bool} (e : (gd ops o, o.dst) = (some (t, want), some d)) (hk : wpL P n ops rest Q (ρ.upd d undef) h) (hv : ρ t = undef := by rfl) (hn : Nat.blt d n = true := by rfl) : wpL P n ops (o :: rest) Q ρ h := by
  obtain ⟨e1, e2⟩ := Prod.mk.inj e
  obtain ⟨_, _, h1, h2, h3⟩ := gd_of e1
  exact wpL_pass_undef h1 e2 hn h2 h3 hv hk
theorem qs {y : Code} (hx : wpL P n ops ops.toList (Seq (wpE P n y Q) Q) ρ h) : wpE P n (.seq (.region id ops false) y) Q ρ h := wpE_seq (wpE_region hx)
theorem qr (hx : wpL P n ops ops.toList Q ρ h) : wpE P n (.region id ops false) Q ρ h := wpE_region hx
theorem qn (hq : Q .normal ρ h) : wpL P n ops [] Q ρ h := wpL_nil hq
theorem qe {x y : Code} (hx : wpE P n x (Seq (wpE P n y Q) Q) ρ h) : wpE P n (.seq x y) Q ρ h := wpE_seq hx
theorem qb {y : Code} (hx : wpE P n c (Blk id (Seq (wpE P n y Q) Q)) ρ h) : wpE P n (.seq (.block id c) y) Q ρ h := wpE_seq (wpE_block hx)
theorem kt {b : Nat} (e : (Nat.blt d n && canTake ops listed b ops.size && noLook H b) = true) : Nat.blt d n = true ∧ canTake ops listed b ops.size = true ∧ noLook H b = true := by
  simp only [Bool.and_eq_true] at e; exact ⟨e.1.1, e.1.2, e.2⟩
theorem qU (i : Nat) (hi : ops[i]? = some o) (e : (o.guard, o.dst) = (none, some d)) (hy : ∀ h', Yl P ρ o h' v) (hk : wpA P n ops H fuel (listed.setIfInBounds i true) Q (ρ.upd d v) h)
    (hc : (Nat.blt d n && canTake ops listed i ops.size && noLook H i) = true := by kernel_rfl) (hQ : ∀ c ρ ρ' h, Q (.panic c) ρ h → Q (.panic c) ρ' h := by exact fun _ _ _ _ h => h) : wpA P n ops H (fuel + 1) listed Q ρ h := by
  obtain ⟨h1, h2, h3⟩ := kt hc
  exact wpA_pure hi (Prod.mk.inj e).2 h1 h2 h3 (wt_none (Prod.mk.inj e).1) hQ hy hk
theorem qV {t : Nat} {b b' want : Bool} (i : Nat) (hi : ops[i]? = some o) (e : (gd ops o, o.dst) = (some (t, want), some d)) (g : b' = b) (hy : ∀ h', Yl P ρ o h' v) (hk : wpA P n ops H fuel (listed.setIfInBounds i true) Q (ρ.upd d v) h)
    (hv : ρ t = .bool b' := by rfl) (hb : (b == want) = true := by rfl) (hc : (Nat.blt d n && canTake ops listed i ops.size && noLook H i) = true := by kernel_rfl) (hQ : ∀ c ρ ρ' h, Q (.panic c) ρ h → Q (.panic c) ρ' h := by exact fun _ _ _ _ h => h) : wpA P n ops H (fuel + 1) listed Q ρ h := by
  obtain ⟨h1, h2, h3⟩ := kt hc
  obtain ⟨e1, e2⟩ := Prod.mk.inj e
  obtain ⟨_, _, h4, h5, h6⟩ := gd_of e1
  exact wpA_pure hi e2 h1 h2 h3 (wt_bool h4 h5 h6 (vbool hv g) hb) hQ hy hk
theorem qW {t : Nat} {b b' want : Bool} (i : Nat) (hi : ops[i]? = some o) (e : (gd ops o, o.dst) = (some (t, want), some d)) (g : b' = b) (hk : wpA P n ops H fuel (listed.setIfInBounds i true) Q (ρ.upd d undef) h)
    (hv : ρ t = .bool b' := by rfl) (hb : (b == want) = false := by rfl) (hc : (Nat.blt d n && canTake ops listed i ops.size && noLook H i) = true := by kernel_rfl) (hQ : ∀ c ρ ρ' h, Q (.panic c) ρ h → Q (.panic c) ρ' h := by exact fun _ _ _ _ h => h) : wpA P n ops H (fuel + 1) listed Q ρ h := by
  obtain ⟨h1, h2, h3⟩ := kt hc
  obtain ⟨e1, e2⟩ := Prod.mk.inj e
  obtain ⟨_, _, h4, h5, h6⟩ := gd_of e1
  exact wpA_pass hi e2 h1 h2 h3 (wt_bool h4 h5 h6 (vbool hv g) hb) hQ hk
theorem qT (i kk : Nat) (p : Hp → Prop) (hi : ops[i]? = some o) (e : (o.guard, o.dst) = (none, some d)) (hp : p h) (hy : ∀ h', p h' → Yl P ρ o h' v) (hk : wpA P n ops ((kk, p) :: H) fuel (listed.setIfInBounds i true) Q (ρ.upd d v) h)
    (hc : (Nat.blt d n && canTake ops listed i kk && noLook ((kk, p) :: H) i) = true := by kernel_rfl) (hQ : ∀ c ρ ρ' h, Q (.panic c) ρ h → Q (.panic c) ρ' h := by exact fun _ _ _ _ h => h) : wpA P n ops H (fuel + 1) listed Q ρ h := by
  simp only [Bool.and_eq_true] at hc
  exact wpA_take p hi (Prod.mk.inj e).2 hc.1.1 hc.1.2 hc.2 (wt_none (Prod.mk.inj e).1) hQ hp hy hk
theorem qt (hr : Region.ready .any ops listed = []) (hq : Q .normal ρ h) : wpA P n ops H fuel listed Q ρ h := wpA_done hr hq
theorem qc {c : Operand} {x y : Code} {t : Bool} {A B : Prop} (hc : ρ.ev c = .bool t) (hf : If t A B) (hx : A → wpE P n x Q ρ h) (hy : B → wpE P n y Q ρ h) : wpE P n (.cond c x y) Q ρ h := wpE_cond hc hf hx hy
end
end Lf
end Go
