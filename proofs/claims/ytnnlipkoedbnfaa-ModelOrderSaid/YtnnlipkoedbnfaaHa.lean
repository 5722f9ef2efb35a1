/- A kit for heaps, and Go's stable sort by its formula. -/
import Derived.Test.YtnnlipkoedbnfaaTf
import Derived.Test.YtnnlipkoedbnfaaTm
set_option linter.unusedVariables false
namespace Go
namespace Lf
variable {h0 hA h h' : Hp} {bs bs' : List Addr} {S : Type} {e : Elt S} {s s' src : Sl} {l xs : List S}
/-- the place of an element -/
def Pl (s : Sl) (sz : Nat) (p : Addr) (n : Nat) : Prop := ∃ a, s.a = some a ∧ p = a.add (n * sz)
theorem Own.some (o : Own e h s l) (hl : l ≠ []) : ∃ b T rest, s.a = Option.some ⟨b, 0, none⟩ ∧ h[b]? = Option.some (.cells ((l.map e.cells).flatten ++ rest).toArray T) ∧ rest.length = (s.cap - s.len) * e.sz ∧ s.len ≤ s.cap := by
  rcases o.arr with ⟨_, h1, _⟩ | h1
  · exact (hl h1).elim
  · exact h1
theorem own_ix {i : Int} {n : Nat} {K : Addr → Prop} (o : Own e h s l) (hi : i = (n : Int)) (hn : n < l.length) (k : ∀ p, Pl s e.sz p n → K p) : Ix s i e.sz K := by
  obtain ⟨b, T, rest, h1, h2, h3, h4⟩ := o.some (by intro h; simp [h] at hn)
  subst hi
  have := o.len
  exact ⟨_, h1, by omega, by omega, k _ ⟨_, h1, by simp⟩⟩
theorem own_ld {p : Addr} {n : Nat} {x : S} {K : S → Prop} (o : Own e h s l) (hp : Pl s e.sz p n) (hx : l[n]? = some x) (k : K x) : LdA e.cells h p K := by
  obtain ⟨a, ha, rfl⟩ := hp
  obtain ⟨a', h1, _, h3⟩ := o.rows.2 n x hx
  rw [ha] at h1; cases h1
  exact ⟨x, h3, k⟩
theorem own_st {p : Addr} {n : Nat} {x : S} {K : Hp → Prop} (o : Own e h s l) (hp : Pl s e.sz p n) (hn : n < l.length) (k : ∀ h', Ag s.blk h h' → Own e h' s (l.set n x) → K h') : StA h p (e.cells x) K := by
  obtain ⟨b, T, rest, h1, h2, h3, h4⟩ := o.some (by intro h; simp [h] at hn)
  obtain ⟨a, ha, rfl⟩ := hp
  rw [ha] at h1; cases h1
  have hlt := (Array.getElem?_eq_some_iff.1 h2).1
  have hl1 : (l.take n).length = n := by simp; omega
  have hsplit : l = l.take n ++ (l[n] :: l.drop (n + 1)) := by simp
  have hfl : (l.map e.cells).flatten = ((l.take n).map e.cells).flatten ++ (e.cells l[n] ++ ((l.drop (n + 1)).map e.cells).flatten) := by
    conv => lhs; rw [hsplit]
    rw [List.map_append, List.flatten_append, List.map_cons, List.flatten_cons]
  have hA : (((l.take n).map e.cells).flatten).length = n * e.sz := by rw [flatten_len, hl1]
  have hxl := e.len x
  have hnl := e.len l[n]
  have hput : put ((l.map e.cells).flatten ++ rest) (n * e.sz) (e.cells x) = ((l.set n x).map e.cells).flatten ++ rest := by
    have := put_mid (e.cells x) ((l.take n).map e.cells).flatten (e.cells l[n]) (((l.drop (n + 1)).map e.cells).flatten ++ rest) (by rw [hxl, hnl])
    rw [hA] at this
    rw [hfl]
    simp only [List.append_assoc] at this ⊢
    rw [this]
    rw [List.set_eq_take_append_cons_drop, if_pos hn]
    simp
  refine ⟨fun j hj => ⟨?_, ?_⟩, ?_⟩
  · rw [flat_add, flat_add, Nat.zero_add]
    have hb : n * e.sz + j < ((l.map e.cells).flatten ++ rest).length := by
      rw [List.length_append, flatten_len]
      have : (n + 1) * e.sz ≤ l.length * e.sz := Nat.mul_le_mul_right _ hn
      rw [Nat.add_mul] at this
      omega
    exact ⟨((l.map e.cells).flatten ++ rest)[n * e.sz + j], by simp only [Hp.cell?, h2]; simp⟩
  · rw [flat_add, flat_add]; simp [Hp.frozen?, h2]
  · rw [setCells_has (b := ⟨b, 0, none⟩) (T := T) rfl rfl (e.cells x) h _ (n * e.sz) 0 h2, Nat.add_zero, hput]
    refine k _ ?_ ⟨by simp [o.len], .inr ⟨b, T, rest, ha, by simp [hlt], h3, h4⟩⟩
    have : Ag [b] h (h.setIfInBounds b (.cells (((l.set n x).map e.cells).flatten ++ rest).toArray T)) := .set
    exact this.weak (by simp [Sl.blk, ha])
end Lf
end Go
namespace Go
namespace Lf
variable {h h' : Hp} {S : Type} {e : Elt S} {s : Sl} {l : List S}
/-- a store to a part of an element -/
theorem own_st1 {p : Addr} {n off : Nat} {x x' : S} {u v : Value} {K : Hp → Prop} (o : Own e h s l) (hp : Pl s e.sz p n) (hx : l[n]? = Option.some x) (hu : (e.cells x)[off]? = Option.some u) (hc : (e.cells x).set off v = e.cells x')
    (k : ∀ h', Ag s.blk h h' → Own e h' s (l.set n x') → K h') : St h (p.add off) v K := by
  have hn : n < l.length := (List.getElem?_eq_some_iff.1 hx).1
  obtain ⟨b, T, rest, h1, h2, h3, h4⟩ := o.some (by intro h; simp [h] at hn)
  obtain ⟨a, ha, rfl⟩ := hp
  rw [ha] at h1; cases h1
  have hlt := (Array.getElem?_eq_some_iff.1 h2).1
  have hl1 : (l.take n).length = n := by simp; omega
  have hxn : l[n] = x := by have := List.getElem?_eq_some_iff.1 hx; obtain ⟨_, h⟩ := this; exact h
  have hsplit : l = l.take n ++ (x :: l.drop (n + 1)) := by rw [← hxn]; simp
  have hfl : (l.map e.cells).flatten = ((l.take n).map e.cells).flatten ++ (e.cells x ++ ((l.drop (n + 1)).map e.cells).flatten) := by
    conv => lhs; rw [hsplit]
    rw [List.map_append, List.flatten_append, List.map_cons, List.flatten_cons]
  have hA : (((l.take n).map e.cells).flatten).length = n * e.sz := by rw [flatten_len, hl1]
  have hoff : off < (e.cells x).length := (List.getElem?_eq_some_iff.1 hu).1
  have hset : ((l.map e.cells).flatten ++ rest).set (n * e.sz + off) v = ((l.set n x').map e.cells).flatten ++ rest := by
    rw [hfl, List.append_assoc, List.set_append_right _ _ (by rw [hA]; omega), hA, Nat.add_sub_cancel_left, List.append_assoc, List.set_append_left _ _ hoff, hc]
    rw [List.set_eq_take_append_cons_drop, if_pos hn, List.map_append, List.flatten_append, List.map_cons, List.flatten_cons]
    simp only [List.append_assoc]
  have hcell : Hp.cell? h ((⟨b, 0, none⟩ : Addr).add (n * e.sz + off)) = Option.some u := by
    rw [flat_add, Nat.zero_add]
    simp only [Hp.cell?, h2, Option.isSome_none, Bool.false_eq_true, if_false, List.getElem?_toArray]
    rw [hfl, List.append_assoc, List.getElem?_append_right (by rw [hA]; omega), hA, Nat.add_sub_cancel_left, List.append_assoc, List.getElem?_append_left hoff]
    exact hu
  rw [add_add]
  refine ⟨⟨u, hcell⟩, by rw [flat_add]; simp [Hp.frozen?, h2], ?_⟩
  rw [setCell_has (b := ⟨b, 0, none⟩) (T := T) rfl rfl h2, hset]
  refine k _ ?_ ⟨by simp [o.len], .inr ⟨b, T, rest, ha, by simp [hlt], h3, h4⟩⟩
  have : Ag [b] h (h.setIfInBounds b (.cells (((l.set n x').map e.cells).flatten ++ rest).toArray T)) := .set
  exact this.weak (by simp [Sl.blk, ha])
end Lf
end Go
namespace Go
namespace Lf
section
variable {S : Type} (e : Elt S) (by_ : Nat) (z : S)
def slices_Grow_G (a0 : Sl) (a1 : Int) (Q : Sl → Hp → Prop)  (h : Hp) : Prop :=
  J (fun (x1 : Unit) h3 =>
      J (fun (x4 : Sl) h6 =>
          Q x4 h6
      ) fun K5 =>
      If (decide ((IntKind.wrap .i64 (a1 - (IntKind.wrap .i64 ((a0.cap : Int) - (a0.len : Int))))) > (0 : Int))) (
        SlSl a0 0 (a0.cap : Int) e.sz fun v8 =>
        AppZ h3 v8 (IntKind.wrap .i64 (a1 - (IntKind.wrap .i64 ((a0.cap : Int) - (a0.len : Int))))) (e.cells z) by_ fun v9 h10 =>
        SlSl v9 0 (a0.len : Int) e.sz fun v12 =>
        K5 v12 h10
      ) (
        K5 a0 h3
      )
  ) fun K2 =>
  If (decide (a1 < (0 : Int))) (
    False
  ) (
    K2 () h
  )

def slices_Concat_G (a0 : Sl) (Q : Sl → Hp → Prop)  (h : Hp) : Prop :=
  LoopF (σ := Int × Int) (0, 0) h fun u1 h3 L2 =>
    If (decide (u1.2 < (a0.len : Int))) (
      J (fun (x5 : Int) h7 =>
          L2 (x5, IntKind.wrap .i64 (u1.2 + (1 : Int))) h7
      ) fun K6 =>
      Ix a0 u1.2 1 fun p8 =>
      Ld Sl.enc h3 p8 fun v10 =>
      If (decide ((IntKind.wrap .i64 (u1.1 + (v10.len : Int))) < (0 : Int))) (
        False
      ) (
        K6 (IntKind.wrap .i64 (u1.1 + (v10.len : Int))) h3
      )
    ) (
      slices_Grow_G e by_ z Sl.nil u1.1 (fun r12 h13 =>
        LoopF (σ := Sl × Int) (r12, 0) h13 fun u14 h16 L15 =>
          If (decide (u14.2 < (a0.len : Int))) (
            Ix a0 u14.2 1 fun p18 =>
            Ld Sl.enc h16 p18 fun v20 =>
            AppS h16 u14.1 v20 e.sz by_ fun v22 h23 =>
            L15 (v22, IntKind.wrap .i64 (u14.2 + (1 : Int))) h23
          ) (
            Q u14.1 h16
          )
      ) h3
    )

def slices_insertionSortCmpFunc_G (a0 : Sl) (a1 : Int) (a2 : Int) (a3_f : S → S → (Int → Hp → Prop) → Hp → Prop) (Q : Unit → Hp → Prop)  (h : Hp) : Prop :=
  LoopF (σ := Int) (IntKind.wrap .i64 (a1 + (1 : Int))) h fun u1 h3 L2 =>
    If (decide (u1 < a2)) (
      LoopF (σ := Int) u1 h3 fun u5 h7 L6 =>
        J (fun (x9 : Bool) h11 =>
            If x9 (
              Ix a0 (IntKind.wrap .i64 (u5 - (1 : Int))) e.sz fun p12 =>
              LdA e.cells h11 p12 fun v14 =>
              Ix a0 u5 e.sz fun p16 =>
              LdA e.cells h11 p16 fun v18 =>
              Ix a0 u5 e.sz fun p20 =>
              StA h11 p20 (e.cells v14) fun h22 =>
              Ix a0 (IntKind.wrap .i64 (u5 - (1 : Int))) e.sz fun p23 =>
              StA h22 p23 (e.cells v18) fun h25 =>
              L6 (IntKind.wrap .i64 (u5 - (1 : Int))) h25
            ) (
              L2 (IntKind.wrap .i64 (u1 + (1 : Int))) h11
            )
        ) fun K10 =>
        If (decide (u5 > a1)) (
          Ix a0 u5 e.sz fun p27 =>
          LdA e.cells h7 p27 fun v29 =>
          Ix a0 (IntKind.wrap .i64 (u5 - (1 : Int))) e.sz fun p31 =>
          LdA e.cells h7 p31 fun v33 =>
          a3_f v29 v33 (fun r35 h36 =>
            K10 (decide (r35 < (0 : Int))) h36
          ) h7
        ) (
          K10 false h7
        )
    ) (
      Q () h3
    )

def slices_swapRangeCmpFunc_G (a0 : Sl) (a1 : Int) (a2 : Int) (a3 : Int) (a4_f : S → S → (Int → Hp → Prop) → Hp → Prop) (Q : Unit → Hp → Prop)  (h : Hp) : Prop :=
  LoopF (σ := Int) 0 h fun u1 h3 L2 =>
    If (decide (u1 < a3)) (
      Ix a0 (IntKind.wrap .i64 (a2 + u1)) e.sz fun p5 =>
      LdA e.cells h3 p5 fun v7 =>
      Ix a0 (IntKind.wrap .i64 (a1 + u1)) e.sz fun p9 =>
      LdA e.cells h3 p9 fun v11 =>
      Ix a0 (IntKind.wrap .i64 (a1 + u1)) e.sz fun p13 =>
      StA h3 p13 (e.cells v7) fun h15 =>
      Ix a0 (IntKind.wrap .i64 (a2 + u1)) e.sz fun p16 =>
      StA h15 p16 (e.cells v11) fun h18 =>
      L2 (IntKind.wrap .i64 (u1 + (1 : Int))) h18
    ) (
      Q () h3
    )

def slices_rotateCmpFunc_G (a0 : Sl) (a1 : Int) (a2 : Int) (a3 : Int) (a4_f : S → S → (Int → Hp → Prop) → Hp → Prop) (Q : Unit → Hp → Prop)  (h : Hp) : Prop :=
  LoopF (σ := Int × Int) (IntKind.wrap .i64 (a2 - a1), IntKind.wrap .i64 (a3 - a2)) h fun u1 h3 L2 =>
    If (u1.1 != u1.2) (
      If (decide (u1.1 > u1.2)) (
        slices_swapRangeCmpFunc_G e a0 (IntKind.wrap .i64 (a2 - u1.1)) a2 u1.2 a4_f (fun r5 h6 =>
          L2 (IntKind.wrap .i64 (u1.1 - u1.2), u1.2) h6
        ) h3
      ) (
        slices_swapRangeCmpFunc_G e a0 (IntKind.wrap .i64 (a2 - u1.1)) (IntKind.wrap .i64 ((IntKind.wrap .i64 (a2 + u1.2)) - u1.1)) u1.1 a4_f (fun r7 h8 =>
          L2 (u1.1, IntKind.wrap .i64 (u1.2 - u1.1)) h8
        ) h3
      )
    ) (
      slices_swapRangeCmpFunc_G e a0 (IntKind.wrap .i64 (a2 - u1.1)) a2 u1.1 a4_f (fun r9 h10 =>
        Q () h10
      ) h3
    )

def slices_symMergeCmpFunc_G : Nat → Sl → Int → Int → Int → (S → S → (Int → Hp → Prop) → Hp → Prop) → (Unit → Hp → Prop) → Hp → Prop
  | 0, _, _, _, _, _, _, _ => False
  | k + 1, a0, a1, a2, a3, a4_f, Q, h =>
    If ((IntKind.wrap .i64 (a2 - a1)) == (1 : Int)) (
      LoopF (σ := Int × Int) (a2, a3) h fun u1 h3 L2 =>
        If (decide (u1.1 < u1.2)) (
          Ix a0 (IntKind.wrap .i64 (iShr .u64 (IntKind.wrap .u64 (IntKind.wrap .i64 (u1.1 + u1.2))) (1 : Int))) e.sz fun p5 =>
          LdA e.cells h3 p5 fun v7 =>
          Ix a0 a1 e.sz fun p9 =>
          LdA e.cells h3 p9 fun v11 =>
          a4_f v7 v11 (fun r13 h14 =>
            If (decide (r13 < (0 : Int))) (
              L2 (IntKind.wrap .i64 ((IntKind.wrap .i64 (iShr .u64 (IntKind.wrap .u64 (IntKind.wrap .i64 (u1.1 + u1.2))) (1 : Int))) + (1 : Int)), u1.2) h14
            ) (
              L2 (u1.1, IntKind.wrap .i64 (iShr .u64 (IntKind.wrap .u64 (IntKind.wrap .i64 (u1.1 + u1.2))) (1 : Int))) h14
            )
          ) h3
        ) (
          LoopF (σ := Int) a1 h3 fun u15 h17 L16 =>
            If (decide (u15 < (IntKind.wrap .i64 (u1.1 - (1 : Int))))) (
              Ix a0 (IntKind.wrap .i64 (u15 + (1 : Int))) e.sz fun p19 =>
              LdA e.cells h17 p19 fun v21 =>
              Ix a0 u15 e.sz fun p23 =>
              LdA e.cells h17 p23 fun v25 =>
              Ix a0 u15 e.sz fun p27 =>
              StA h17 p27 (e.cells v21) fun h29 =>
              Ix a0 (IntKind.wrap .i64 (u15 + (1 : Int))) e.sz fun p30 =>
              StA h29 p30 (e.cells v25) fun h32 =>
              L16 (IntKind.wrap .i64 (u15 + (1 : Int))) h32
            ) (
              Q () h17
            )
        )
    ) (
      If ((IntKind.wrap .i64 (a3 - a2)) == (1 : Int)) (
        LoopF (σ := Int × Int) (a1, a2) h fun u33 h35 L34 =>
          If (decide (u33.1 < u33.2)) (
            Ix a0 a2 e.sz fun p37 =>
            LdA e.cells h35 p37 fun v39 =>
            Ix a0 (IntKind.wrap .i64 (iShr .u64 (IntKind.wrap .u64 (IntKind.wrap .i64 (u33.1 + u33.2))) (1 : Int))) e.sz fun p41 =>
            LdA e.cells h35 p41 fun v43 =>
            a4_f v39 v43 (fun r45 h46 =>
              If (!(decide (r45 < (0 : Int)))) (
                L34 (IntKind.wrap .i64 ((IntKind.wrap .i64 (iShr .u64 (IntKind.wrap .u64 (IntKind.wrap .i64 (u33.1 + u33.2))) (1 : Int))) + (1 : Int)), u33.2) h46
              ) (
                L34 (u33.1, IntKind.wrap .i64 (iShr .u64 (IntKind.wrap .u64 (IntKind.wrap .i64 (u33.1 + u33.2))) (1 : Int))) h46
              )
            ) h35
          ) (
            LoopF (σ := Int) a2 h35 fun u47 h49 L48 =>
              If (decide (u47 > u33.1)) (
                Ix a0 (IntKind.wrap .i64 (u47 - (1 : Int))) e.sz fun p51 =>
                LdA e.cells h49 p51 fun v53 =>
                Ix a0 u47 e.sz fun p55 =>
                LdA e.cells h49 p55 fun v57 =>
                Ix a0 u47 e.sz fun p59 =>
                StA h49 p59 (e.cells v53) fun h61 =>
                Ix a0 (IntKind.wrap .i64 (u47 - (1 : Int))) e.sz fun p62 =>
                StA h61 p62 (e.cells v57) fun h64 =>
                L48 (IntKind.wrap .i64 (u47 - (1 : Int))) h64
              ) (
                Q () h49
              )
          )
      ) (
        J (fun (x65 : Int × Int) h67 =>
            LoopF (σ := Int × Int) (x65.1, x65.2) h67 fun u68 h70 L69 =>
              If (decide (u68.1 < u68.2)) (
                Ix a0 (IntKind.wrap .i64 ((IntKind.wrap .i64 ((IntKind.wrap .i64 ((IntKind.wrap .i64 (iShr .u64 (IntKind.wrap .u64 (IntKind.wrap .i64 (a1 + a3))) (1 : Int))) + a2)) - (1 : Int))) - (IntKind.wrap .i64 (iShr .u64 (IntKind.wrap .u64 (IntKind.wrap .i64 (u68.1 + u68.2))) (1 : Int))))) e.sz fun p72 =>
                LdA e.cells h70 p72 fun v74 =>
                Ix a0 (IntKind.wrap .i64 (iShr .u64 (IntKind.wrap .u64 (IntKind.wrap .i64 (u68.1 + u68.2))) (1 : Int))) e.sz fun p76 =>
                LdA e.cells h70 p76 fun v78 =>
                a4_f v74 v78 (fun r80 h81 =>
                  If (!(decide (r80 < (0 : Int)))) (
                    L69 (IntKind.wrap .i64 ((IntKind.wrap .i64 (iShr .u64 (IntKind.wrap .u64 (IntKind.wrap .i64 (u68.1 + u68.2))) (1 : Int))) + (1 : Int)), u68.2) h81
                  ) (
                    L69 (u68.1, IntKind.wrap .i64 (iShr .u64 (IntKind.wrap .u64 (IntKind.wrap .i64 (u68.1 + u68.2))) (1 : Int))) h81
                  )
                ) h70
              ) (
                J (fun (x82 : Unit) h84 =>
                    J (fun (x85 : Unit) h87 =>
                        J (fun (x88 : Bool) h90 =>
                            If x88 (
                              slices_symMergeCmpFunc_G k a0 (IntKind.wrap .i64 (iShr .u64 (IntKind.wrap .u64 (IntKind.wrap .i64 (a1 + a3))) (1 : Int))) (IntKind.wrap .i64 ((IntKind.wrap .i64 ((IntKind.wrap .i64 (iShr .u64 (IntKind.wrap .u64 (IntKind.wrap .i64 (a1 + a3))) (1 : Int))) + a2)) - u68.1)) a3 a4_f (fun r91 h92 =>
                                Q () h92
                              ) h90
                            ) (
                              Q () h90
                            )
                        ) fun K89 =>
                        If (decide ((IntKind.wrap .i64 (iShr .u64 (IntKind.wrap .u64 (IntKind.wrap .i64 (a1 + a3))) (1 : Int))) < (IntKind.wrap .i64 ((IntKind.wrap .i64 ((IntKind.wrap .i64 (iShr .u64 (IntKind.wrap .u64 (IntKind.wrap .i64 (a1 + a3))) (1 : Int))) + a2)) - u68.1)))) (
                          K89 (decide ((IntKind.wrap .i64 ((IntKind.wrap .i64 ((IntKind.wrap .i64 (iShr .u64 (IntKind.wrap .u64 (IntKind.wrap .i64 (a1 + a3))) (1 : Int))) + a2)) - u68.1)) < a3)) h87
                        ) (
                          K89 false h87
                        )
                    ) fun K86 =>
                    J (fun (x94 : Bool) h96 =>
                        If x94 (
                          slices_symMergeCmpFunc_G k a0 a1 u68.1 (IntKind.wrap .i64 (iShr .u64 (IntKind.wrap .u64 (IntKind.wrap .i64 (a1 + a3))) (1 : Int))) a4_f (fun r97 h98 =>
                            K86 () h98
                          ) h96
                        ) (
                          K86 () h96
                        )
                    ) fun K95 =>
                    If (decide (a1 < u68.1)) (
                      K95 (decide (u68.1 < (IntKind.wrap .i64 (iShr .u64 (IntKind.wrap .u64 (IntKind.wrap .i64 (a1 + a3))) (1 : Int))))) h84
                    ) (
                      K95 false h84
                    )
                ) fun K83 =>
                J (fun (x100 : Bool) h102 =>
                    If x100 (
                      slices_rotateCmpFunc_G e a0 u68.1 a2 (IntKind.wrap .i64 ((IntKind.wrap .i64 ((IntKind.wrap .i64 (iShr .u64 (IntKind.wrap .u64 (IntKind.wrap .i64 (a1 + a3))) (1 : Int))) + a2)) - u68.1)) a4_f (fun r103 h104 =>
                        K83 () h104
                      ) h102
                    ) (
                      K83 () h102
                    )
                ) fun K101 =>
                If (decide (u68.1 < a2)) (
                  K101 (decide (a2 < (IntKind.wrap .i64 ((IntKind.wrap .i64 ((IntKind.wrap .i64 (iShr .u64 (IntKind.wrap .u64 (IntKind.wrap .i64 (a1 + a3))) (1 : Int))) + a2)) - u68.1)))) h70
                ) (
                  K101 false h70
                )
              )
        ) fun K66 =>
        If (decide (a2 > (IntKind.wrap .i64 (iShr .u64 (IntKind.wrap .u64 (IntKind.wrap .i64 (a1 + a3))) (1 : Int))))) (
          K66 (IntKind.wrap .i64 ((IntKind.wrap .i64 ((IntKind.wrap .i64 (iShr .u64 (IntKind.wrap .u64 (IntKind.wrap .i64 (a1 + a3))) (1 : Int))) + a2)) - a3), IntKind.wrap .i64 (iShr .u64 (IntKind.wrap .u64 (IntKind.wrap .i64 (a1 + a3))) (1 : Int))) h
        ) (
          K66 (a1, a2) h
        )
      )
    )

def slices_stableCmpFunc_G (a0 : Sl) (a1 : Int) (a2_f : S → S → (Int → Hp → Prop) → Hp → Prop) (Q : Unit → Hp → Prop)  (h : Hp) : Prop :=
  LoopF (σ := Int × Int) (0, 20) h fun u1 h3 L2 =>
    If (decide (u1.2 ≤ a1)) (
      slices_insertionSortCmpFunc_G e a0 u1.1 u1.2 a2_f (fun r5 h6 =>
        L2 (u1.2, IntKind.wrap .i64 (u1.2 + (20 : Int))) h6
      ) h3
    ) (
      slices_insertionSortCmpFunc_G e a0 u1.1 a1 a2_f (fun r7 h8 =>
        LoopF (σ := Int) 20 h8 fun u9 h11 L10 =>
          If (decide (u9 < a1)) (
            LoopF (σ := Int × Int) (0, IntKind.wrap .i64 ((2 : Int) * u9)) h11 fun u13 h15 L14 =>
              If (decide (u13.2 ≤ a1)) (
                Rec fun k0 => slices_symMergeCmpFunc_G e k0 a0 u13.1 (IntKind.wrap .i64 (u13.1 + u9)) u13.2 a2_f (fun r17 h18 =>
                  L14 (u13.2, IntKind.wrap .i64 (u13.2 + (IntKind.wrap .i64 ((2 : Int) * u9)))) h18
                ) h15
              ) (
                J (fun (x19 : Unit) h21 =>
                    L10 (IntKind.wrap .i64 (u9 * (2 : Int))) h21
                ) fun K20 =>
                If (decide ((IntKind.wrap .i64 (u13.1 + u9)) < a1)) (
                  Rec fun k0 => slices_symMergeCmpFunc_G e k0 a0 u13.1 (IntKind.wrap .i64 (u13.1 + u9)) a1 a2_f (fun r22 h23 =>
                    K20 () h23
                  ) h15
                ) (
                  K20 () h15
                )
              )
          ) (
            Q () h11
          )
      ) h3
    )

def slices_SortStableFunc_G (a0 : Sl) (a1_f : S → S → (Int → Hp → Prop) → Hp → Prop) (Q : Unit → Hp → Prop)  (h : Hp) : Prop :=
  slices_stableCmpFunc_G e a0 (a0.len : Int) a1_f (fun r1 h2 =>
    Q () h2
  ) h

def join_merged_G (a0 : Sl) (a1 : Sl) (a2_f : S → S → (Int → Hp → Prop) → Hp → Prop) (a3_f : S → S → (S → Hp → Prop) → Hp → Prop) (Q : Sl → Hp → Prop)  (h : Hp) : Prop :=
  Al h [Sl.enc a0, Sl.enc a1] fun b1 h2 =>
  slices_Concat_G e by_ z (Sl.mk (some b1) 2 2) (fun r3 h4 =>
    slices_SortStableFunc_G e r3 a2_f (fun r5 h6 =>
      LoopF (σ := Sl × Int) (Sl.nil, 0) h6 fun u7 h9 L8 =>
        If (decide (u7.2 < (r3.len : Int))) (
          J (fun (x11 : Sl) h13 =>
              L8 (x11, IntKind.wrap .i64 (u7.2 + (1 : Int))) h13
          ) fun K12 =>
          Ix r3 u7.2 e.sz fun p14 =>
          LdA e.cells h9 p14 fun v16 =>
          AlX h9 fun b18 h19 =>
          StX h19 b18 fun h20 =>
          J (fun (x21 : Bool) h23 =>
              If x21 (
                Ix u7.1 (IntKind.wrap .i64 ((u7.1.len : Int) - (1 : Int))) e.sz fun p24 =>
                LdA e.cells h23 p24 fun v26 =>
                a3_f v26 v16 (fun r28 h29 =>
                  Ix u7.1 (IntKind.wrap .i64 ((u7.1.len : Int) - (1 : Int))) e.sz fun p30 =>
                  StA h29 p30 (e.cells r28) fun h32 =>
                  K12 u7.1 h32
                ) h23
              ) (
                Al h23 (List.flatten [e.cells v16]) fun b33 h34 =>
                AppS h34 u7.1 (Sl.mk (some b33) 1 1) e.sz by_ fun v35 h36 =>
                K12 v35 h36
              )
          ) fun K22 =>
          If (decide ((u7.1.len : Int) > (0 : Int))) (
            Ix u7.1 (IntKind.wrap .i64 ((u7.1.len : Int) - (1 : Int))) e.sz fun p38 =>
            LdA e.cells h20 p38 fun v40 =>
            a2_f v40 v16 (fun r42 h43 =>
              KpX h20 h43 [b18] <|
              K22 (r42 == (0 : Int)) h43
            ) h20
          ) (
            K22 false h20
          )
        ) (
          Q u7.1 h9
        )
    ) h4
  ) h2

end
end Lf
end Go
namespace Go.Lf
open Go.Crn
def ePiece : Elt S_api_Piece := ⟨S_api_Piece.cells, 4, fun _ => rfl, fun _ => rfl⟩
theorem symMerge_Piece (k : Nat) : @slices_symMergeCmpFunc_api_Piece k = slices_symMergeCmpFunc_G ePiece k := by
  induction k with
  | zero => rfl
  | succ k ih =>
    funext a0 a1 a2 a3 f Q h
    unfold slices_symMergeCmpFunc_api_Piece slices_symMergeCmpFunc_G
    rw [ih]
    rfl
theorem stable_Piece : @slices_stableCmpFunc_api_Piece = slices_stableCmpFunc_G ePiece := by
  funext a0 a1 f Q h
  unfold slices_stableCmpFunc_api_Piece slices_stableCmpFunc_G
  simp only [symMerge_Piece]
  rfl
theorem sort_Piece : @slices_SortStableFunc_api_Piece_api_Piece = slices_SortStableFunc_G ePiece := by
  funext a0 f Q h
  unfold slices_SortStableFunc_api_Piece_api_Piece slices_SortStableFunc_G
  rw [stable_Piece]
theorem merged_Piece : @join_merged_api_Piece = join_merged_G ePiece 40 (S_api_Piece.mk 0 (S_api_Stamp.mk 0 0) []) := by
  funext a0 a1 f g Q h
  unfold join_merged_api_Piece join_merged_G
  rw [sort_Piece]
  rfl
def eXattr : Elt S_api_Xattr := ⟨S_api_Xattr.cells, 5, fun _ => rfl, fun _ => rfl⟩
theorem symMerge_Xattr (k : Nat) : @slices_symMergeCmpFunc_api_Xattr k = slices_symMergeCmpFunc_G eXattr k := by
  induction k with
  | zero => rfl
  | succ k ih =>
    funext a0 a1 a2 a3 f Q h
    unfold slices_symMergeCmpFunc_api_Xattr slices_symMergeCmpFunc_G
    rw [ih]
    rfl
theorem stable_Xattr : @slices_stableCmpFunc_api_Xattr = slices_stableCmpFunc_G eXattr := by
  funext a0 a1 f Q h
  unfold slices_stableCmpFunc_api_Xattr slices_stableCmpFunc_G
  simp only [symMerge_Xattr]
  rfl
theorem sort_Xattr : @slices_SortStableFunc_api_Xattr_api_Xattr = slices_SortStableFunc_G eXattr := by
  funext a0 f Q h
  unfold slices_SortStableFunc_api_Xattr_api_Xattr slices_SortStableFunc_G
  rw [stable_Xattr]
theorem merged_Xattr : @join_merged_api_Xattr = join_merged_G eXattr 56 (S_api_Xattr.mk [] (S_api_Stamp.mk 0 0) [] false) := by
  funext a0 a1 f g Q h
  unfold join_merged_api_Xattr join_merged_G
  rw [sort_Xattr]
  rfl
def eInode : Elt S_api_Inode := ⟨S_api_Inode.cells, 13, fun _ => rfl, fun _ => rfl⟩
theorem symMerge_Inode (k : Nat) : @slices_symMergeCmpFunc_api_Inode k = slices_symMergeCmpFunc_G eInode k := by
  induction k with
  | zero => rfl
  | succ k ih =>
    funext a0 a1 a2 a3 f Q h
    unfold slices_symMergeCmpFunc_api_Inode slices_symMergeCmpFunc_G
    rw [ih]
    rfl
theorem stable_Inode : @slices_stableCmpFunc_api_Inode = slices_stableCmpFunc_G eInode := by
  funext a0 a1 f Q h
  unfold slices_stableCmpFunc_api_Inode slices_stableCmpFunc_G
  simp only [symMerge_Inode]
  rfl
theorem sort_Inode : @slices_SortStableFunc_api_Inode_api_Inode = slices_SortStableFunc_G eInode := by
  funext a0 f Q h
  unfold slices_SortStableFunc_api_Inode_api_Inode slices_SortStableFunc_G
  rw [stable_Inode]
theorem merged_Inode : @join_merged_api_Inode = join_merged_G eInode 144 (S_api_Inode.mk (S_api_Stamp.mk 0 0) 0 [] (S_api_Attr.mk (S_api_Stamp.mk 0 0) 0 0) (S_api_Size.mk (S_api_Stamp.mk 0 0) 0) Sl.nil Sl.nil) := by
  funext a0 a1 f g Q h
  unfold join_merged_api_Inode join_merged_G
  rw [sort_Inode]
  rfl
def eLink : Elt S_api_Link := ⟨S_api_Link.cells, 25, fun _ => rfl, fun _ => rfl⟩
theorem symMerge_Link (k : Nat) : @slices_symMergeCmpFunc_api_Link k = slices_symMergeCmpFunc_G eLink k := by
  induction k with
  | zero => rfl
  | succ k ih =>
    funext a0 a1 a2 a3 f Q h
    unfold slices_symMergeCmpFunc_api_Link slices_symMergeCmpFunc_G
    rw [ih]
    rfl
theorem stable_Link : @slices_stableCmpFunc_api_Link = slices_stableCmpFunc_G eLink := by
  funext a0 a1 f Q h
  unfold slices_stableCmpFunc_api_Link slices_stableCmpFunc_G
  simp only [symMerge_Link]
  rfl
theorem sort_Link : @slices_SortStableFunc_api_Link_api_Link = slices_SortStableFunc_G eLink := by
  funext a0 f Q h
  unfold slices_SortStableFunc_api_Link_api_Link slices_SortStableFunc_G
  rw [stable_Link]
theorem merged_Link : @join_merged_api_Link = join_merged_G eLink 208 (S_api_Link.mk (S_api_Stamp.mk 0 0) (S_api_Stamp.mk 0 0) (S_api_Stamp.mk 0 0) (S_api_Stamp.mk 0 0) [] (A8.mk 0 0 0 0 0 0 0 0) (A8.mk 0 0 0 0 0 0 0 0)) := by
  funext a0 a1 f g Q h
  unfold join_merged_api_Link join_merged_G
  rw [sort_Link]
  rfl
end Go.Lf
namespace Go
namespace Lf
/-! ## what a stable sort is -/
section
variable {S : Type}
/-- a strict order whose ties are an equivalence -/
structure Swo (lt : S → S → Bool) : Prop where
  irr : ∀ x, lt x x = false
  neg : ∀ x y z, lt x z = true → lt x y = true ∨ lt y z = true
  tr : ∀ x y z, lt x y = true → lt y z = true → lt x z = true
variable {lt : S → S → Bool}
theorem Swo.asym (w : Swo lt) {x y : S} (h : lt x y = true) : lt y x = false := by
  cases h2 : lt y x with
  | false => rfl
  | true => have := w.tr _ _ _ h h2; rw [w.irr] at this; cases this
/-- not greater -/
def Le (lt : S → S → Bool) (x y : S) : Prop := lt y x = false
theorem Swo.le_trans (w : Swo lt) {x y z : S} (h1 : Le lt x y) (h2 : Le lt y z) : Le lt x z := by
  unfold Le at *
  cases h : lt z x with
  | false => rfl
  | true => rcases w.neg z y x h with h3 | h3 <;> simp_all
theorem Swo.lt_le (w : Swo lt) {x y z : S} (h1 : lt x y = true) (h2 : Le lt y z) : lt x z = true := by
  rcases w.neg x z y h1 with h3 | h3
  · exact h3
  · unfold Le at h2; simp_all
theorem Swo.le_lt (w : Swo lt) {x y z : S} (h1 : Le lt x y) (h2 : lt y z = true) : lt x z = true := by
  rcases w.neg y x z h2 with h3 | h3
  · unfold Le at h1; simp_all
  · exact h3
def eqv (lt : S → S → Bool) (x y : S) : Bool := !lt x y && !lt y x
def Cls (lt : S → S → Bool) (a b : List S) : Prop := ∀ x, b.filter (eqv lt x) = a.filter (eqv lt x)
theorem Cls.refl {a : List S} : Cls lt a a := fun _ => rfl
theorem Cls.trans {a b c : List S} (h : Cls lt a b) (k : Cls lt b c) : Cls lt a c := fun x => (k x).trans (h x)
theorem Cls.app {a b c d : List S} (h : Cls lt a b) (k : Cls lt c d) : Cls lt (a ++ c) (b ++ d) := fun x => by rw [List.filter_append, List.filter_append, h x, k x]
theorem Cls.swap (w : Swo lt) {a b : List S} (h : ∀ x ∈ a, ∀ y ∈ b, lt y x = true) : Cls lt (a ++ b) (b ++ a) := fun z => by
  rw [List.filter_append, List.filter_append]
  by_cases ha : a.filter (eqv lt z) = []
  · rw [ha]; simp
  · by_cases hb : b.filter (eqv lt z) = []
    · rw [hb]; simp
    · exfalso
      obtain ⟨x, hx⟩ := List.exists_mem_of_ne_nil _ ha
      obtain ⟨y, hy⟩ := List.exists_mem_of_ne_nil _ hb
      have h1 := h x ((List.mem_filter.1 hx).1) y ((List.mem_filter.1 hy).1)
      have e1 := (List.mem_filter.1 hx).2
      have e2 := (List.mem_filter.1 hy).2
      simp only [eqv, Bool.and_eq_true, Bool.not_eq_true'] at e1 e2
      have := w.lt_le (x := y) (y := x) (z := z) h1 e1.1
      rw [e2.2] at this; cases this
structure SS (lt : S → S → Bool) (a b : List S) : Prop where
  sorted : b.Pairwise (Le lt)
  cls : Cls lt a b
theorem eqv_self (w : Swo lt) (x : S) : eqv lt x x = true := by simp [eqv, w.irr]
theorem Cls.mem (w : Swo lt) {a b : List S} (h : Cls lt a b) {x : S} : x ∈ b ↔ x ∈ a := by
  constructor
  · intro hx
    have : x ∈ b.filter (eqv lt x) := List.mem_filter.2 ⟨hx, eqv_self w x⟩
    rw [h x] at this
    exact (List.mem_filter.1 this).1
  · intro hx
    have : x ∈ a.filter (eqv lt x) := List.mem_filter.2 ⟨hx, eqv_self w x⟩
    rw [← h x] at this
    exact (List.mem_filter.1 this).1
/-- there is one such row at most -/
theorem SS.unique (w : Swo lt) : ∀ {b c : List S}, b.Pairwise (Le lt) → c.Pairwise (Le lt) → Cls lt b c → c = b
  | [], c, _, _, h => by
    cases c with
    | nil => rfl
    | cons y c => have := (h.mem w (x := y)).1 (by simp); simp at this
  | x :: b, [], _, _, h => by have := (h.mem w (x := x)).2 (by simp); simp at this
  | x :: b, y :: c, hb, hc, h => by
    have hx : x ∈ y :: c := (h.mem w).2 (by simp)
    have hy : y ∈ x :: b := (h.mem w).1 (by simp)
    have h1 : Le lt y x := by
      rcases List.mem_cons.1 hx with e | hx
      · subst e; exact w.irr _
      · exact (List.pairwise_cons.1 hc).1 x hx
    have h2 : Le lt x y := by
      rcases List.mem_cons.1 hy with e | hy
      · subst e; exact w.irr _
      · exact (List.pairwise_cons.1 hb).1 y hy
    have e : eqv lt x y = true := by unfold Le at h1 h2; simp [eqv, h1, h2]
    have hh := h x
    rw [List.filter_cons_of_pos e, List.filter_cons_of_pos (eqv_self w x)] at hh
    have exy : y = x := (List.cons.inj hh).1
    subst exy
    have : c = b := SS.unique w (List.pairwise_cons.1 hb).2 (List.pairwise_cons.1 hc).2 fun z => by
      have := h z
      rw [List.filter_cons, List.filter_cons] at this
      split at this
      · exact (List.cons.inj this).2
      · exact this
    rw [this]
end
/-! ## the sort of Go's library -/
section
variable {S : Type} {e : Elt S} {h h' : Hp} {s : Sl} {l : List S}
def PureF (f : S → S → (Int → Hp → Prop) → Hp → Prop) (c : S → S → Int) : Prop := ∀ x y Q h, (∀ h', Ext h h' → Q (c x y) h') → f x y Q h
def ltOf (c : S → S → Int) (x y : S) : Bool := decide (c x y < 0)
variable {f : S → S → (Int → Hp → Prop) → Hp → Prop} {c : S → S → Int}
theorem get_mid (A : List S) (x : S) (B : List S) : (A ++ x :: B)[A.length]? = some x := by simp
theorem set_mid (A : List S) (x y : S) (B : List S) : (A ++ x :: B).set A.length y = A ++ y :: B := by simp
theorem get_mid' {l A B : List S} {x : S} {n : Nat} (hl : l = A ++ x :: B) (hn : n = A.length) : l[n]? = some x := by rw [hl, hn]; simp
theorem set_mid' {l A B : List S} {x y : S} {n : Nat} (hl : l = A ++ x :: B) (hn : n = A.length) : l.set n y = A ++ y :: B := by rw [hl, hn]; simp
/-- two elements change places -/
theorem swap_ {i j : Int} {m n : Nat} {x y : S} {K : Hp → Prop} (o : Own e h s l) (hi : i = (m : Int)) (hj : j = (n : Int)) (hm : l[m]? = some x) (hn : l[n]? = some y)
    (k : ∀ h', Ag s.blk h h' → Own e h' s ((l.set m y).set n x) → K h') :
    Ix s i e.sz fun p => LdA e.cells h p fun v => Ix s j e.sz fun q => LdA e.cells h q fun w => Ix s j e.sz fun q' => StA h q' (e.cells v) fun h2 => Ix s i e.sz fun p' => StA h2 p' (e.cells w) K := by
  have hml : m < l.length := (List.getElem?_eq_some_iff.1 hm).1
  have hnl : n < l.length := (List.getElem?_eq_some_iff.1 hn).1
  refine own_ix o hi hml fun p hp => own_ld o hp hm <| own_ix o hj hnl fun q hq => own_ld o hq hn <| own_ix o hj hnl fun q' hq' => own_st o hq' hnl fun h2 x2 o2 => own_ix o2 hi (by simpa using hml) fun p' hp' => own_st o2 hp' (by simpa using hml) fun h3 x3 o3 => ?_
  refine k h3 (x2.trans x3) ?_
  have : (l.set n x).set m y = (l.set m y).set n x := by
    by_cases hmn : m = n
    · subst hmn
      rw [hm] at hn; cases hn; rfl
    · rw [List.set_comm _ _ (Ne.symm hmn)]
  rwa [this] at o3
end
end Lf
end Go
namespace Go
namespace Lf
variable {S : Type} {e : Elt S} {h h' : Hp} {s : Sl} {l : List S} {f : S → S → (Int → Hp → Prop) → Hp → Prop} {c : S → S → Int}
theorem SS.nil {lt : S → S → Bool} : SS lt [] [] := ⟨.nil, .refl⟩
theorem SS.one {lt : S → S → Bool} {x : S} : SS lt [x] [x] := ⟨by simp, .refl⟩
/-- one more, put where it stands -/
theorem SS.ins {lt : S → S → Bool} (w : Swo lt) {X0 X1 X2 : List S} {y : S} (hs : SS lt X0 (X1 ++ X2)) (h2 : ∀ z ∈ X2, lt y z = true) (h1 : ∀ z ∈ X1, Le lt z y) : SS lt (X0 ++ [y]) (X1 ++ y :: X2) := by
  obtain ⟨hp, hc⟩ := hs
  rw [List.pairwise_append] at hp
  refine ⟨?_, ?_⟩
  · rw [List.pairwise_append, List.pairwise_cons]
    refine ⟨hp.1, ⟨fun z hz => w.asym (h2 z hz), hp.2.1⟩, fun a ha b hb => ?_⟩
    rcases List.mem_cons.1 hb with rfl | hb
    · exact h1 a ha
    · exact hp.2.2 a ha b hb
  · have h3 : Cls lt (X0 ++ [y]) (X1 ++ (X2 ++ [y])) := by
      rw [← List.append_assoc]; exact hc.app .refl
    have h4 : Cls lt (X2 ++ [y]) ([y] ++ X2) := Cls.swap w fun x hx z hz => by
      simp at hz; subst hz; exact h2 x hx
    exact h3.trans (Cls.app .refl h4)

theorem insertion_ (w : Swo (ltOf c)) (hf : PureF f c) {P M R : List S} {a b : Int} {Q : Unit → Hp → Prop} (o : Own e h s (P ++ M ++ R)) (ha : a = P.length) (hb : b = ((P.length + M.length : Nat) : Int)) (hbig : P.length + M.length < 2 ^ 62)
    (k : ∀ h' M', Ag s.blk h h' → SS (ltOf c) M M' → Own e h' s (P ++ M' ++ R) → Q () h') : slices_insertionSortCmpFunc_G e s a b f Q h := by
  unfold slices_insertionSortCmpFunc_G
  cases hM : M with
  | nil =>
    subst hM
    refine loop_ (fun _ u h1 => u = a + 1 ∧ h1 = h) 0 ⟨by rw [wi (by omega) (by omega)], rfl⟩ ?_
    rintro m u h1 ⟨rfl, rfl⟩
    refine if_ (fun hc => ?_) fun _ => k h1 [] .refl .nil o
    simp at hc hb; omega
  | cons x0 M0 =>
    have hMl : M.length = M0.length + 1 := by rw [hM]; simp
    refine loop_ (fun m u h1 => ∃ X0 X Y, M = X0 ++ Y ∧ SS (ltOf c) X0 X ∧ X.length = X0.length ∧ X ≠ [] ∧ u = ((P.length + X.length : Nat) : Int) ∧ m = Y.length ∧ Ag s.blk h h1 ∧ Own e h1 s (P ++ X ++ Y ++ R)) M0.length
      ⟨[x0], [x0], M0, hM, .one, rfl, by simp, by rw [wi (by omega) (by omega), ha]; simp, rfl, .refl, by rw [hM] at o; simpa using o⟩ ?_
    rintro m u h1 ⟨X0, X, Y, hMY, hss, hxl, hxn, rfl, rfl, x1, o1⟩
    refine if_ (fun hc => ?_) fun hc => ?_
    · cases Y with
      | nil =>
        simp [hMY] at hb
        rw [hb] at hc
        simp at hc
        omega
      | cons y Y =>
        have hlen : M.length = X.length + (Y.length + 1) := by rw [hMY]; simp [hxl]
        refine loop_ (fun m j h2 => ∃ X1 X2, X = X1 ++ X2 ∧ j = ((P.length + X1.length : Nat) : Int) ∧ m = X1.length ∧ (∀ z ∈ X2, ltOf c y z = true) ∧ Ag s.blk h h2 ∧ Own e h2 s (P ++ X1 ++ y :: (X2 ++ Y ++ R))) X.length
          ⟨X, [], by simp, rfl, rfl, by simp, x1, by simpa using o1⟩ ?_
        rintro m j h2 ⟨X1, X2, hX, rfl, rfl, h2', x2, o2⟩
        have hl12 : X.length = X1.length + X2.length := by rw [hX]; simp
        -- behind the test
        have stop : ∀ h3, Ext h2 h3 → (∀ z ∈ X1, Le (ltOf c) z y) → ∃ m', m' < (y :: Y).length ∧ ∃ X0 X Y, M = X0 ++ Y ∧ SS (ltOf c) X0 X ∧ X.length = X0.length ∧ X ≠ [] ∧ IntKind.wrap .i64 (((P.length + (X1 ++ X2).length : Nat) : Int) + 1) = ((P.length + X.length : Nat) : Int) ∧ m' = Y.length ∧ Ag s.blk h h3 ∧ Own e h3 s (P ++ X ++ Y ++ R) := by
          intro h3 e3 hle
          rw [← hX]
          refine ⟨Y.length, by simp, X0 ++ [y], X1 ++ y :: X2, Y, by rw [hMY]; simp, SS.ins w (hX ▸ hss) h2' hle, by simp; omega, by simp, by rw [wi (by omega) (by omega)]; simp; omega, rfl, x2.trans (.of e3), by have := o2.ext e3; simpa using this⟩
        refine j_ (if_ (fun hc2 => ?_) fun hc2 => ?_)
        · -- X1 is not empty
          have hne : X1 ≠ [] := by
            intro h; subst h
            simp [ha] at hc2
          obtain ⟨X1', x, rfl⟩ : ∃ X1' x, X1 = X1' ++ [x] := ⟨X1.dropLast, X1.getLast hne, (List.dropLast_concat_getLast hne).symm⟩
          have e1 : P ++ (X1' ++ [x]) ++ y :: (X2 ++ Y ++ R) = (P ++ X1') ++ x :: y :: (X2 ++ Y ++ R) := by simp
          have e2 : P ++ (X1' ++ [x]) ++ y :: (X2 ++ Y ++ R) = (P ++ X1' ++ [x]) ++ y :: (X2 ++ Y ++ R) := by simp
          have gy := get_mid' (n := P.length + X1'.length + 1) e2 (by simp; omega)
          have gx := get_mid' (n := P.length + X1'.length) e1 (by simp)
          have hi1 : (((P.length + (X1' ++ [x]).length : Nat)) : Int) = ((P.length + X1'.length + 1 : Nat) : Int) := by simp; omega
          have hi0 : IntKind.wrap .i64 ((((P.length + (X1' ++ [x]).length : Nat)) : Int) - 1) = ((P.length + X1'.length : Nat) : Int) := by
            rw [wi (by simp; omega) (by simp at *; omega)]; simp; omega
          refine own_ix o2 hi1 (List.getElem?_eq_some_iff.1 gy).1 fun p hp => own_ld o2 hp gy <| own_ix o2 hi0 (List.getElem?_eq_some_iff.1 gx).1 fun p2 hp2 => own_ld o2 hp2 gx <| hf y x _ _ fun h3 e3 => ?_
          refine if_ (fun hlt => ?_) fun hlt => ?_
          · refine swap_ (o2.ext e3) hi0 hi1 gx gy fun h4 x4 o4 => ?_
            rw [set_mid' e1 (by simp)] at o4
            rw [set_mid' (A := P ++ X1' ++ [y]) (x := y) (B := X2 ++ Y ++ R) (by simp) (by simp; omega)] at o4
            refine ⟨X1'.length, by simp, X1', x :: X2, by rw [hX]; simp, hi0, rfl, ?_, (x2.trans (.of e3)).trans x4, by simpa using o4⟩
            intro z hz
            rcases List.mem_cons.1 hz with rfl | hz
            · exact hlt
            · exact h2' z hz
          · rw [hX] at hc ⊢
            refine stop h3 e3 fun z hz => ?_
            have hlast : Le (ltOf c) x y := hlt
            rcases List.mem_append.1 hz with hz | hz
            · have hp := hss.sorted
              rw [hX, List.append_assoc, List.pairwise_append] at hp
              exact w.le_trans (hp.2.2 z hz x (by simp)) hlast
            · simp at hz; subst hz; exact hlast
        · have : X1 = [] := by
            simp [ha] at hc2
            have : X1.length = 0 := by omega
            simpa using this
          subst this
          refine if_ (fun h => by cases h) fun _ => ?_
          rw [hX]
          exact stop h2 .refl (by simp)
    · have : Y = [] := by
        cases Y with
        | nil => rfl
        | cons y Y => simp [hMY] at hb; rw [hb] at hc; simp at hc; omega
      subst this
      have : M = X0 := by simpa using hMY
      subst this
      exact k h1 X x1 hss (by simpa using o1)
end Lf
end Go
namespace Go
namespace Lf
variable {S : Type} {e : Elt S} {h h' : Hp} {s : Sl} {l : List S} {f : S → S → (Int → Hp → Prop) → Hp → Prop} {c : S → S → Int}
theorem swapRange_ {P X Mid Y R : List S} {a b n : Int} {Q : Unit → Hp → Prop} (o : Own e h s (P ++ X ++ Mid ++ Y ++ R)) (ha : a = P.length) (hb : b = ((P.length + X.length + Mid.length : Nat) : Int)) (hn : n = X.length) (hxy : X.length = Y.length)
    (hbig : P.length + X.length + Mid.length + Y.length < 2 ^ 62) (k : ∀ h', Ag s.blk h h' → Own e h' s (P ++ Y ++ Mid ++ X ++ R) → Q () h') : slices_swapRangeCmpFunc_G e s a b n f Q h := by
  unfold slices_swapRangeCmpFunc_G
  refine loop_ (fun m u h1 => ∃ X1 X2 Y1 Y2, X = X1 ++ X2 ∧ Y = Y1 ++ Y2 ∧ X1.length = Y1.length ∧ u = (X1.length : Int) ∧ m = X2.length ∧ Ag s.blk h h1 ∧ Own e h1 s (P ++ Y1 ++ X2 ++ Mid ++ X1 ++ Y2 ++ R)) X.length
    ⟨[], X, [], Y, rfl, rfl, rfl, rfl, rfl, .refl, by simpa using o⟩ ?_
  rintro m u h1 ⟨X1, X2, Y1, Y2, rfl, rfl, h12, rfl, rfl, x1, o1⟩
  simp only [List.length_append] at hxy hbig hn hb
  refine if_ (fun hc => ?_) fun hc => ?_
  · subst ha hb hn
    simp only [decide_eq_true_eq] at hc
    obtain ⟨x, X2, rfl⟩ : ∃ x t, X2 = x :: t := by
      cases X2 with
      | nil => simp at hc
      | cons x t => exact ⟨x, t, rfl⟩
    obtain ⟨y, Y2, rfl⟩ : ∃ y t, Y2 = y :: t := by
      cases Y2 with
      | nil => simp at hxy; omega
      | cons x t => exact ⟨x, t, rfl⟩
    simp only [List.length_cons] at *
    have e1 : P ++ Y1 ++ x :: X2 ++ Mid ++ X1 ++ y :: Y2 ++ R = (P ++ Y1 ++ x :: X2 ++ Mid ++ X1) ++ y :: (Y2 ++ R) := by simp
    have e2 : P ++ Y1 ++ x :: X2 ++ Mid ++ X1 ++ y :: Y2 ++ R = (P ++ Y1) ++ x :: (X2 ++ Mid ++ X1 ++ y :: (Y2 ++ R)) := by simp
    have gy := get_mid' (n := P.length + (X1.length + (X2.length + 1)) + Mid.length + X1.length) e1 (by simp; omega)
    have gx := get_mid' (n := P.length + X1.length) e2 (by simp; omega)
    refine swap_ o1 (by rw [wi (by omega) (by omega)]; omega) (by rw [wi (by omega) (by omega)]; omega) gy gx fun h2 x2 o2 => ?_
    rw [set_mid' e1 (by simp; omega)] at o2
    rw [set_mid' (A := P ++ Y1) (x := x) (B := X2 ++ Mid ++ X1 ++ x :: (Y2 ++ R)) (by simp) (by simp; omega)] at o2
    exact ⟨X2.length, by simp, X1 ++ [x], X2, Y1 ++ [y], Y2, by simp, by simp, by simp [h12], by rw [wi (by omega) (by omega)]; simp, rfl, x1.trans x2, by simpa using o2⟩
  · subst hn
    simp only [decide_eq_false_iff_not] at hc
    have hx2 : X2 = [] := by
      have : X2.length = 0 := by omega
      simpa using this
    subst hx2
    have hy2 : Y2 = [] := by
      have : Y2.length = 0 := by simp at hxy; omega
      simpa using this
    subst hy2
    exact k h1 x1 (by simpa using o1)
theorem rotate_ {P U V R : List S} {a b n : Int} {Q : Unit → Hp → Prop} (o : Own e h s (P ++ U ++ V ++ R)) (ha : a = P.length) (hb : b = ((P.length + U.length : Nat) : Int)) (hn : n = ((P.length + U.length + V.length : Nat) : Int)) (hu : U ≠ []) (hv : V ≠ [])
    (hbig : P.length + U.length + V.length < 2 ^ 62) (k : ∀ h', Ag s.blk h h' → Own e h' s (P ++ V ++ U ++ R) → Q () h') : slices_rotateCmpFunc_G e s a b n f Q h := by
  unfold slices_rotateCmpFunc_G
  subst ha hb hn
  refine loop_ (fun m u h1 => ∃ P1 U1 V1 R1, V ++ U = P1 ++ V1 ++ U1 ++ R1 ∧ U1 ≠ [] ∧ V1 ≠ [] ∧ P.length + P1.length + U1.length = P.length + U.length ∧ u = ((U1.length : Int), (V1.length : Int)) ∧ m = U1.length + V1.length ∧ Ag s.blk h h1 ∧ Own e h1 s (P ++ P1 ++ U1 ++ V1 ++ (R1 ++ R))) (U.length + V.length)
    ⟨[], U, V, [], by simp, hu, hv, by simp, by rw [wi (by omega) (by omega), wi (by omega) (by omega)]; exact Prod.ext (by simp; omega) (by simp; omega), rfl, .refl, by simpa using o⟩ ?_
  rintro m u h1 ⟨P1, U1, V1, R1, hvu, hu1, hv1, hpu, rfl, rfl, x1, o1⟩
  have hlen : V.length + U.length = P1.length + V1.length + U1.length + R1.length := by
    have := congrArg List.length hvu
    simp at this; omega
  have hul : 0 < U1.length := List.length_pos_iff.2 hu1
  have hvl : 0 < V1.length := List.length_pos_iff.2 hv1
  refine if_ (fun hc => if_ (fun hc2 => ?_) fun hc2 => ?_) fun hc => ?_
  · simp only [decide_eq_true_eq] at hc2
    simp only [bne_iff_ne, ne_eq] at hc
    -- U1 = X ++ Y, as long as V1 is X
    have hsp : U1 = U1.take V1.length ++ U1.drop V1.length := by simp
    have hxl : (U1.take V1.length).length = V1.length := by simp; omega
    have hyl : (U1.drop V1.length).length = U1.length - V1.length := by simp
    generalize U1.take V1.length = X at hsp hxl
    generalize U1.drop V1.length = Y at hsp hyl
    subst hsp
    simp only [List.length_append] at *
    refine swapRange_ (P := P ++ P1) (X := X) (Mid := Y) (Y := V1) (R := R1 ++ R) (by simpa using o1) ?_ ?_ (by omega) (by omega) (by simp; omega) fun h2 x2 o2 => ?_
    · simp (disch := omega) only [wi]; simp; omega
    · simp; omega
    · refine ⟨Y.length + X.length, by omega, P1 ++ V1, Y, X, R1, by rw [hvu]; simp, ?_, ?_, by simp; omega, ?_, rfl, x1.trans x2, by simpa using o2⟩
      · have : Y.length ≠ 0 := by omega
        intro h; rw [h] at this; simp at this
      · have : X.length ≠ 0 := by omega
        intro h; rw [h] at this; simp at this
      · simp (disch := omega) only [wi]; exact Prod.ext (by simp; omega) (by simp; omega)
  · simp only [decide_eq_false_iff_not] at hc2
    simp only [bne_iff_ne, ne_eq] at hc
    have hsp : V1 = V1.take (V1.length - U1.length) ++ V1.drop (V1.length - U1.length) := by simp
    have hxl : (V1.take (V1.length - U1.length)).length = V1.length - U1.length := by simp
    have hyl : (V1.drop (V1.length - U1.length)).length = U1.length := by simp; omega
    generalize V1.take (V1.length - U1.length) = Y at hsp hxl
    generalize V1.drop (V1.length - U1.length) = Z at hsp hyl
    subst hsp
    simp only [List.length_append] at *
    refine swapRange_ (P := P ++ P1) (X := U1) (Mid := Y) (Y := Z) (R := R1 ++ R) (by simpa using o1) ?_ ?_ rfl (by omega) (by simp; omega) fun h2 x2 o2 => ?_
    · simp (disch := omega) only [wi]; simp; omega
    · have w1 : IntKind.wrap .i64 (((P.length + U.length : Nat) : Int) + ((Y.length + Z.length : Nat) : Int)) = ((P.length + U.length : Nat) : Int) + ((Y.length + Z.length : Nat) : Int) := wi (by omega) (by omega)
      rw [w1, wi (by omega) (by omega)]; simp; omega
    · refine ⟨Z.length + Y.length, by omega, P1, Z, Y, U1 ++ R1, by simp [hvu], ?_, ?_, by omega, ?_, rfl, x1.trans x2, by simpa using o2⟩
      · have : Z.length ≠ 0 := by omega
        intro h; rw [h] at this; simp at this
      · have : Y.length ≠ 0 := by omega
        intro h; rw [h] at this; simp at this
      · simp (disch := omega) only [wi]; exact Prod.ext (by simp; omega) (by simp; omega)
  · have hc : U1.length = V1.length := by
      simp at hc; omega
    refine swapRange_ (P := P ++ P1) (X := U1) (Mid := []) (Y := V1) (R := R1 ++ R) (by simpa using o1) ?_ ?_ rfl hc (by simp; omega) fun h2 x2 o2 => k h2 (x1.trans x2) ?_
    · simp (disch := omega) only [wi]; simp; omega
    · simp; omega
    · have : P ++ V ++ U ++ R = P ++ P1 ++ V1 ++ [] ++ U1 ++ (R1 ++ R) := by
        rw [List.append_assoc P V U, hvu]; simp
      rw [this]; exact o2
theorem shr1 {i j : Int} (hi : 0 ≤ i) (hj : 0 ≤ j) (hij : i + j < 2 ^ 63) : IntKind.wrap .i64 (iShr .u64 (IntKind.wrap .u64 (IntKind.wrap .i64 (i + j))) (1 : Int)) = (i + j) / 2 := by
  have e0 : IntKind.wrap .i64 (i + j) = i + j := wi (by omega) (by omega)
  rw [e0]
  have : IntKind.wrap .u64 (i + j) = i + j := by
    simp only [IntKind.wrap, IntKind.signed, IntKind.bits]
    simp
    omega
  rw [this]
  simp only [iShr, IntKind.bits]
  have h1 : (i + j).fdiv 2 = (i + j) / 2 := Int.fdiv_eq_ediv_of_nonneg _ (by omega)
  have : (2 : Int) ^ (min (1 : Int).toNat 64) = 2 := by decide
  rw [this, h1]
  rw [wi (by omega) (by omega)]
end Lf
end Go
namespace Go
namespace Lf
section
variable {S : Type} {lt : S → S → Bool}
theorem sorted_take (w : Swo lt) {B : List S} (hs : B.Pairwise (Le lt)) {n : Nat} {y : S} (hy : B[n]? = some y) : ∀ z ∈ B.take (n + 1), Le lt z y := by
  intro z hz
  obtain ⟨i, hi, rfl⟩ := List.mem_iff_getElem.1 hz
  have hn := (List.getElem?_eq_some_iff.1 hy)
  obtain ⟨hn, rfl⟩ := hn
  simp only [List.length_take] at hi
  rw [List.getElem_take]
  rcases Nat.lt_or_ge i n with h | h
  · exact List.pairwise_iff_getElem.1 hs i n _ _ h
  · have : i = n := by omega
    subst this; exact w.irr _
theorem sorted_drop (w : Swo lt) {B : List S} (hs : B.Pairwise (Le lt)) {n : Nat} {y : S} (hy : B[n]? = some y) : ∀ z ∈ B.drop n, Le lt y z := by
  intro z hz
  obtain ⟨i, hi, rfl⟩ := List.mem_iff_getElem.1 hz
  obtain ⟨hn, rfl⟩ := (List.getElem?_eq_some_iff.1 hy)
  rw [List.getElem_drop]
  rcases Nat.eq_zero_or_pos i with h | h
  · subst h; exact w.irr _
  · exact List.pairwise_iff_getElem.1 hs n (n + i) _ _ (by omega)
theorem get_app2 {P A B R : List S} {i : Nat} {x : S} (hx : B[i]? = some x) : (P ++ A ++ B ++ R)[P.length + A.length + i]? = some x := by
  have hl := (List.getElem?_eq_some_iff.1 hx).1
  rw [List.getElem?_append_left (by simp; omega), List.getElem?_append_right (by simp), ← hx]
  congr 1; simp
theorem get_app1 {P A B R : List S} {i : Nat} {x : S} (hx : A[i]? = some x) : (P ++ A ++ B ++ R)[P.length + i]? = some x := by
  have hl := (List.getElem?_eq_some_iff.1 hx).1
  rw [List.append_assoc, List.getElem?_append_left (by simp; omega), List.getElem?_append_right (by simp), ← hx]
  congr 1; omega
theorem split_ok (w : Swo lt) {A B : List S} (hsA : A.Pairwise (Le lt)) (hsB : B.Pairwise (Le lt)) {i k : Nat}
    (hlow : i = 0 ∨ k = B.length ∨ ∃ x y, A[i - 1]? = some x ∧ B[k]? = some y ∧ Le lt x y) (hup : i = A.length ∨ k = 0 ∨ ∃ x y, A[i]? = some x ∧ B[k - 1]? = some y ∧ lt y x = true) :
    (∀ x ∈ A.take i, ∀ y ∈ B.drop k, Le lt x y) ∧ (∀ x ∈ A.drop i, ∀ y ∈ B.take k, lt y x = true) := by
  constructor
  · intro x hx y hy
    rcases hlow with rfl | rfl | ⟨x0, y0, hx0, hy0, hl⟩
    · simp at hx
    · simp at hy
    · by_cases hi : i = 0
      · subst hi; simp at hx
      · have h1 := sorted_take w hsA hx0 x (by rwa [show i - 1 + 1 = i by omega])
        exact w.le_trans h1 (w.le_trans hl (sorted_drop w hsB hy0 y hy))
  · intro x hx y hy
    rcases hup with rfl | rfl | ⟨x0, y0, hx0, hy0, hl⟩
    · simp at hx
    · simp at hy
    · by_cases hk : k = 0
      · subst hk; simp at hy
      · have h1 := sorted_take w hsB hy0 y (by rwa [show k - 1 + 1 = k by omega])
        exact w.lt_le (w.le_lt h1 hl) (sorted_drop w hsA hx0 x hx)
theorem SS.two (w : Swo lt) {A1 A2 B1 B2 M1 M2 : List S} (hA : (A1 ++ A2).Pairwise (Le lt)) (hB : (B1 ++ B2).Pairwise (Le lt)) (h1 : ∀ x ∈ A1, ∀ y ∈ B2, Le lt x y) (h2 : ∀ x ∈ A2, ∀ y ∈ B1, lt y x = true)
    (s1 : SS lt (A1 ++ B1) M1) (s2 : SS lt (A2 ++ B2) M2) : SS lt (A1 ++ A2 ++ (B1 ++ B2)) (M1 ++ M2) := by
  rw [List.pairwise_append] at hA hB
  refine ⟨?_, ?_⟩
  · rw [List.pairwise_append]
    refine ⟨s1.sorted, s2.sorted, fun x hx y hy => ?_⟩
    have hx := (s1.cls.mem w).1 hx
    have hy := (s2.cls.mem w).1 hy
    rcases List.mem_append.1 hx with hx | hx <;> rcases List.mem_append.1 hy with hy | hy
    · exact hA.2.2 x hx y hy
    · exact h1 x hx y hy
    · exact w.asym (h2 y hy x hx)
    · exact hB.2.2 x hx y hy
  · have h3 : Cls lt (A1 ++ (A2 ++ B1) ++ B2) (A1 ++ (B1 ++ A2) ++ B2) := (Cls.refl.app (Cls.swap w h2)).app .refl
    have h4 := s1.cls.app s2.cls
    have : Cls lt (A1 ++ A2 ++ (B1 ++ B2)) (A1 ++ B1 ++ (A2 ++ B2)) := by simpa using h3
    exact this.trans h4
theorem SS.merge1 (w : Swo lt) {A B M : List S} (h : Cls lt (A ++ B) M) (hs : M.Pairwise (Le lt)) : SS lt (A ++ B) M := ⟨hs, h⟩
end
variable {S : Type} {e : Elt S} {h h' : Hp} {s : Sl} {l : List S} {f : S → S → (Int → Hp → Prop) → Hp → Prop} {c : S → S → Int}
theorem symMerge_ (w : Swo (ltOf c)) (hf : PureF f c) : ∀ (fuel : Nat) {P A B R : List S} {a m b : Int} {Q : Unit → Hp → Prop} {h : Hp} (_ : Own e h s (P ++ A ++ B ++ R)) (_ : a = P.length) (_ : m = ((P.length + A.length : Nat) : Int)) (_ : b = ((P.length + A.length + B.length : Nat) : Int)) (_ : A ≠ []) (_ : B ≠ [])
    (_ : A.Pairwise (Le (ltOf c))) (_ : B.Pairwise (Le (ltOf c))) (_ : P.length + A.length + B.length < 2 ^ 61) (_ : A.length + B.length ≤ fuel)
    (_ : ∀ h' M, Ag s.blk h h' → SS (ltOf c) (A ++ B) M → Own e h' s (P ++ M ++ R) → Q () h'), slices_symMergeCmpFunc_G e fuel s a m b f Q h
  | 0, P, A, B, R, a, m, b, Q, h, _, _, _, _, hA, _, _, _, _, hfu, _ => by
    have : 0 < A.length := List.length_pos_iff.2 hA
    omega
  | fuel + 1, P, A, B, R, a, m, b, Q, h, o, ha, hm, hb, hA, hB, hsA, hsB, hbig, hfu, k => by
    subst ha hm hb
    have hAl : 0 < A.length := List.length_pos_iff.2 hA
    have hBl : 0 < B.length := List.length_pos_iff.2 hB
    unfold slices_symMergeCmpFunc_G
    refine if_ (fun h1 => ?_) fun h1 => ?_
    · -- one element on the left
      have hA1 : A.length = 1 := by
        rw [wi (by omega) (by omega)] at h1; simp at h1; omega
      obtain ⟨x, rfl⟩ : ∃ x, A = [x] := List.length_eq_one_iff.1 hA1
      clear h1 hA1 hA hAl hsA
      refine loop_ (fun d u h1 => ∃ i j : Nat, i ≤ j ∧ j ≤ B.length ∧ u = (((P.length + 1 + i : Nat) : Int), ((P.length + 1 + j : Nat) : Int)) ∧ d = j - i ∧ (∀ z ∈ B.take i, ltOf c z x = true) ∧ (∀ z ∈ B.drop j, Le (ltOf c) x z) ∧ Ext h h1) B.length
        ⟨0, B.length, by omega, by omega, by simp, by simp, by simp, by simp, .refl⟩ ?_
      rintro d u h1 ⟨i, j, hij, hj, rfl, rfl, hlo, hhi, x1⟩
      refine if_ (fun hc => ?_) fun hc => ?_
      · have hc : i < j := by simp at hc; omega
        have hmid := shr1 (i := ((P.length + 1 + i : Nat) : Int)) (j := ((P.length + 1 + j : Nat) : Int)) (by omega) (by omega) (by omega)
        obtain ⟨q, hq⟩ : ∃ q : Nat, q = (i + j) / 2 := ⟨_, rfl⟩
        have hqn : (((P.length + 1 + i : Nat) : Int) + ((P.length + 1 + j : Nat) : Int)) / 2 = ((P.length + 1 + q : Nat) : Int) := by omega
        rw [hqn] at hmid
        simp only [hmid]
        have hql : q < B.length := by omega
        have gy : B[q]? = some B[q] := by simp [hql]
        generalize B[q] = y at gy
        have g1 := get_app2 (P := P) (A := [x]) (R := R) gy
        have g0 := get_app1 (P := P) (A := [x]) (B := B) (R := R) (i := 0) (x := x) rfl
        have o1 := o.ext x1
        refine own_ix o1 rfl (List.getElem?_eq_some_iff.1 g1).1 fun p hp => own_ld o1 hp g1 <| own_ix o1 (by simp) (List.getElem?_eq_some_iff.1 g0).1 fun p2 hp2 => own_ld o1 hp2 g0 <| hf y x _ _ fun h2 e2 => ?_
        refine if_ (fun hl => ?_) fun hl => ?_
        · refine ⟨j - (q + 1), by omega, q + 1, j, by omega, hj, ?_, rfl, fun z hz => ?_, hhi, x1.trans e2⟩
          · rw [wi (by omega) (by omega)]; exact Prod.ext (by simp; omega) rfl
          · exact w.le_lt (sorted_take w hsB gy z hz) hl
        · refine ⟨q - i, by omega, i, q, by omega, by omega, rfl, rfl, hlo, fun z hz => ?_, x1.trans e2⟩
          exact w.le_trans hl (sorted_drop w hsB gy z hz)
      · have hc : i = j := by simp at hc; omega
        subst hc
        -- now x moves right by i
        have o1 := o.ext x1
        have hsp : B = B.take i ++ B.drop i := by simp
        have hBl1 : (B.take i).length = i := by simp; omega
        generalize B.take i = B1 at hsp hlo hBl1
        generalize B.drop i = B2 at hsp hhi
        subst hsp
        subst hBl1
        refine loop_ (fun d u h2 => ∃ C1 C2, B1 = C1 ++ C2 ∧ u = ((P.length + C1.length : Nat) : Int) ∧ d = C2.length ∧ Ag s.blk h1 h2 ∧ Own e h2 s (P ++ C1 ++ x :: (C2 ++ B2 ++ R))) B1.length
          ⟨[], B1, rfl, by simp, rfl, .refl, by simpa using o1⟩ ?_
        rintro d u h2 ⟨C1, C2, rfl, rfl, rfl, x2, o2⟩
        simp only [List.length_append, List.length_cons, List.length_nil] at *
        refine if_ (fun hc => ?_) fun hc => ?_
        · simp only [decide_eq_true_eq] at hc
          rw [wi (by omega) (by omega)] at hc
          obtain ⟨y, C2, rfl⟩ : ∃ y t, C2 = y :: t := by
            cases C2 with
            | nil => simp at hc; omega
            | cons y t => exact ⟨y, t, rfl⟩
          simp only [List.length_cons] at *
          have e1 : P ++ C1 ++ x :: (y :: C2 ++ B2 ++ R) = (P ++ C1) ++ x :: (y :: (C2 ++ B2 ++ R)) := by simp
          have e2 : P ++ C1 ++ x :: (y :: C2 ++ B2 ++ R) = (P ++ C1 ++ [x]) ++ y :: (C2 ++ B2 ++ R) := by simp
          have gx := get_mid' (n := P.length + C1.length) e1 (by simp)
          have gy := get_mid' (n := P.length + C1.length + 1) e2 (by simp; omega)
          refine swap_ o2 (by rw [wi (by omega) (by omega)]; omega) rfl gy gx fun h3 x3 o3 => ?_
          rw [set_mid' e2 (by simp; omega)] at o3
          rw [set_mid' (A := P ++ C1) (x := x) (B := x :: (C2 ++ B2 ++ R)) (by simp) (by simp)] at o3
          exact ⟨C2.length, by omega, C1 ++ [y], C2, by simp, by rw [wi (by omega) (by omega)]; simp; omega, rfl, x2.trans x3, by simpa using o3⟩
        · simp only [decide_eq_false_iff_not] at hc
          rw [wi (by omega) (by omega)] at hc
          have : C2 = [] := by
            have : C2.length = 0 := by omega
            simpa using this
          subst this
          simp only [List.append_nil] at *
          refine k h2 (C1 ++ x :: B2) ((Ag.of x1).trans x2) ⟨?_, ?_⟩ (by simpa using o2)
          · rw [List.pairwise_append] at hsB
            rw [List.pairwise_append, List.pairwise_cons]
            refine ⟨hsB.1, ⟨hhi, hsB.2.1⟩, fun z hz y hy => ?_⟩
            rcases List.mem_cons.1 hy with rfl | hy
            · exact w.asym (hlo z hz)
            · exact hsB.2.2 z hz y hy
          · have h4 : Cls (ltOf c) ([x] ++ C1) (C1 ++ [x]) := Cls.swap w fun y hy z hz => by simp at hy; subst hy; exact hlo z hz
            have := h4.app (Cls.refl (lt := ltOf c) (a := B2))
            simpa using this
    · refine if_ (fun h2 => ?_) fun h2 => ?_
      · -- one element on the right
        have hB1 : B.length = 1 := by
          rw [wi (by omega) (by omega)] at h2; simp at h2; omega
        obtain ⟨y, rfl⟩ : ∃ x, B = [x] := List.length_eq_one_iff.1 hB1
        clear h1 h2 hB1 hB hBl hsB
        refine loop_ (fun d u h1 => ∃ i j : Nat, i ≤ j ∧ j ≤ A.length ∧ u = (((P.length + i : Nat) : Int), ((P.length + j : Nat) : Int)) ∧ d = j - i ∧ (∀ z ∈ A.take i, Le (ltOf c) z y) ∧ (∀ z ∈ A.drop j, ltOf c y z = true) ∧ Ext h h1) A.length
          ⟨0, A.length, by omega, by omega, by simp, by simp, by simp, by simp, .refl⟩ ?_
        rintro d u h1 ⟨i, j, hij, hj, rfl, rfl, hlo, hhi, x1⟩
        refine if_ (fun hc => ?_) fun hc => ?_
        · have hc : i < j := by simp at hc; omega
          have hmid := shr1 (i := ((P.length + i : Nat) : Int)) (j := ((P.length + j : Nat) : Int)) (by omega) (by omega) (by omega)
          obtain ⟨q, hq⟩ : ∃ q : Nat, q = (i + j) / 2 := ⟨_, rfl⟩
          have hqn : (((P.length + i : Nat) : Int) + ((P.length + j : Nat) : Int)) / 2 = ((P.length + q : Nat) : Int) := by omega
          rw [hqn] at hmid
          simp only [hmid]
          have hql : q < A.length := by omega
          have gx : A[q]? = some A[q] := by simp [hql]
          generalize A[q] = x at gx
          have g1 := get_app1 (P := P) (B := [y]) (R := R) gx
          have g0 := get_app2 (P := P) (A := A) (B := [y]) (R := R) (i := 0) (x := y) rfl
          have o1 := o.ext x1
          refine own_ix o1 rfl (List.getElem?_eq_some_iff.1 g0).1 fun p hp => own_ld o1 hp g0 <| own_ix o1 rfl (List.getElem?_eq_some_iff.1 g1).1 fun p2 hp2 => own_ld o1 hp2 g1 <| hf y x _ _ fun h2 e2 => ?_
          refine if_ (fun hl => ?_) fun hl => ?_
          · refine ⟨j - (q + 1), by omega, q + 1, j, by omega, hj, ?_, rfl, fun z hz => ?_, hhi, x1.trans e2⟩
            · rw [wi (by omega) (by omega)]; exact Prod.ext (by simp; omega) rfl
            · exact w.le_trans (sorted_take w hsA gx z hz) (by simpa [Le, ltOf] using hl)
          · refine ⟨q - i, by omega, i, q, by omega, by omega, rfl, rfl, hlo, fun z hz => ?_, x1.trans e2⟩
            exact w.lt_le (x := y) (y := x) (by simpa [ltOf] using hl) (sorted_drop w hsA gx z hz)
        · have hc : i = j := by simp at hc; omega
          subst hc
          have o1 := o.ext x1
          have hsp : A = A.take i ++ A.drop i := by simp
          have hAl1 : (A.take i).length = i := by simp; omega
          generalize A.take i = A1 at hsp hlo hAl1
          generalize A.drop i = A2 at hsp hhi
          subst hsp
          subst hAl1
          refine loop_ (fun d u h2 => ∃ C1 C2, A2 = C1 ++ C2 ∧ u = ((P.length + A1.length + C1.length : Nat) : Int) ∧ d = C1.length ∧ Ag s.blk h1 h2 ∧ Own e h2 s (P ++ A1 ++ C1 ++ y :: (C2 ++ R))) A2.length
            ⟨A2, [], by simp, by simp; omega, rfl, .refl, by simpa using o1⟩ ?_
          rintro d u h2 ⟨C1, C2, rfl, rfl, rfl, x2, o2⟩
          simp only [List.length_append, List.length_cons, List.length_nil] at *
          refine if_ (fun hc => ?_) fun hc => ?_
          · simp only [decide_eq_true_eq] at hc
            have hne : C1 ≠ [] := by
              intro h; subst h
              simp at hc
            obtain ⟨C1', x, rfl⟩ : ∃ X1' x, C1 = X1' ++ [x] := ⟨C1.dropLast, C1.getLast hne, (List.dropLast_concat_getLast hne).symm⟩
            simp only [List.length_append, List.length_cons, List.length_nil] at *
            have e1 : P ++ A1 ++ (C1' ++ [x]) ++ y :: (C2 ++ R) = (P ++ A1 ++ C1') ++ x :: y :: (C2 ++ R) := by simp
            have e2 : P ++ A1 ++ (C1' ++ [x]) ++ y :: (C2 ++ R) = (P ++ A1 ++ C1' ++ [x]) ++ y :: (C2 ++ R) := by simp
            have gy := get_mid' (n := P.length + A1.length + C1'.length + 1) e2 (by simp; omega)
            have gx := get_mid' (n := P.length + A1.length + C1'.length) e1 (by simp; omega)
            refine swap_ o2 (by rw [wi (by omega) (by omega)]; omega) (by omega) gx gy fun h3 x3 o3 => ?_
            rw [set_mid' e1 (by simp; omega)] at o3
            rw [set_mid' (A := P ++ A1 ++ C1' ++ [y]) (x := y) (B := C2 ++ R) (by simp) (by simp; omega)] at o3
            exact ⟨C1'.length, by omega, C1', x :: C2, by simp, by rw [wi (by omega) (by omega)]; omega, rfl, x2.trans x3, by simpa using o3⟩
          · simp only [decide_eq_false_iff_not] at hc
            have : C1 = [] := by
              have : C1.length = 0 := by omega
              simpa using this
            subst this
            simp only [List.append_nil, List.nil_append] at *
            refine k h2 (A1 ++ y :: C2) ((Ag.of x1).trans x2) ⟨?_, ?_⟩ (by simpa using o2)
            · rw [List.pairwise_append] at hsA
              rw [List.pairwise_append, List.pairwise_cons]
              refine ⟨hsA.1, ⟨fun z hz => w.asym (hhi z hz), hsA.2.1⟩, fun z hz x hx => ?_⟩
              rcases List.mem_cons.1 hx with rfl | hx
              · exact hlo z hz
              · exact hsA.2.2 z hz x hx
            · have h4 : Cls (ltOf c) (C2 ++ [y]) ([y] ++ C2) := Cls.swap w fun x hx z hz => by simp at hz; subst hz; exact hhi x hx
              have := (Cls.refl (lt := ltOf c) (a := A1)).app h4
              simpa using this
      · -- two and more on both sides
        obtain ⟨q, hq⟩ : ∃ q : Nat, q = (P.length + (P.length + A.length + B.length)) / 2 := ⟨_, rfl⟩
        have hmid := shr1 (i := (P.length : Int)) (j := ((P.length + A.length + B.length : Nat) : Int)) (by omega) (by omega) (by omega)
        have hqn : ((P.length : Int) + ((P.length + A.length + B.length : Nat) : Int)) / 2 = ((q : Nat) : Int) := by omega
        rw [hqn] at hmid
        simp only [hmid]
        have hn : IntKind.wrap .i64 ((q : Int) + ((P.length + A.length : Nat) : Int)) = ((q + P.length + A.length : Nat) : Int) := by rw [wi (by omega) (by omega)]; omega
        simp only [hn]
        refine ⟨fun x h1 => h1 = h ∧ ∃ st r : Nat, x = ((st : Int), (r : Int)) ∧ P.length ≤ st ∧ st ≤ r ∧ r ≤ q ∧ r ≤ P.length + A.length ∧ q ≤ st + B.length ∧ (st = P.length ∨ q = st + B.length) ∧ (r = q ∨ r = P.length + A.length), ?_, ?_⟩
        · rintro x hh ⟨rfl, st0, r0, rfl, c1, c2, c3, c4, c5, c6, c7⟩
          refine loop_ (fun d u h2 => Ext hh h2 ∧ ∃ i j : Nat, st0 ≤ i ∧ i ≤ j ∧ j ≤ r0 ∧ u = ((i : Int), (j : Int)) ∧ d = j - i ∧
              (i = st0 ∨ ∃ x y, A[i - 1 - P.length]? = some x ∧ B[q - i]? = some y ∧ Le (ltOf c) x y) ∧ (j = r0 ∨ ∃ x y, A[j - P.length]? = some x ∧ B[q - 1 - j]? = some y ∧ ltOf c y x = true)) (r0 - st0)
            ⟨.refl, st0, r0, by omega, by omega, by omega, rfl, rfl, .inl rfl, .inl rfl⟩ ?_
          rintro d u h2 ⟨x2, i, j, i1, i2, i3, rfl, rfl, hlo, hhi⟩
          have o2 := o.ext x2
          refine if_ (fun hc => ?_) fun hc => ?_
          · have hc : i < j := by simp at hc; exact hc
            obtain ⟨t, ht⟩ : ∃ t : Nat, t = (i + j) / 2 := ⟨_, rfl⟩
            have hm2 := shr1 (i := (i : Int)) (j := (j : Int)) (by omega) (by omega) (by omega)
            have htn : ((i : Int) + (j : Int)) / 2 = ((t : Nat) : Int) := by omega
            rw [htn] at hm2
            simp only [hm2]
            have hta : t - P.length < A.length := by omega
            have htb : q - 1 - t < B.length := by omega
            have gx : A[t - P.length]? = some A[t - P.length] := by simp [hta]
            have gy : B[q - 1 - t]? = some B[q - 1 - t] := by simp [htb]
            generalize A[t - P.length] = x at gx
            generalize B[q - 1 - t] = y at gy
            have g1 := get_app1 (P := P) (B := B) (R := R) gx
            have g2 := get_app2 (P := P) (A := A) (R := R) gy
            have e1 : IntKind.wrap .i64 ((q + P.length + A.length : Nat) - 1 : Int) = ((q + P.length + A.length - 1 : Nat) : Int) := by rw [wi (by omega) (by omega)]; omega
            refine own_ix o2 (n := P.length + A.length + (q - 1 - t)) (by rw [e1, wi (by omega) (by omega)]; omega) (List.getElem?_eq_some_iff.1 g2).1 fun p hp => own_ld o2 hp g2 <| own_ix o2 (n := P.length + (t - P.length)) (by omega) (List.getElem?_eq_some_iff.1 g1).1 fun p2 hp2 => own_ld o2 hp2 g1 <| hf y x _ _ fun h3 e3 => ?_
            refine if_ (fun hl => ?_) fun hl => ?_
            · refine ⟨j - (t + 1), by omega, x2.trans e3, t + 1, j, by omega, by omega, by omega, ?_, rfl, .inr ⟨x, y, by rw [← gx]; congr 1, by rw [← gy]; congr 1; omega, by simpa [Le, ltOf] using hl⟩, hhi⟩
              rw [wi (by omega) (by omega)]; exact Prod.ext (by simp) rfl
            · exact ⟨t - i, by omega, x2.trans e3, i, t, by omega, by omega, by omega, rfl, rfl, hlo, .inr ⟨x, y, gx, gy, by simpa [ltOf] using hl⟩⟩
          · have hc : i = j := by simp at hc; omega
            subst hc
            obtain ⟨hle, hlt⟩ := split_ok w hsA hsB (i := i - P.length) (k := q - i)
              (by
                rcases hlo with rfl | ⟨x, y, hx, hy, hl⟩
                · rcases c6 with c6 | c6
                  · left; omega
                  · right; left; omega
                · by_cases h0 : i = P.length
                  · left; omega
                  · right; right; exact ⟨x, y, by rw [← hx]; congr 1; omega, hy, hl⟩)
              (by
                rcases hhi with rfl | ⟨x, y, hx, hy, hl⟩
                · rcases c7 with c7 | c7
                  · right; left; omega
                  · left; omega
                · by_cases h0 : q = i
                  · right; left; omega
                  · right; right; exact ⟨x, y, hx, by rw [← hy]; congr 1; omega, hl⟩)
            have spA : A = A.take (i - P.length) ++ A.drop (i - P.length) := by simp
            have spB : B = B.take (q - i) ++ B.drop (q - i) := by simp
            have lA1 : (A.take (i - P.length)).length = i - P.length := by simp; omega
            have lB1 : (B.take (q - i)).length = q - i := by simp; omega
            generalize A.take (i - P.length) = A1 at spA hle lA1
            generalize A.drop (i - P.length) = A2 at spA hlt
            generalize B.take (q - i) = B1 at spB hlt lB1
            generalize B.drop (q - i) = B2 at spB hle
            subst spA spB
            simp only [List.length_append] at *
            obtain rfl : i = P.length + A1.length := by omega
            obtain rfl : q = P.length + A1.length + B1.length := by omega
            have hend : IntKind.wrap .i64 (((P.length + A1.length + B1.length + P.length + (A1.length + A2.length) : Nat) : Int) - ((P.length + A1.length : Nat) : Int)) = ((P.length + A1.length + B1.length + A2.length : Nat) : Int) := by
              rw [wi (by omega) (by omega)]; omega
            simp only [hend]
            refine ⟨fun _ h3 => Ag s.blk hh h3 ∧ Own e h3 s (P ++ A1 ++ B1 ++ A2 ++ B2 ++ R), ?_, ?_⟩
            · rintro _ h3 ⟨x3, o3⟩
              refine ⟨fun _ h4 => ∃ M1, SS (ltOf c) (A1 ++ B1) M1 ∧ M1.length = A1.length + B1.length ∧ Ag s.blk hh h4 ∧ Own e h4 s (P ++ M1 ++ A2 ++ B2 ++ R), ?_, ?_⟩
              · rintro _ h4 ⟨M1, s1, l1, x4, o4⟩
                have fin : ∀ h5 M2, SS (ltOf c) (A2 ++ B2) M2 → Ag s.blk hh h5 → Own e h5 s (P ++ M1 ++ M2 ++ R) → Q () h5 := fun h5 M2 s2 x5 o5 => k h5 (M1 ++ M2) x5 (SS.two w hsA hsB hle hlt s1 s2) (by simpa using o5)
                refine j_ (if_ (fun g1 => if_ (fun g2 => ?_) fun g2 => ?_) fun g1 => if_ (fun h => by cases h) fun _ => ?_)
                · simp only [decide_eq_true_eq] at g1 g2
                  refine symMerge_ w hf fuel (P := P ++ M1) (A := A2) (B := B2) (R := R) o4 (by simp; omega) (by simp; omega) (by simp; omega) ?_ ?_ ?_ ?_ (by simp; omega) (by omega) fun h5 M2 x5 s2 o5 => fin h5 M2 s2 (x4.trans x5) o5
                  · intro h0; rw [h0] at g1; simp at g1
                  · intro h0; rw [h0] at g2; simp at g2; omega
                  · exact (List.pairwise_append.1 hsA).2.1
                  · exact (List.pairwise_append.1 hsB).2.1
                · simp only [decide_eq_true_eq, decide_eq_false_iff_not] at g1 g2
                  have : B2 = [] := by
                    have : B2.length = 0 := by omega
                    simpa using this
                  subst this
                  exact fin h4 A2 ⟨(List.pairwise_append.1 hsA).2.1, by simpa using Cls.refl⟩ x4 (by simpa using o4)
                · simp only [decide_eq_false_iff_not] at g1
                  have : A2 = [] := by
                    have : A2.length = 0 := by omega
                    simpa using this
                  subst this
                  exact fin h4 B2 ⟨(List.pairwise_append.1 hsB).2.1, by simpa using Cls.refl⟩ x4 (by simpa using o4)
              · refine j_ (if_ (fun g1 => if_ (fun g2 => ?_) fun g2 => ?_) fun g1 => if_ (fun h => by cases h) fun _ => ?_)
                · simp only [decide_eq_true_eq] at g1 g2
                  refine symMerge_ w hf fuel (P := P) (A := A1) (B := B1) (R := A2 ++ B2 ++ R) (by simpa using o3) rfl rfl (by simp) ?_ ?_ ?_ ?_ (by omega) (by omega) fun h4 M1 x4 s1 o4 => ?_
                  · intro h0; rw [h0] at g1; simp at g1
                  · intro h0; rw [h0] at g2; simp at g2
                  · exact (List.pairwise_append.1 hsA).1
                  · exact (List.pairwise_append.1 hsB).1
                  · refine ⟨M1, s1, ?_, x3.trans x4, by simpa using o4⟩
                    have e3 := o3.len
                    have e4 := o4.len
                    simp at e3 e4; omega
                · simp only [decide_eq_true_eq, decide_eq_false_iff_not] at g1 g2
                  have : B1 = [] := by
                    have : B1.length = 0 := by omega
                    simpa using this
                  subst this
                  exact ⟨A1, ⟨(List.pairwise_append.1 hsA).1, by simpa using Cls.refl⟩, by simp, x3, by simpa using o3⟩
                · simp only [decide_eq_false_iff_not] at g1
                  have : A1 = [] := by
                    have : A1.length = 0 := by omega
                    simpa using this
                  subst this
                  exact ⟨B1, ⟨(List.pairwise_append.1 hsB).1, by simpa using Cls.refl⟩, by simp, x3, by simpa using o3⟩
            · refine j_ (if_ (fun g1 => if_ (fun g2 => ?_) fun g2 => ?_) fun g1 => if_ (fun h => by cases h) fun _ => ?_)
              · simp only [decide_eq_true_eq] at g1 g2
                refine rotate_ (P := P ++ A1) (U := A2) (V := B1) (R := B2 ++ R) (by simpa using o2) (by simp) (by simp; omega) (by simp; omega) ?_ ?_ (by simp; omega) fun h3 x3 o3 => ⟨(Ag.of x2).trans x3, by simpa using o3⟩
                · intro h0; rw [h0] at g1; simp at g1
                · intro h0; rw [h0] at g2; simp at g2; omega
              · simp only [decide_eq_true_eq, decide_eq_false_iff_not] at g1 g2
                have : B1 = [] := by
                  have : B1.length = 0 := by omega
                  simpa using this
                subst this
                exact ⟨.of x2, by simpa using o2⟩
              · simp only [decide_eq_false_iff_not] at g1
                have : A2 = [] := by
                  have : A2.length = 0 := by omega
                  simpa using this
                subst this
                exact ⟨.of x2, by simpa using o2⟩
        · refine if_ (fun g => ⟨rfl, ?_⟩) fun g => ⟨rfl, ?_⟩
          · simp only [decide_eq_true_eq] at g
            refine ⟨q + P.length + A.length - (P.length + A.length + B.length), q, ?_, by omega, by omega, by omega, by omega, by omega, .inr (by omega), .inl rfl⟩
            rw [wi (by omega) (by omega)]; exact Prod.ext (by simp; omega) rfl
          · simp only [decide_eq_false_iff_not] at g
            exact ⟨P.length, P.length + A.length, rfl, by omega, by omega, by omega, by omega, by omega, .inl rfl, .inr rfl⟩
end Lf
end Go
namespace Go
namespace Lf
section
variable {S : Type} {lt : S → S → Bool} {n : Nat}
inductive Ch (lt : S → S → Bool) (n : Nat) : List S → Prop
  | last {M : List S} (h : M.Pairwise (Le lt)) (hl : M.length ≤ n) : Ch lt n M
  | cons {M L : List S} (h : M.Pairwise (Le lt)) (hl : M.length = n) (k : Ch lt n L) : Ch lt n (M ++ L)
inductive Fl (lt : S → S → Bool) (n : Nat) : List S → Prop
  | nil : Fl lt n []
  | cons {M L : List S} (h : M.Pairwise (Le lt)) (hl : M.length = n) (k : Fl lt n L) : Fl lt n (M ++ L)
theorem Fl.ch {P L : List S} (h : Fl lt n P) (k : Ch lt n L) : Ch lt n (P ++ L) := by
  induction h with
  | nil => exact k
  | cons h hl _ ih => rw [List.append_assoc]; exact .cons h hl ih
theorem Fl.snoc {P M : List S} (h : Fl lt n P) (hs : M.Pairwise (Le lt)) (hl : M.length = n) : Fl lt n (P ++ M) := by
  induction h with
  | nil => have := Fl.cons hs hl (.nil (lt := lt) (n := n)); simpa using this
  | cons h hl _ ih => rw [List.append_assoc]; exact .cons h hl ih
theorem Ch.sorted {L : List S} (h : Ch lt n L) (hn : L.length ≤ n) : L.Pairwise (Le lt) := by
  cases h with
  | last h _ => exact h
  | @cons M L h hl _ =>
    have : L = [] := by
      have : L.length = 0 := by simp at hn; omega
      simpa using this
    subst this; simpa using h
end
variable {S : Type} {e : Elt S} {h h' : Hp} {s : Sl} {l : List S} {f : S → S → (Int → Hp → Prop) → Hp → Prop} {c : S → S → Int}
theorem sort_ (w : Swo (ltOf c)) (hf : PureF f c) {Q : Unit → Hp → Prop} (o : Own e h s l) (hbig : l.length < 2 ^ 60)
    (k : ∀ h' l', Ag s.blk h h' → SS (ltOf c) l l' → Own e h' s l' → Q () h') : slices_SortStableFunc_G e s f Q h := by
  unfold slices_SortStableFunc_G slices_stableCmpFunc_G
  have hsl := o.len
  rw [hsl]
  -- blocks of 20
  refine loop_ (fun m u h1 => ∃ P Y, Cls (ltOf c) l (P ++ Y) ∧ Fl (ltOf c) 20 P ∧ l.length = P.length + Y.length ∧ u = ((P.length : Int), ((P.length + 20 : Nat) : Int)) ∧ m = Y.length ∧ Ag s.blk h h1 ∧ Own e h1 s (P ++ Y)) l.length
    ⟨[], l, .refl, .nil, by simp, by simp, rfl, .refl, o⟩ ?_
  rintro m u h1 ⟨P, Y, hc, hP, hl, rfl, rfl, x1, o1⟩
  refine if_ (fun g => ?_) fun g => ?_
  · simp only [decide_eq_true_eq] at g
    have hsp : Y = Y.take 20 ++ Y.drop 20 := by simp
    have l1 : (Y.take 20).length = 20 := by simp; omega
    generalize Y.take 20 = M at hsp l1
    generalize Y.drop 20 = R at hsp
    subst hsp
    simp only [List.length_append] at *
    refine insertion_ w hf (P := P) (M := M) (R := R) (by simpa using o1) rfl (by omega) (by omega) fun h2 M' x2 s2 o2 => ?_
    have l2 : M'.length = 20 := by
      have e1 := o1.len
      have e2 := o2.len
      simp at e1 e2; omega
    refine ⟨R.length, by omega, P ++ M', R, ?_, hP.snoc s2.sorted l2, by simp; omega, ?_, rfl, x1.trans x2, by simpa using o2⟩
    · have := (Cls.refl (lt := ltOf c) (a := P)).app (s2.cls.app (Cls.refl (a := R)))
      have := hc.trans this
      simpa using this
    · rw [wi (by omega) (by omega)]; exact Prod.ext (by simp; omega) (by simp; omega)
  · simp only [decide_eq_false_iff_not] at g
    refine insertion_ w hf (P := P) (M := Y) (R := []) (by simpa using o1) rfl (by omega) (by omega) fun h2 M' x2 s2 o2 => ?_
    have l2 : M'.length = Y.length := by
      have e1 := o1.len
      have e2 := o2.len
      simp at e1 e2; omega
    refine loop_ (fun m u h3 => ∃ n L, Cls (ltOf c) l L ∧ Ch (ltOf c) n L ∧ L.length = l.length ∧ 0 < n ∧ u = (n : Int) ∧ n < 2 ^ 61 ∧ m = l.length - n ∧ Ag s.blk h h3 ∧ Own e h3 s L) (l.length - 20)
      ⟨20, P ++ M', ?_, hP.ch (.last s2.sorted (by omega)), by simp; omega, by omega, rfl, by omega, rfl, x1.trans x2, by simpa using o2⟩ ?_
    · have := (Cls.refl (lt := ltOf c) (a := P)).app s2.cls
      exact hc.trans this
    rintro m u h3 ⟨n, L, hcl, hch, hll, hn0, rfl, hnb, rfl, x3, o3⟩
    refine if_ (fun g2 => ?_) fun g2 => ?_
    · simp only [decide_eq_true_eq] at g2
      have w2 : IntKind.wrap .i64 ((2 : Int) * (n : Int)) = ((2 * n : Nat) : Int) := by rw [wi (by omega) (by omega)]; omega
      have w3 : IntKind.wrap .i64 ((n : Int) * (2 : Int)) = ((2 * n : Nat) : Int) := by rw [wi (by omega) (by omega)]; omega
      simp only [w2, w3]
      refine loop_ (fun m u h4 => ∃ P Y, Cls (ltOf c) l (P ++ Y) ∧ Fl (ltOf c) (2 * n) P ∧ Ch (ltOf c) n Y ∧ l.length = P.length + Y.length ∧ u = ((P.length : Int), ((P.length + 2 * n : Nat) : Int)) ∧ m = Y.length ∧ Ag s.blk h h4 ∧ Own e h4 s (P ++ Y)) l.length
        ⟨[], L, hcl, .nil, hch, by simp [hll], by simp, by rw [hll], x3, o3⟩ ?_
      rintro m u h4 ⟨P, Y, hc4, hP4, hY4, hl4, rfl, rfl, x4, o4⟩
      refine if_ (fun g3 => ?_) fun g3 => ?_
      · simp only [decide_eq_true_eq] at g3
        cases hY4 with
        | last h hl => exfalso; omega
        | @cons M1 L1 hs1 hl1 k1 =>
          have split2 : ∃ M2 L2, L1 = M2 ++ L2 ∧ M2.Pairwise (Le (ltOf c)) ∧ M2.length = n ∧ Ch (ltOf c) n L2 := by
            cases k1 with
            | last h hl => exact ⟨L1, [], by simp, h, by simp at hl4; omega, .last .nil (by simp)⟩
            | @cons M2 L2 hs2 hl2 k2 => exact ⟨M2, L2, rfl, hs2, hl2, k2⟩
          obtain ⟨M2, L2, rfl, hs2, hl2, k2⟩ := split2
          simp only [List.length_append] at hl4 g3 ⊢
          refine ⟨2 * n, ?_⟩
          refine symMerge_ w hf (2 * n) (P := P) (A := M1) (B := M2) (R := L2) (by simpa using o4) rfl (by rw [wi (by omega) (by omega)]; omega) (by omega) ?_ ?_ hs1 hs2 (by omega) (by omega) fun h5 M x5 s5 o5 => ?_
          · intro h0; rw [h0] at hl1; simp at hl1; omega
          · intro h0; rw [h0] at hl2; simp at hl2; omega
          · have l5 : M.length = 2 * n := by
              have e1 := o4.len
              have e2 := o5.len
              simp at e1 e2; omega
            refine ⟨L2.length, by omega, P ++ M, L2, ?_, hP4.snoc s5.sorted l5, k2, by simp; omega, ?_, rfl, x4.trans x5, by simpa using o5⟩
            · have := (Cls.refl (lt := ltOf c) (a := P)).app (s5.cls.app (Cls.refl (a := L2)))
              have := hc4.trans (by simpa using this)
              simpa using this
            · rw [wi (by omega) (by omega)]; exact Prod.ext (by simp; omega) (by simp; omega)
      · simp only [decide_eq_false_iff_not] at g3
        have wm : IntKind.wrap .i64 ((P.length : Int) + (n : Int)) = ((P.length + n : Nat) : Int) := by rw [wi (by omega) (by omega)]; omega
        simp only [wm]
        obtain ⟨n0, hn00⟩ : ∃ n0, n0 = n := ⟨n, rfl⟩
        have done : ∀ h5 Y', Ag s.blk h h5 → Own e h5 s (P ++ Y') → Y'.Pairwise (Le (ltOf c)) → Cls (ltOf c) Y Y' → ∃ m', m' < l.length - n0 ∧ ∃ n L, Cls (ltOf c) l L ∧ Ch (ltOf c) n L ∧ L.length = l.length ∧ 0 < n ∧ ((2 * n0 : Nat) : Int) = (n : Int) ∧ n < 2 ^ 61 ∧ m' = l.length - n ∧ Ag s.blk h h5 ∧ Own e h5 s L := by
          intro h5 Y' x5 o5 hs5 hc5
          have l5 : Y'.length = Y.length := by
            have e1 := o4.len
            have e2 := o5.len
            simp at e1 e2; omega
          exact ⟨l.length - 2 * n, by omega, 2 * n, P ++ Y', hc4.trans (Cls.refl.app hc5), hP4.ch (.last hs5 (by omega)), by simp; omega, by omega, by rw [hn00], by omega, rfl, x5, o5⟩
        rw [hn00] at done
        refine j_ (if_ (fun g4 => ?_) fun g4 => ?_)
        · simp only [decide_eq_true_eq] at g4
          cases hY4 with
          | last h hl => exfalso; omega
          | @cons M1 L1 hs1 hl1 k1 =>
            simp only [List.length_append] at hl4 g3 g4
            have hs2 : L1.Pairwise (Le (ltOf c)) := k1.sorted (by omega)
            refine ⟨2 * n, ?_⟩
            refine symMerge_ w hf (2 * n) (P := P) (A := M1) (B := L1) (R := []) (by simpa using o4) rfl (by omega) (by omega) ?_ ?_ hs1 hs2 (by omega) (by omega) fun h5 M x5 s5 o5 => ?_
            · intro h0; rw [h0] at hl1; simp at hl1; omega
            · intro h0; rw [h0] at hl4; simp at hl4; omega
            · exact done h5 M (x4.trans x5) (by simpa using o5) s5.sorted s5.cls
        · simp only [decide_eq_false_iff_not] at g4
          exact done h4 Y x4 o4 (hY4.sorted (by omega)) .refl
    · simp only [decide_eq_false_iff_not] at g2
      exact k h3 L x3 ⟨hch.sorted (by omega), hcl⟩ o3
end Lf
end Go
namespace Go
namespace Lf
variable {S : Type} {e : Elt S} {h h' : Hp} {s : Sl} {l : List S} {by_ : Nat} {z : S}
theorem zrep_len (zs : List Value) (n : Nat) : (zrep zs n).length = n * zs.length := by simp [zrep]
/-- room for so many -/
theorem grow_ {n : Nat} {Q : Sl → Hp → Prop} (hb : (2 * n + 192) * by_ ≤ 2 ^ 48) (hn : n < 2 ^ 62) (k : ∀ s' h', Ext h h' → Own e h' s' [] → (∀ i ∈ s'.blk, h.size ≤ i) → Q s' h') :
    slices_Grow_G e by_ z Sl.nil (n : Int) Q h := by
  unfold slices_Grow_G
  refine j_ (if_ (fun g => ?_) fun _ => j_ (if_ (fun g => ?_) fun g => ?_))
  · simp at g; omega
  · have w1 : IntKind.wrap .i64 (((Sl.nil.cap : Nat) : Int) - ((Sl.nil.len : Nat) : Int)) = 0 := by simp [Sl.nil]; exact wi (by omega) (by omega)
    have w2 : IntKind.wrap .i64 ((n : Int) - 0) = n := by rw [wi (by omega) (by omega)]; omega
    simp only [w1, w2] at g ⊢
    simp only [decide_eq_true_eq] at g
    refine ⟨by simp, by simp [Sl.nil], by simp [Sl.nil], by omega, ?_, by omega, ?_⟩
    · have : n * by_ ≤ (2 * n + 192) * by_ := Nat.mul_le_mul_right _ (by omega)
      have h1 : n * by_ ≤ 281474976710656 := Nat.le_trans this hb
      have h2 := Int.ofNat_le.2 h1
      rw [Int.natCast_mul] at h2
      exact h2
    · simp only [Sl.sub, Sl.nil, Int.toNat_natCast]
      refine ⟨fun g2 => by simp at g2; omega, fun _ => ⟨?_, by simp; omega, [], by simp [Cs], ?_⟩⟩
      · have := ncap_le (need := 0 - 0 + n) (cap := 0 - 0) (by omega)
        exact Nat.le_trans (Nat.mul_le_mul_right _ this) (by simpa using hb)
      · intro T cap rest hc hr
        refine ⟨by simp, by simp, by simp, ?_⟩
        refine k _ _ .push ⟨by simp [Sl.sub], .inr ⟨h.size, T, zrep (e.cells z) n ++ rest, ?_, by simp, ?_, by simp [Sl.sub]⟩⟩ ?_
        · simp [Sl.sub, add_zero']
        · simp only [Sl.sub, List.length_append, zrep_len, e.len, hr]
          simp at hc
          rw [← Nat.add_mul]
          congr 1
          simp; omega
        · simp [Sl.sub, Sl.blk, add_zero']
  · have w1 : IntKind.wrap .i64 (((Sl.nil.cap : Nat) : Int) - ((Sl.nil.len : Nat) : Int)) = 0 := by simp [Sl.nil]; exact wi (by omega) (by omega)
    exact k _ _ .refl .nil (by simp [Sl.blk, Sl.nil])
/-- a list of slices -/
def eSl : Elt Sl := ⟨fun s => [Sl.enc s], 1, fun _ => rfl, fun _ => rfl⟩
theorem row_ld {α : Type} {enc : α → Value} {p : Addr} {x : α} {K : α → Prop} (r : Row h p [enc x]) (k : K x) : Ld enc h p K := ⟨x, by simpa [add_zero'] using r 0 _ rfl, k⟩
theorem concat_ {A B : Nat → Prop} {ss : List Sl} {ls : List (List S)} {a0 : Sl} {Q : Sl → Hp → Prop} (ra : Rows A eSl h a0 ss) (hl : ss.length = ls.length) (rs : ∀ (i : Nat) (s : Sl) (l : List S), ss[i]? = some s → ls[i]? = some l → Rows B e h s l)
    (hb : (2 * ls.flatten.length + 192) * by_ ≤ 2 ^ 48) (hn : ls.flatten.length < 2 ^ 60) (hk : ss.length < 2 ^ 60) (k : ∀ s' h', Ext h h' → Own e h' s' ls.flatten → (∀ i ∈ s'.blk, h.size ≤ i) → Q s' h') :
    slices_Concat_G e by_ z a0 Q h := by
  unfold slices_Concat_G
  have hal := ra.1
  have pre : ∀ i : Nat, i ≤ ls.length → (ls.take i).flatten.length ≤ ls.flatten.length := fun i _ => by
    conv => rhs; rw [← List.take_append_drop i ls]
    rw [List.flatten_append, List.length_append]; omega
  have nxt : ∀ (i : Nat) (l : List S), ls[i]? = some l → (ls.take (i + 1)) = ls.take i ++ [l] := fun i l hi => by
    rw [List.take_add_one, hi]; rfl
  refine loop_ (fun m u h1 => h1 = h ∧ ∃ i : Nat, i ≤ ss.length ∧ u = (((ls.take i).flatten.length : Int), (i : Int)) ∧ m = ss.length - i) ss.length ⟨rfl, 0, by omega, by simp, by simp⟩ ?_
  rintro m u hh ⟨rfl, i, hi, rfl, rfl⟩
  refine if_ (fun g => ?_) fun g => ?_
  · simp only [decide_eq_true_eq] at g
    have hil : i < ss.length := by omega
    have gs : ss[i]? = some ss[i] := by simp [hil]
    have gl : ls[i]? = some (ls[i]'(by omega)) := by simp [show i < ls.length by omega]
    generalize ss[i] = s0 at gs
    generalize ls[i]'(by omega) = l0 at gl
    have r0 := rs i s0 l0 gs gl
    have hnx := nxt i l0 gl
    have hp1 := pre (i + 1) (by omega)
    rw [hnx] at hp1
    simp only [List.flatten_append, List.length_append, List.flatten_cons, List.flatten_nil, List.append_nil] at hp1
    refine j_ (ix_ ra rfl gs fun p _ rp => row_ld rp ?_)
    have w1 : IntKind.wrap .i64 (((ls.take i).flatten.length : Int) + (s0.len : Int)) = ((ls.take (i + 1)).flatten.length : Int) := by
      rw [r0.1, wi (by omega) (by omega), hnx]; simp
    simp only [w1]
    refine if_ (fun g2 => by simp at g2; omega) fun _ => ⟨ss.length - (i + 1), by omega, by trivial, i + 1, by omega, by rw [wi (by omega) (by omega)]; rfl, rfl⟩
  · simp only [decide_eq_false_iff_not] at g
    have : i = ss.length := by omega
    subst this
    rw [List.take_of_length_le (by omega)]
    refine grow_ hb (by omega) fun r h2 e2 o2 hr => ?_
    refine loop_ (fun m u h3 => ∃ i : Nat, i ≤ ss.length ∧ u.2 = (i : Int) ∧ m = ss.length - i ∧ Ext hh h3 ∧ Own e h3 u.1 (ls.take i).flatten ∧ (∀ j ∈ u.1.blk, hh.size ≤ j)) ss.length ⟨0, by omega, rfl, by simp, e2, by simpa using o2, hr⟩ ?_
    rintro m ⟨u1, u2⟩ h3 ⟨i, hi, hu, rfl, x3, o3, b3⟩
    simp only at hu o3 b3
    subst hu
    refine if_ (fun g => ?_) fun g => ?_
    · simp only [decide_eq_true_eq] at g
      have hil : i < ss.length := by omega
      have gs : ss[i]? = some ss[i] := by simp [hil]
      have gl : ls[i]? = some (ls[i]'(by omega)) := by simp [show i < ls.length by omega]
      generalize ss[i] = s0 at gs
      generalize ls[i]'(by omega) = l0 at gl
      have r0 := (rs i s0 l0 gs gl).ext x3
      have hnx := nxt i l0 gl
      have hp1 := pre (i + 1) (by omega)
      rw [hnx] at hp1
      simp only [List.flatten_append, List.length_append, List.flatten_cons, List.flatten_nil, List.append_nil] at hp1
      refine ix_ (ra.ext x3) rfl gs fun p _ rp => row_ld rp ?_
      refine apps_ o3 r0 (Nat.le_trans (Nat.mul_le_mul_right _ (by omega)) hb) (by omega) fun s4 h4 x4 o4 b4 => ?_
      refine ⟨ss.length - (i + 1), by omega, i + 1, by omega, by rw [wi (by omega) (by omega)]; rfl, rfl, x3.over x4 b3, by rw [hnx]; simpa using o4, fun j hj => ?_⟩
      rcases b4 j hj with h | h
      · exact b3 j h
      · exact Nat.le_trans x3.size h
    · simp only [decide_eq_false_iff_not] at g
      have : i = ss.length := by omega
      subst this
      rw [List.take_of_length_le (by omega)] at o3
      exact k _ _ x3 o3 b3
end Lf
end Go
namespace Go
namespace Lf
section
variable {S : Type} {lt : S → S → Bool}
theorem Cls.perm (w : Swo lt) : ∀ (n : Nat) {a b : List S}, a.length ≤ n → Cls lt a b → b.Perm a
  | 0, a, b, hn, h => by
    have : a = [] := by simpa using hn
    subst this
    cases b with
    | nil => exact .refl _
    | cons y b => have := (h.mem w (x := y)).1 (by simp); simp at this
  | n + 1, [], b, _, h => by
    cases b with
    | nil => exact .refl _
    | cons y b => have := (h.mem w (x := y)).1 (by simp); simp at this
  | n + 1, x :: a, b, hn, h => by
    have h1 := List.filter_append_perm (eqv lt x) (x :: a)
    have h2 := List.filter_append_perm (eqv lt x) b
    have h3 : Cls lt ((x :: a).filter fun y => !eqv lt x y) (b.filter fun y => !eqv lt x y) := fun z => by
      have fc : ∀ (p q : S → Bool) (l : List S), (l.filter q).filter p = (l.filter p).filter q := fun p q l => by
        simp only [List.filter_filter]
        congr 1; funext a; exact Bool.and_comm _ _
      rw [fc, h z, fc]
    have hlen : ((x :: a).filter fun y => !eqv lt x y).length ≤ n := by
      rw [List.filter_cons_of_neg (by simp [eqv_self w])]
      have := List.length_filter_le (fun y => !eqv lt x y) a
      simp at hn; omega
    have h4 := Cls.perm w n hlen h3
    rw [h x] at h2
    exact h2.symm.trans ((List.Perm.append_left _ h4).trans h1)
end
theorem eqv_iff {S : Type} {lt : S → S → Bool} {x y : S} : eqv lt x y = true ↔ Le lt x y ∧ Le lt y x := by
  simp only [eqv, Le, Bool.and_eq_true, Bool.not_eq_true']
  exact And.comm
theorem eqv_congr {S : Type} {lt : S → S → Bool} (w : Swo lt) {m a b : S} (h : eqv lt m a = true) : eqv lt m b = eqv lt a b := by
  obtain ⟨h1, h2⟩ := eqv_iff.1 h
  rw [Bool.eq_iff_iff, eqv_iff, eqv_iff]
  exact ⟨fun ⟨h3, h4⟩ => ⟨w.le_trans h2 h3, w.le_trans h4 h1⟩, fun ⟨h3, h4⟩ => ⟨w.le_trans h1 h3, w.le_trans h4 h2⟩⟩
/-- what elements stand for, and in which blocks that lies -/
structure Mdl (S M : Type) where
  rep : (Nat → Prop) → Hp → S → M → Prop
  weak : ∀ {A B : Nat → Prop} {h : Hp} {x : S} {m : M}, rep A h x m → (∀ i, A i → B i) → rep B h x m
  ag : ∀ {A : Nat → Prop} {W : List Nat} {h h' : Hp} {x : S} {m : M}, rep A h x m → Ag W h h' → (∀ i ∈ W, ¬ A i) → rep A h' x m
  uniq : ∀ {A B : Nat → Prop} {h : Hp} {x : S} {m n : M}, rep A h x m → rep B h x n → m = n
def Mdl.pure (S : Type) : Mdl S S := ⟨fun _ _ x m => x = m, fun h _ => h, fun h _ _ => h, fun h k => h.symm.trans k⟩
theorem Mdl.ext {S M : Type} (D : Mdl S M) {A : Nat → Prop} {h h' : Hp} {x : S} {m : M} (r : D.rep A h x m) (e : Ext h h') : D.rep A h' x m := D.ag r e fun _ h => by cases h
section
variable {M : Type}
def mstep (c : M → M → Int) (o : M → M → M) (acc : List M) (x : M) : List M :=
  match acc.getLast? with
  | some y => if c y x = 0 then acc.dropLast ++ [o y x] else acc ++ [x]
  | none => acc ++ [x]
def mfold (c : M → M → Int) (o : M → M → M) (l : List M) : List M := l.foldl (mstep c o) []
theorem mstep_nil {c : M → M → Int} {o : M → M → M} {x : M} : mstep c o [] x = [x] := rfl
theorem mstep_same {c : M → M → Int} {o : M → M → M} {acc : List M} {y x : M} (h : c y x = 0) : mstep c o (acc ++ [y]) x = acc ++ [o y x] := by simp [mstep, h]
theorem mstep_new {c : M → M → Int} {o : M → M → M} {acc : List M} {y x : M} (h : c y x ≠ 0) : mstep c o (acc ++ [y]) x = acc ++ [y] ++ [x] := by simp [mstep, h]
def wsum (wt : M → Nat) (l : List M) : Nat := (l.map wt).sum
theorem wsum_app (wt : M → Nat) (a b : List M) : wsum wt (a ++ b) = wsum wt a + wsum wt b := by simp [wsum]
/-- what a merge makes of rows -/
def Merged (c : M → M → Int) (o : M → M → M) (l out : List M) : Prop := ∃ l', SS (ltOf c) l l' ∧ out = mfold c o l'
end
inductive F2 {S M : Type} (R : S → M → Prop) : List S → List M → Prop
  | nil : F2 R [] []
  | cons {x : S} {m : M} {l : List S} {k : List M} (h : R x m) (t : F2 R l k) : F2 R (x :: l) (m :: k)
section
variable {S M : Type} {R R' : S → M → Prop}
theorem F2.imp {l : List S} {k : List M} (t : F2 R l k) (f : ∀ x m, x ∈ l → R x m → R' x m) : F2 R' l k := by
  induction t with
  | nil => exact .nil
  | cons h _ ih => exact .cons (f _ _ (by simp) h) (ih fun x m hx => f x m (by simp [hx]))
theorem F2.app {l l2 : List S} {k k2 : List M} (t : F2 R l k) (u : F2 R l2 k2) : F2 R (l ++ l2) (k ++ k2) := by
  induction t with
  | nil => exact u
  | cons h _ ih => exact .cons h ih
theorem F2.len {l : List S} {k : List M} (t : F2 R l k) : l.length = k.length := by
  induction t with
  | nil => rfl
  | cons _ _ ih => simp [ih]
theorem F2.snoc {l : List S} {x : S} {k : List M} (t : F2 R (l ++ [x]) k) : ∃ k' m, k = k' ++ [m] ∧ F2 R l k' ∧ R x m := by
  induction l generalizing k with
  | nil =>
    cases t with
    | cons h t => cases t with
      | nil => exact ⟨[], _, rfl, .nil, h⟩
  | cons y l ih =>
    cases t with
    | cons h t =>
      obtain ⟨k', m, rfl, h1, h2⟩ := ih t
      exact ⟨_ :: k', m, rfl, .cons h h1, h2⟩
theorem F2.get {l : List S} {k : List M} (t : F2 R l k) {i : Nat} {x : S} (hx : l[i]? = some x) : ∃ m, k[i]? = some m ∧ R x m := by
  induction t generalizing i with
  | nil => simp at hx
  | cons h _ ih =>
    cases i with
    | zero => simp at hx; subst hx; exact ⟨_, rfl, h⟩
    | succ i => simpa using ih (by simpa using hx)
theorem F2.map {μ : S → M} {l : List S} (h : ∀ x ∈ l, R x (μ x)) : F2 R l (l.map μ) := by
  induction l with
  | nil => exact .nil
  | cons x l ih => exact .cons (h x (by simp)) (ih fun y hy => h y (by simp [hy]))
end
section
variable {S M : Type} {e : Elt S} {h h' : Hp} {s : Sl} {l la lb : List S} {by_ : Nat} {z : S} {f : S → S → (Int → Hp → Prop) → Hp → Prop} {g : S → S → (S → Hp → Prop) → Hp → Prop} {cS : S → S → Int}
theorem own_disj {r o : Sl} (h1 : ∀ i ∈ o.blk, i ∉ r.blk) : ∀ i ∈ r.blk, i ∉ o.blk := fun i hi h => h1 i h hi
theorem wsum_mfold {c : M → M → Int} {o : M → M → M} {wt : M → Nat} (hw : ∀ m n, wt (o m n) ≤ wt m + wt n) (l : List M) : wsum wt (mfold c o l) ≤ wsum wt l := by
  have : ∀ (l acc : List M), wsum wt (l.foldl (mstep c o) acc) ≤ wsum wt acc + wsum wt l := by
    intro l
    induction l with
    | nil => intro acc; simp [wsum]
    | cons x l ih =>
      intro acc
      refine Nat.le_trans (ih _) ?_
      have : wsum wt (mstep c o acc x) ≤ wsum wt acc + wt x := by
        rcases List.eq_nil_or_concat acc with rfl | ⟨acc, y, rfl⟩
        · simp [mstep_nil, wsum]
        · rw [List.concat_eq_append]
          by_cases hc : c y x = 0
          · rw [mstep_same hc, wsum_app, wsum_app]; have := hw y x; simp [wsum]; omega
          · rw [mstep_new hc, wsum_app]; simp [wsum]
      simp only [wsum, List.map_cons, List.sum_cons] at *
      omega
  simpa [wsum, mfold] using this l []
theorem mfold_snoc {c : M → M → Int} {o : M → M → M} {l : List M} {x : M} : mfold c o (l ++ [x]) = mstep c o (mfold c o l) x := by simp [mfold, List.foldl_append]
theorem mstep_len {c : M → M → Int} {o : M → M → M} {acc : List M} {x : M} : (mstep c o acc x).length ≤ acc.length + 1 := by
  rcases List.eq_nil_or_concat acc with rfl | ⟨acc, y, rfl⟩
  · simp [mstep_nil]
  · rw [List.concat_eq_append]
    by_cases hc : c y x = 0
    · rw [mstep_same hc]; simp
    · rw [mstep_new hc]; simp
theorem mfold_len {c : M → M → Int} {o : M → M → M} (l : List M) : (mfold c o l).length ≤ l.length := by
  have : ∀ (l acc : List M), (l.foldl (mstep c o) acc).length ≤ acc.length + l.length := by
    intro l
    induction l with
    | nil => intro acc; simp
    | cons x l ih =>
      intro acc
      have := ih (mstep c o acc x)
      have := mstep_len (c := c) (o := o) (acc := acc) (x := x)
      simp only [List.foldl_cons, List.length_cons]; omega
  simpa [mfold] using this l []
theorem merged_ [Inhabited M] (D : Mdl S M) {cM : M → M → Int} {oM : M → M → M} {wt : M → Nat} {N : Nat} {A B : Nat → Prop} {a b : Sl} {ma mb : List M} {Q : Sl → Hp → Prop} (w : Swo (ltOf cS)) (wM : Swo (ltOf cM)) (hf : PureF f cS) (hc : ∀ {A B : Nat → Prop} {h x y m n}, D.rep A h x m → D.rep B h y n → cS x y = cM m n)
    (hwt : ∀ m n, wt (oM m n) ≤ wt m + wt n)
    (hg : ∀ h x y m n Q, D.rep (· < h.size) h x m → D.rep (· < h.size) h y n → wt m + wt n ≤ N → (∀ r h', Ext h h' → D.rep (fun i => h.size ≤ i ∧ i < h'.size) h' r (oM m n) → Q r h') → g x y Q h)
    (ra : Rows A e h a la) (rb : Rows A e h b lb) (hB : ∀ i, B i → i < h.size) (da : F2 (D.rep B h) la ma) (db : F2 (D.rep B h) lb mb) (hN : wsum wt (ma ++ mb) ≤ N) (hb : (2 * (la.length + lb.length) + 192) * by_ ≤ 2 ^ 48) (hn : la.length + lb.length < 2 ^ 60)
    (k : ∀ s' h' l' ms, Ext h h' → Own e h' s' l' → (∀ i ∈ s'.blk, h.size ≤ i) → F2 (D.rep (fun i => i < h'.size ∧ i ∉ s'.blk ∧ (B i ∨ h.size ≤ i)) h') l' ms → Merged cM oM (ma ++ mb) ms → Q s' h') :
    join_merged_G e by_ z a b f g Q h := by
  unfold join_merged_G
  refine alv_ .start fun b1 h2 f2 e2 r2 hb1 => ?_
  have ra2 := ra.ext e2
  have rb2 := rb.ext e2
  have r2s : Rows (· = b1.block) eSl h2 (Sl.mk (some b1) 2 2) [a, b] := by
    refine ⟨rfl, fun i x hi => ⟨b1, rfl, rfl, fun j v hj => ?_⟩⟩
    match i, hi with
    | 0, hi =>
      simp at hi; subst hi
      cases j with
      | zero => simp [eSl] at hj; subst hj; rw [add_add]; exact r2 0 _ rfl
      | succ j => simp [eSl] at hj
    | 1, hi =>
      simp at hi; subst hi
      cases j with
      | zero => simp [eSl] at hj; subst hj; rw [add_add]; exact r2 1 _ rfl
      | succ j => simp [eSl] at hj
    | i + 2, hi => simp at hi
  refine concat_ (B := A) (ls := [la, lb]) r2s rfl ?_ (by simpa using hb) (by simpa using hn) (by simp) fun r4 h4 e4 o4 b4 => ?_
  · intro i s l hs hl
    match i with
    | 0 => simp at hs hl; subst hs; subst hl; exact ra2
    | 1 => simp at hs hl; subst hs; subst hl; exact rb2
    | i + 2 => simp at hs
  simp only [List.flatten_cons, List.flatten_nil, List.append_nil] at o4
  refine sort_ w hf o4 (by simpa using hn) fun h6 l6 x6 s6 o6 => ?_
  have hb4 : ∀ i ∈ r4.blk, h.size ≤ i := fun i hi => Nat.le_trans e2.size (b4 i hi)
  have e06 : Ext h h6 := (e2.trans e4).over x6 hb4
  have hperm := Cls.perm w _ (Nat.le_refl _) s6.cls
  -- what each stands for
  have hd : ∀ x ∈ l6, ∃ m, D.rep B h x m := by
    intro x hx
    have := (s6.cls.mem w).1 hx
    rcases List.mem_append.1 this with hx | hx
    · obtain ⟨i, hi, rfl⟩ := List.mem_iff_getElem.1 hx
      obtain ⟨m, _, hm⟩ := da.get (i := i) (x := la[i]) (by simp [hi])
      exact ⟨m, hm⟩
    · obtain ⟨i, hi, rfl⟩ := List.mem_iff_getElem.1 hx
      obtain ⟨m, _, hm⟩ := db.get (i := i) (x := lb[i]) (by simp [hi])
      exact ⟨m, hm⟩
  classical
  let μ : S → M := fun x => if hx : ∃ m, D.rep B h x m then Classical.choose hx else default
  have hμ : ∀ x m, D.rep B h x m → μ x = m := by
    intro x m hm
    have hx : ∃ m, D.rep B h x m := ⟨m, hm⟩
    simp only [μ, dif_pos hx]
    exact D.uniq (Classical.choose_spec hx) hm
  have hrep : ∀ x ∈ l6, D.rep B h x (μ x) := by
    intro x hx
    obtain ⟨m, hm⟩ := hd x hx
    rw [hμ x m hm]; exact hm
  have mapμ : ∀ {l : List S} {k : List M}, F2 (D.rep B h) l k → l.map μ = k := by
    intro l k t
    induction t with
    | nil => rfl
    | cons hx _ ih => rw [List.map_cons, hμ _ _ hx, ih]
  have hms : (la ++ lb).map μ = ma ++ mb := by rw [List.map_append, mapμ da, mapμ db]
  have hltμ : ∀ x ∈ l6, ∀ y ∈ l6, ltOf cS x y = ltOf cM (μ x) (μ y) := by
    intro x hx y hy
    simp only [ltOf, hc (hrep x hx) (hrep y hy)]
  have hss : SS (ltOf cM) (ma ++ mb) (l6.map μ) := by
    have hmem : ∀ x, x ∈ l6 ↔ x ∈ la ++ lb := fun x => s6.cls.mem w
    refine ⟨?_, ?_⟩
    · rw [List.pairwise_map]
      refine s6.sorted.imp_of_mem fun {x y} hx hy hl => ?_
      simpa [Le, ← hltμ y hy x hx] using hl
    · rw [← hms]
      intro m
      -- by classes of the elements
      have key : ∀ (l : List S), (∀ x ∈ l, x ∈ l6) → ∀ x0 ∈ l6, (∀ x ∈ l6, eqv (ltOf cM) m (μ x) = eqv (ltOf cS) x0 x) → (l.map μ).filter (eqv (ltOf cM) m) = (l.filter (eqv (ltOf cS) x0)).map μ := by
        intro l hl x0 hx0 he
        rw [List.filter_map]
        congr 1
        refine List.filter_congr fun x hx => ?_
        simp [he x (hl x hx)]
      by_cases hex : ∃ x0 ∈ l6, eqv (ltOf cM) m (μ x0) = true
      · obtain ⟨x0, hx0, he0⟩ := hex
        have he : ∀ x ∈ l6, eqv (ltOf cM) m (μ x) = eqv (ltOf cS) x0 x := by
          intro x hx
          rw [eqv_congr wM he0]
          simp only [eqv, hltμ x0 hx0 x hx, hltμ x hx x0 hx0]
        rw [key l6 (fun _ h => h) x0 hx0 he, key (la ++ lb) (fun x hx => (hmem x).2 hx) x0 hx0 he, s6.cls x0]
      · have none : ∀ (l : List S), (∀ x ∈ l, x ∈ l6) → (l.map μ).filter (eqv (ltOf cM) m) = [] := by
          intro l hl
          rw [List.filter_eq_nil_iff]
          intro y hy
          obtain ⟨x, hx, rfl⟩ := List.mem_map.1 hy
          intro h; exact hex ⟨x, hl x hx, h⟩
        rw [none l6 (fun _ h => h), none (la ++ lb) (fun x hx => (hmem x).2 hx)]
  have hl6 : l6.length = la.length + lb.length := by rw [hperm.length_eq]; simp
  have hlen := o6.len
  have hms6 : wsum wt (l6.map μ) = wsum wt (ma ++ mb) := by
    rw [← hms]
    simp only [wsum]
    exact ((hperm.map μ).map wt).sum_nat
  refine loop_ (fun m u h9 => ∃ i L, i ≤ l6.length ∧ u.2 = (i : Int) ∧ m = l6.length - i ∧ Ext h h9 ∧ Own e h9 r4 l6 ∧ Own e h9 u.1 L ∧ (∀ j ∈ u.1.blk, h.size ≤ j ∧ j ∉ r4.blk) ∧ F2 (D.rep (fun j => j < h9.size ∧ j ∉ u.1.blk ∧ (B j ∨ h.size ≤ j)) h9) L (mfold cM oM ((l6.take i).map μ))) l6.length
    ⟨0, [], by omega, rfl, by simp, e06, o6, .nil, by simp [Sl.blk, Sl.nil], .nil⟩ ?_
  rintro m ⟨out, u2⟩ h9 ⟨i, L, hi, hu, rfl, e9, o9, oL, bL, dL⟩
  simp only at hu oL bL dL
  subst hu
  refine if_ (fun g0 => ?_) fun g0 => ?_
  · simp only [decide_eq_true_eq] at g0
    have hil : i < l6.length := by omega
    have gx : l6[i]? = some l6[i] := by simp [hil]
    have hx6 : l6[i] ∈ l6 := by simp
    have hrx := hrep _ hx6
    have hsp : (l6.take (i + 1)).map μ = (l6.take i).map μ ++ [μ l6[i]] := by rw [List.take_add_one, gx, List.map_append]; rfl
    generalize hxx : l6[i] = x at gx hx6 hrx hsp
    have hLl : L.length ≤ i := by
      have h1 := dL.len
      have h2 := mfold_len (c := cM) (o := oM) ((l6.take i).map μ)
      rw [List.length_map, List.length_take] at h2
      omega
    have hws : wsum wt (mfold cM oM ((l6.take i).map μ)) + wt (μ x) ≤ N := by
      have h1 := wsum_mfold (c := cM) hwt ((l6.take i).map μ)
      have h2 : wsum wt ((l6.take (i + 1)).map μ) ≤ wsum wt (l6.map μ) := by
        conv => rhs; rw [← List.take_append_drop (i + 1) l6, List.map_append, wsum_app]
        omega
      rw [hsp, wsum_app, hms6] at h2
      simp [wsum] at h1 h2 hN ⊢
      omega
    -- how a round ends
    have nxt : ∀ out' h', Ext h h' → Own e h' r4 l6 → ∀ L', Own e h' out' L' → (∀ j ∈ out'.blk, h.size ≤ j ∧ j ∉ r4.blk) → F2 (D.rep (fun j => j < h'.size ∧ j ∉ out'.blk ∧ (B j ∨ h.size ≤ j)) h') L' (mstep cM oM (mfold cM oM ((l6.take i).map μ)) (μ x)) →
        ∃ m', m' < l6.length - i ∧ ∃ i_1 L, i_1 ≤ l6.length ∧ IntKind.wrap .i64 ((i : Int) + 1) = (i_1 : Int) ∧ m' = l6.length - i_1 ∧ Ext h h' ∧ Own e h' r4 l6 ∧ Own e h' out' L ∧ (∀ j ∈ out'.blk, h.size ≤ j ∧ j ∉ r4.blk) ∧ F2 (D.rep (fun j => j < h'.size ∧ j ∉ out'.blk ∧ (B j ∨ h.size ≤ j)) h') L (mfold cM oM ((l6.take i_1).map μ)) := by
      intro out' h' x1 x2 L' x3 x4 x5
      exact ⟨l6.length - (i + 1), by omega, i + 1, L', by omega, by rw [wi (by omega) (by omega)]; rfl, rfl, x1, x2, x3, x4, by rw [hsp, mfold_snoc]; exact x5⟩
    refine j_ (own_ix o9 rfl hil fun p hp => own_ld o9 hp gx ?_)
    refine al_ (Fr.mk e9 (bs := []) (fun _ h => by cases h) (.refl : Ext h9 h9)) fun b18 h19 f19 e19 hb18 hbe => st_ f19 (by simp) hb18 fun h20 f20 x20 => ?_
    -- a new one
    have new : ∀ h23, Ext h9 h23 → mstep cM oM (mfold cM oM ((l6.take i).map μ)) (μ x) = mfold cM oM ((l6.take i).map μ) ++ [μ x] → Al h23 (List.flatten [e.cells x]) fun b33 h34 => AppS h34 out (Sl.mk (some b33) 1 1) e.sz by_ fun v35 h36 => ∃ m', m' < l6.length - i ∧ ∃ i_1 L, i_1 ≤ l6.length ∧ IntKind.wrap .i64 ((i : Int) + 1) = (i_1 : Int) ∧ m' = l6.length - i_1 ∧ Ext h h36 ∧ Own e h36 r4 l6 ∧ Own e h36 v35 L ∧ (∀ j ∈ v35.blk, h.size ≤ j ∧ j ∉ r4.blk) ∧ F2 (D.rep (fun j => j < h36.size ∧ j ∉ v35.blk ∧ (B j ∨ h.size ≤ j)) h36) L (mfold cM oM ((l6.take i_1).map μ)) := by
      intro h23 e23 hm
      refine alv_ (.start (h := h23)) fun b33 h34 f34 e34 r34 hb33 => ?_
      have e934 : Ext h9 h34 := e23.trans e34
      rw [List.flatten_singleton] at r34
      refine app1_ (oL.ext e934) r34 (Nat.le_trans (Nat.mul_le_mul_right _ (by omega)) hb) (by omega) fun s' h' x' o' b' => ?_
      have hdis : ∀ j ∈ s'.blk, h.size ≤ j ∧ j ∉ r4.blk := by
        intro j hj
        rcases b' j hj with h1 | h1
        · exact bL j h1
        · refine ⟨Nat.le_trans (e9.trans e934).size h1, fun h2 => ?_⟩
          have := (o9.ext e934).lt j h2
          omega
      refine nxt s' h' ((e9.trans e934).over x' fun j hj => (bL j hj).1) ((o9.ext e934).ag x' fun j hj => (bL j hj).2) _ o' hdis ?_
      rw [hm]
      refine F2.app (dL.imp fun y m _ hr => ?_) (.cons ?_ .nil)
      · refine D.weak (D.ag (D.ext hr e934) x' fun j hj hA => hA.2.1 hj) fun j hA => ⟨Nat.lt_of_lt_of_le hA.1 (Nat.le_trans e934.size x'.size), fun hj => ?_, hA.2.2⟩
        rcases b' j hj with h1 | h1
        · exact hA.2.1 h1
        · have := e934.size; omega
      · refine D.weak (D.ag (D.ext hrx (e9.trans e934)) x' fun j hj hA => by have := (bL j hj).1; have := hB j hA; omega) fun j hA => ⟨Nat.lt_of_lt_of_le (hB j hA) (Nat.le_trans (e9.trans e934).size x'.size), fun hj => ?_, .inl hA⟩
        have := (hdis j hj).1; have := hB j hA; omega
    refine j_ (if_ (fun g1 => ?_) fun g1 => ?_)
    · simp only [decide_eq_true_eq] at g1
      have hne : L ≠ [] := by
        intro h0; have := oL.len; rw [h0] at this; simp at this; omega
      obtain ⟨L1, y, rfl⟩ : ∃ X1' x, L = X1' ++ [x] := ⟨L.dropLast, L.getLast hne, (List.dropLast_concat_getLast hne).symm⟩
      obtain ⟨k1, my, hk, dL1, dy⟩ := dL.snoc
      have hLn := oL.len
      simp only [List.length_append, List.length_cons, List.length_nil] at hLn hLl
      have gy : (L1 ++ [y])[L1.length]? = some y := by simp
      have wl : IntKind.wrap .i64 ((out.len : Int) - 1) = (L1.length : Int) := by rw [wi (by omega) (by omega)]; omega
      have oL20 := oL.ext f20.eA
      refine own_ix oL20 wl (by simp) fun p2 hp2 => own_ld oL20 hp2 gy <| hf y x _ _ fun h43 e43 => kp_ f20 e43 (by simp) fun f43 => ?_
      have hcm : cS y x = cM my (μ x) := hc dy (D.ext hrx e9)
      refine if_ (fun g2 => ?_) fun g2 => ?_
      · have g2 : cM my (μ x) = 0 := by rw [← hcm]; simpa using g2
        have oL43 := oL.ext f43.eA
        refine own_ix oL43 wl (by simp) fun p3 hp3 => own_ld oL43 hp3 gy ?_
        rw [hk] at hws
        have hwy : wt my + wt (μ x) ≤ N := by rw [wsum_app] at hws; simp [wsum] at hws; omega
        refine hg h43 y x my (μ x) _ (D.weak (D.ext dy f43.eA) fun j hA => Nat.lt_of_lt_of_le hA.1 f43.eA.size) (D.weak (D.ext hrx (e9.trans f43.eA)) fun j hA => Nat.lt_of_lt_of_le (hB j hA) (e9.trans f43.eA).size) hwy fun r h29 e29 dr => ?_
        have oL29 := oL43.ext e29
        refine own_ix oL29 wl (by simp) fun p4 hp4 => own_st oL29 hp4 (by simp) fun h32 x32 o32 => ?_
        have e929 : Ext h9 h29 := f43.eA.trans e29
        rw [show (L1 ++ [y]).set L1.length r = L1 ++ [r] by simp] at o32
        refine nxt out h32 ((e9.trans e929).over x32 fun j hj => (bL j hj).1) ((o9.ext e929).ag x32 fun j hj => (bL j hj).2) _ o32 bL ?_
        rw [hk, mstep_same g2]
        refine F2.app (dL1.imp fun y m _ hr => ?_) (.cons ?_ .nil)
        · exact D.weak (D.ag (D.ext hr e929) x32 fun j hj hA => hA.2.1 hj) fun j hA => ⟨Nat.lt_of_lt_of_le hA.1 (Nat.le_trans e929.size x32.size), hA.2⟩
        · have hlt : ∀ j ∈ out.blk, j < h43.size := (oL.ext f43.eA).lt
          refine D.weak (D.ag dr x32 fun j hj hA => by have := hlt j hj; omega) fun j hA => ⟨Nat.lt_of_lt_of_le hA.2 x32.size, fun hj => by have := hlt j hj; omega, .inr (Nat.le_trans (e9.trans f43.eA).size hA.1)⟩
      · have g2 : cM my (μ x) ≠ 0 := by rw [← hcm]; simpa using g2
        exact new h43 f43.eA (by rw [hk, mstep_new g2])
    · simp only [decide_eq_false_iff_not] at g1
      have : L = [] := by
        have h1 := oL.len
        have : L.length = 0 := by omega
        simpa using this
      subst this
      have hk := dL.len
      have hk : mfold cM oM ((l6.take i).map μ) = [] := by
        have : (mfold cM oM ((l6.take i).map μ)).length = 0 := by simpa using hk.symm
        simpa using this
      refine if_ (fun h => by cases h) fun _ => new h20 f20.eA (by rw [hk]; rfl)
  · simp only [decide_eq_false_iff_not] at g0
    have : i = l6.length := by omega
    subst this
    rw [List.take_of_length_le (Nat.le_refl _)] at dL
    exact k out h9 L _ e9 oL (fun j hj => (bL j hj).1) dL ⟨_, hss, rfl⟩
end
end Lf
end Go
namespace Go.Lf
open Go.Crn
/-! ## orders -/
structure Ord3 {S : Type} (c : S → S → Int) : Prop where
  refl : ∀ x, c x x = 0
  anti : ∀ x y, c x y < 0 ↔ 0 < c y x
  tr : ∀ x y z, c x y ≤ 0 → c y z ≤ 0 → c x z ≤ 0
theorem Ord3.swo {S : Type} {c : S → S → Int} (o : Ord3 c) : Swo (ltOf c) := by
  refine ⟨fun x => by simp [ltOf, o.refl], fun x y z h => ?_, fun x y z h1 h2 => ?_⟩
  · simp only [ltOf, decide_eq_true_eq] at *
    have h1 := (o.anti x z).1 h
    rcases Int.lt_or_le (c x y) 0 with h2 | h2
    · exact .inl h2
    · right
      rcases Int.lt_or_le (c y z) 0 with h3 | h3
      · exact h3
      · have a : c y x ≤ 0 := by
          rcases Int.lt_or_le 0 (c y x) with h4 | h4
          · have := (o.anti x y).2 h4; omega
          · exact h4
        have b : c z y ≤ 0 := by
          rcases Int.lt_or_le 0 (c z y) with h4 | h4
          · have := (o.anti y z).2 h4; omega
          · exact h4
        have := o.tr z y x b a
        omega
  · simp only [ltOf, decide_eq_true_eq] at *
    rcases Int.lt_or_le (c x z) 0 with h3 | h3
    · exact h3
    · have a : c z x ≤ 0 := by
        rcases Int.lt_or_le 0 (c z x) with h4 | h4
        · have := (o.anti x z).2 h4; omega
        · exact h4
      have := o.tr z x y a (by omega)
      have := (o.anti y z).1 h2
      omega
def cI (a b : Int) : Int := if a < b then -1 else if b < a then 1 else 0
def cS (a b : Str) : Int := if sLt a b then -1 else if !(sLt a b || a == b) then 1 else 0
def orL : List Int → Int
  | [] => 0
  | x :: l => if x ≠ 0 then x else orL l
theorem Ord3.int : Ord3 cI := by
  refine ⟨fun x => by simp [cI], fun x y => ?_, fun x y z => ?_⟩
  · simp only [cI]; split <;> split <;> (try split) <;> omega
  · simp only [cI]; repeat' split
    all_goals omega
/-! ## what the small functions answer -/
variable {h : Hp}
def eInt : Elt Int := ⟨fun x => [.int .i64 x], 1, fun _ => rfl, fun _ => rfl⟩
theorem isNaN_int_ {a : Int} {Q : Bool → Hp → Prop} (k : Q false h) : cmp_isNaN_int a Q h := by unfold cmp_isNaN_int; simpa using k
theorem isNaN_u_ {a : Int} {Q : Bool → Hp → Prop} (k : Q false h) : cmp_isNaN_uint64 a Q h := by unfold cmp_isNaN_uint64; simpa using k
theorem isNaN_s_ {a : Str} {Q : Bool → Hp → Prop} (k : Q false h) : cmp_isNaN_string a Q h := by unfold cmp_isNaN_string; simpa using k
theorem if_false {A B : Prop} (hB : B) : If false A B := ⟨fun h => (by cases h), fun _ => hB⟩
theorem if_true {A B : Prop} (hA : A) : If true A B := ⟨fun _ => hA, fun h => (by cases h)⟩
theorem compare_int_ {a b : Int} {Q : Int → Hp → Prop} (k : Q (cI a b) h) : cmp_Compare_int a b Q h := by
  unfold cmp_Compare_int
  refine isNaN_int_ (isNaN_int_ (if_false (if_false (if_ (fun g => ?_) fun g => if_ (fun g2 => ?_) fun g2 => ?_))))
  all_goals (simp at *; unfold cI at k)
  · rwa [if_pos g] at k
  · rwa [if_neg (by omega), if_pos g2] at k
  · rwa [if_neg (by omega), if_neg (by omega)] at k
theorem compare_u_ {a b : Int} {Q : Int → Hp → Prop} (k : Q (cI a b) h) : cmp_Compare_uint64 a b Q h := by
  unfold cmp_Compare_uint64
  refine isNaN_u_ (isNaN_u_ (if_false (if_false (if_ (fun g => ?_) fun g => if_ (fun g2 => ?_) fun g2 => ?_))))
  all_goals (simp at *; unfold cI at k)
  · rwa [if_pos g] at k
  · rwa [if_neg (by omega), if_pos g2] at k
  · rwa [if_neg (by omega), if_neg (by omega)] at k
theorem compare_s_ {a b : Str} {Q : Int → Hp → Prop} (k : Q (cS a b) h) : cmp_Compare_string a b Q h := by
  unfold cmp_Compare_string
  refine isNaN_s_ (isNaN_s_ (if_false (if_false (if_ (fun g => ?_) fun g => if_ (fun g2 => ?_) fun g2 => ?_))))
  all_goals unfold cS at k
  · rwa [if_pos g] at k
  · rwa [if_neg (by simp [g]), if_pos g2] at k
  · rwa [if_neg (by simp [g]), if_neg (by simp [g2])] at k
theorem or_ {l : List Int} {b : Addr} {Q : Int → Hp → Prop} (r : Row h b (l.map (Value.int .i64))) (hl : l.length < 2 ^ 60) (k : Q (orL l) h) : cmp_Or_int (Sl.mk (some b) l.length l.length) Q h := by
  unfold cmp_Or_int
  refine loop_ (fun m u h1 => h1 = h ∧ ∃ i : Nat, i ≤ l.length ∧ u = (i : Int) ∧ m = l.length - i ∧ orL (l.drop i) = orL l) l.length ⟨rfl, 0, by omega, rfl, rfl, by simp⟩ ?_
  rintro m u hh ⟨rfl, i, hi, rfl, rfl, ho⟩
  refine if_ (fun g => ?_) fun g => ?_
  · simp only [decide_eq_true_eq] at g
    have hil : i < l.length := by omega
    refine ⟨b, rfl, by omega, by simpa using hil, l[i], ?_, ?_⟩
    · have := r i (.int .i64 l[i]) (by simp [hil])
      simpa using this
    · have hd : l.drop i = l[i] :: l.drop (i + 1) := by simp
      rw [hd] at ho
      refine if_ (fun g2 => ?_) fun g2 => ?_
      · have : l[i] ≠ 0 := by simpa using g2
        rw [orL, if_pos this] at ho
        rw [ho]; exact k
      · have : l[i] = 0 := by simpa using g2
        rw [orL, if_neg (by simp [this])] at ho
        exact ⟨l.length - (i + 1), by omega, by trivial, i + 1, by omega, by rw [wi (by omega) (by omega)]; rfl, rfl, ho⟩
  · simp only [decide_eq_false_iff_not] at g
    have : i = l.length := by omega
    subst this
    have : orL l = 0 := by rw [← ho]; simp [orL]
    rw [this] at k; exact k
def cStamp (a b : S_api_Stamp) : Int := orL [cI a.Time b.Time, cI a.Who b.Who]
def cAttr (a b : S_api_Attr) : Int := orL [cStamp a.At b.At, cI a.Mode b.Mode, cI a.Time b.Time]
def cSize (a b : S_api_Size) : Int := orL [cStamp a.At b.At, cI a.N b.N]
def cPiece (a b : S_api_Piece) : Int := orL [cStamp a.At b.At, cS a.Data b.Data]
def flagI (b : Bool) : Int := if b then 1 else 0
def cXattr (a b : S_api_Xattr) : Int := orL [cStamp a.At b.At, cI (flagI a.Gone) (flagI b.Gone), cS a.Val b.Val]
def cPlace (a b : S_api_Link) : Int := orL [cStamp a.At b.At, cStamp a.Parent b.Parent, cS a.Name b.Name]
theorem stamps_ {a b : S_api_Stamp} {Q : Int → Hp → Prop} (k : ∀ h', Ext h h' → Q (cStamp a b) h') : join_stamps a b Q h := by
  unfold join_stamps
  refine al_ .start fun b1 h2 f e _ _ => al_ f fun b3 h4 f e _ _ => compare_int_ <| kp_ f .refl (by simp) fun f => compare_int_ <| alv_ f fun b9 h10 f e r _ => or_ (l := [_, _]) r (by simp) <| k _ f.e0
theorem attrs_ {a b : S_api_Attr} {Q : Int → Hp → Prop} (k : ∀ h', Ext h h' → Q (cAttr a b) h') : join_attrs a b Q h := by
  unfold join_attrs
  refine al_ .start fun b1 h2 f e _ _ => al_ f fun b3 h4 f e _ _ => stamps_ fun h6 e => kp_ f e (by simp) fun f => compare_int_ <| kp_ f .refl (by simp) fun f => compare_u_ <| alv_ f fun b9 h10 f e r _ => or_ (l := [_, _, _]) r (by simp) <| k _ f.e0
theorem sizes_ {a b : S_api_Size} {Q : Int → Hp → Prop} (k : ∀ h', Ext h h' → Q (cSize a b) h') : join_sizes a b Q h := by
  unfold join_sizes
  refine al_ .start fun b1 h2 f e _ _ => al_ f fun b3 h4 f e _ _ => stamps_ fun h6 e => kp_ f e (by simp) fun f => compare_int_ <| alv_ f fun b9 h10 f e r _ => or_ (l := [_, _]) r (by simp) <| k _ f.e0
theorem pieces_ {a b : S_api_Piece} {Q : Int → Hp → Prop} (k : ∀ h', Ext h h' → Q (cPiece a b) h') : join_pieces a b Q h := by
  unfold join_pieces
  refine al_ .start fun b1 h2 f e _ _ => al_ f fun b3 h4 f e _ _ => stamps_ fun h6 e => kp_ f e (by simp) fun f => compare_s_ <| alv_ f fun b9 h10 f e r _ => or_ (l := [_, _]) r (by simp) <| k _ f.e0
theorem flag_ {b : Bool} {Q : Int → Hp → Prop} (k : Q (flagI b) h) : join_flag b Q h := by
  unfold join_flag
  cases b
  · exact if_false k
  · exact if_true k
theorem xattrs_ {a b : S_api_Xattr} {Q : Int → Hp → Prop} (k : ∀ h', Ext h h' → Q (cXattr a b) h') : join_xattrs a b Q h := by
  unfold join_xattrs
  refine al_ .start fun b1 h2 f e _ _ => al_ f fun b3 h4 f e _ _ => stamps_ fun h6 e => kp_ f e (by simp) fun f => flag_ <| kp_ f .refl (by simp) fun f => flag_ <| kp_ f .refl (by simp) fun f => compare_int_ <| kp_ f .refl (by simp) fun f => compare_s_ <| alv_ f fun b9 h10 f e r _ => or_ (l := [_, _, _]) r (by simp) <| k _ f.e0
theorem places_ {a b : S_api_Link} {Q : Int → Hp → Prop} (k : ∀ h', Ext h h' → Q (cPlace a b) h') : join_places a b Q h := by
  unfold join_places
  refine al_ .start fun b1 h2 f e _ _ => al_ f fun b3 h4 f e _ _ => stamps_ fun h6 e => kp_ f e (by simp) fun f => stamps_ fun h8 e => kp_ f e (by simp) fun f => compare_s_ <| alv_ f fun b9 h10 f e r _ => or_ (l := [_, _, _]) r (by simp) <| k _ f.e0
end Go.Lf
namespace Go.Lf
open Go.Crn
variable {h : Hp}
/-- the one of two that stands behind -/
def gr {S : Type} (c : S → S → Int) (a b : S) : S := if c a b < 0 then b else a
theorem greater_Attr {f : S_api_Attr → S_api_Attr → (Int → Hp → Prop) → Hp → Prop} {c : S_api_Attr → S_api_Attr → Int} (hf : PureF f c) {a b : S_api_Attr} {Q : S_api_Attr → Hp → Prop} (k : ∀ h', Ext h h' → Q (gr c a b) h') : join_greater_api_Attr a b f Q h := by
  unfold join_greater_api_Attr
  refine al_ .start fun b1 h2 f e _ _ => al_ f fun b3 h4 f e _ _ => al_ f fun b5 h6 f e hb _ => hf _ _ _ _ fun h8 e => kp_ f e (by simp) fun f => if_ (fun g => ?_) fun g => ?_
  · refine st_ f (by simp) hb fun h9 f _ => ?_
    have := k _ f.e0
    unfold gr at this
    rwa [if_pos (by simpa using g)] at this
  · refine st_ f (by simp) hb fun h9 f _ => ?_
    have := k _ f.e0
    unfold gr at this
    rwa [if_neg (by simpa using g)] at this
theorem greater_Size {f : S_api_Size → S_api_Size → (Int → Hp → Prop) → Hp → Prop} {c : S_api_Size → S_api_Size → Int} (hf : PureF f c) {a b : S_api_Size} {Q : S_api_Size → Hp → Prop} (k : ∀ h', Ext h h' → Q (gr c a b) h') : join_greater_api_Size a b f Q h := by
  unfold join_greater_api_Size
  refine al_ .start fun b1 h2 f e _ _ => al_ f fun b3 h4 f e _ _ => al_ f fun b5 h6 f e hb _ => hf _ _ _ _ fun h8 e => kp_ f e (by simp) fun f => if_ (fun g => ?_) fun g => ?_
  · refine st_ f (by simp) hb fun h9 f _ => ?_
    have := k _ f.e0
    unfold gr at this
    rwa [if_pos (by simpa using g)] at this
  · refine st_ f (by simp) hb fun h9 f _ => ?_
    have := k _ f.e0
    unfold gr at this
    rwa [if_neg (by simpa using g)] at this
theorem greater_Piece {f : S_api_Piece → S_api_Piece → (Int → Hp → Prop) → Hp → Prop} {c : S_api_Piece → S_api_Piece → Int} (hf : PureF f c) {a b : S_api_Piece} {Q : S_api_Piece → Hp → Prop} (k : ∀ h', Ext h h' → Q (gr c a b) h') : join_greater_api_Piece a b f Q h := by
  unfold join_greater_api_Piece
  refine al_ .start fun b1 h2 f e _ _ => al_ f fun b3 h4 f e _ _ => al_ f fun b5 h6 f e hb _ => hf _ _ _ _ fun h8 e => kp_ f e (by simp) fun f => if_ (fun g => ?_) fun g => ?_
  · refine st_ f (by simp) hb fun h9 f _ => ?_
    have := k _ f.e0
    unfold gr at this
    rwa [if_pos (by simpa using g)] at this
  · refine st_ f (by simp) hb fun h9 f _ => ?_
    have := k _ f.e0
    unfold gr at this
    rwa [if_neg (by simpa using g)] at this
theorem greater_Xattr {f : S_api_Xattr → S_api_Xattr → (Int → Hp → Prop) → Hp → Prop} {c : S_api_Xattr → S_api_Xattr → Int} (hf : PureF f c) {a b : S_api_Xattr} {Q : S_api_Xattr → Hp → Prop} (k : ∀ h', Ext h h' → Q (gr c a b) h') : join_greater_api_Xattr a b f Q h := by
  unfold join_greater_api_Xattr
  refine al_ .start fun b1 h2 f e _ _ => al_ f fun b3 h4 f e _ _ => al_ f fun b5 h6 f e hb _ => hf _ _ _ _ fun h8 e => kp_ f e (by simp) fun f => if_ (fun g => ?_) fun g => ?_
  · refine st_ f (by simp) hb fun h9 f _ => ?_
    have := k _ f.e0
    unfold gr at this
    rwa [if_pos (by simpa using g)] at this
  · refine st_ f (by simp) hb fun h9 f _ => ?_
    have := k _ f.e0
    unfold gr at this
    rwa [if_neg (by simpa using g)] at this
theorem greater_Link {f : S_api_Link → S_api_Link → (Int → Hp → Prop) → Hp → Prop} {c : S_api_Link → S_api_Link → Int} (hf : PureF f c) {a b : S_api_Link} {Q : S_api_Link → Hp → Prop} (k : ∀ h', Ext h h' → Q (gr c a b) h') : join_greater_api_Link a b f Q h := by
  unfold join_greater_api_Link
  refine al_ .start fun b1 h2 f e _ _ => al_ f fun b3 h4 f e _ _ => al_ f fun b5 h6 f e hb _ => hf _ _ _ _ fun h8 e => kp_ f e (by simp) fun f => if_ (fun g => ?_) fun g => ?_
  · refine st_ f (by simp) hb fun h9 f _ => ?_
    have := k _ f.e0
    unfold gr at this
    rwa [if_pos (by simpa using g)] at this
  · refine st_ f (by simp) hb fun h9 f _ => ?_
    have := k _ f.e0
    unfold gr at this
    rwa [if_neg (by simpa using g)] at this
theorem greater_Stamp {f : S_api_Stamp → S_api_Stamp → (Int → Hp → Prop) → Hp → Prop} {c : S_api_Stamp → S_api_Stamp → Int} (hf : PureF f c) {a b : S_api_Stamp} {Q : S_api_Stamp → Hp → Prop} (k : ∀ h', Ext h h' → Q (gr c a b) h') : join_greater_api_Stamp a b f Q h := by
  unfold join_greater_api_Stamp
  refine al_ .start fun b1 h2 f e _ _ => al_ f fun b3 h4 f e _ _ => al_ f fun b5 h6 f e hb _ => hf _ _ _ _ fun h8 e => kp_ f e (by simp) fun f => if_ (fun g => ?_) fun g => ?_
  · refine st_ f (by simp) hb fun h9 f _ => ?_
    have := k _ f.e0
    unfold gr at this
    rwa [if_pos (by simpa using g)] at this
  · refine st_ f (by simp) hb fun h9 f _ => ?_
    have := k _ f.e0
    unfold gr at this
    rwa [if_neg (by simpa using g)] at this

theorem pf_stamps : PureF (fun x0 x1 Q h => join_stamps x0 x1 Q h) cStamp := fun _ _ _ _ k => stamps_ k
theorem pf_attrs : PureF (fun x0 x1 Q h => join_attrs x0 x1 Q h) cAttr := fun _ _ _ _ k => attrs_ k
theorem pf_sizes : PureF (fun x0 x1 Q h => join_sizes x0 x1 Q h) cSize := fun _ _ _ _ k => sizes_ k
theorem pf_pieces : PureF (fun x0 x1 Q h => join_pieces x0 x1 Q h) cPiece := fun _ _ _ _ k => pieces_ k
theorem pf_xattrs : PureF (fun x0 x1 Q h => join_xattrs x0 x1 Q h) cXattr := fun _ _ _ _ k => xattrs_ k
theorem pf_places : PureF (fun x0 x1 Q h => join_places x0 x1 Q h) cPlace := fun _ _ _ _ k => places_ k
def kPiece (a b : S_api_Piece) : Int := cI a.Index b.Index
def kXattr (a b : S_api_Xattr) : Int := cS a.Name b.Name
def kInode (a b : S_api_Inode) : Int := cStamp a.Id b.Id
def kLink (a b : S_api_Link) : Int := cStamp a.Id b.Id
theorem pf_kPiece : PureF (fun x0 x1 Q h => join_listed_1 x0 x1 Q h) kPiece := fun x y Q h k => by
  unfold join_listed_1
  exact al_ .start fun b1 h2 f e _ _ => al_ f fun b3 h4 f e _ _ => compare_int_ (k _ f.e0)
theorem pf_kXattr : PureF (fun x0 x1 Q h => join_named_1 x0 x1 Q h) kXattr := fun x y Q h k => by
  unfold join_named_1
  exact al_ .start fun b1 h2 f e _ _ => al_ f fun b3 h4 f e _ _ => compare_s_ (k _ f.e0)
theorem pf_kInode : PureF (fun x0 x1 Q h => join_States_1 x0 x1 Q h) kInode := fun x y Q h k => by
  unfold join_States_1
  exact al_ .start fun b1 h2 f e _ _ => al_ f fun b3 h4 f e _ _ => stamps_ fun h' e => k _ (f.ext e).e0
theorem pf_kLink : PureF (fun x0 x1 Q h => join_States_2 x0 x1 Q h) kLink := fun x y Q h k => by
  unfold join_States_2
  exact al_ .start fun b1 h2 f e _ _ => al_ f fun b3 h4 f e _ _ => stamps_ fun h' e => k _ (f.ext e).e0
theorem listed2_ {a b : S_api_Piece} {Q : S_api_Piece → Hp → Prop} (k : ∀ h', Ext h h' → Q (gr cPiece a b) h') : join_listed_2 a b Q h := by
  unfold join_listed_2
  exact al_ .start fun b1 h2 f e _ _ => al_ f fun b3 h4 f e _ _ => al_ f fun b5 h6 f e hb _ => greater_Piece pf_pieces fun h8 e => kp_ f e (by simp) fun f => st_ f (by simp) hb fun h9 f _ => k _ f.e0
theorem named2_ {a b : S_api_Xattr} {Q : S_api_Xattr → Hp → Prop} (k : ∀ h', Ext h h' → Q (gr cXattr a b) h') : join_named_2 a b Q h := by
  unfold join_named_2
  exact al_ .start fun b1 h2 f e _ _ => al_ f fun b3 h4 f e _ _ => al_ f fun b5 h6 f e hb _ => greater_Xattr pf_xattrs fun h8 e => kp_ f e (by simp) fun f => st_ f (by simp) hb fun h9 f _ => k _ f.e0
def vJoin (a b : A8 Int) : A8 Int := ⟨max a.a0 b.a0, max a.a1 b.a1, max a.a2 b.a2, max a.a3 b.a3, max a.a4 b.a4, max a.a5 b.a5, max a.a6 b.a6, max a.a7 b.a7⟩
/-- the first n joined -/
def vJn (n : Nat) (a b : A8 Int) : A8 Int := A8.ofL ((vJoin a b).toL.take n ++ a.toL.drop n)
theorem vJn_step (n : Nat) (a b : A8 Int) (hn : n < 8) : (vJn n a b).put (n : Int) (iMax ((vJn n a b).at_ n) (b.at_ n)) = vJn (n + 1) a b := by
  have hmax : ∀ x y : Int, (if x < y then y else x) = max x y := fun x y => by split <;> omega
  match n, hn with
  | 0, _ | 1, _ | 2, _ | 3, _ | 4, _ | 5, _ | 6, _ | 7, _ => simp [vJn, vJoin, A8.ofL, A8.toL, A8.put, A8.at_, iMax, hmax]
theorem join_ {a b : A8 Int} {Q : A8 Int → Hp → Prop} (k : ∀ h', Ext h h' → Q (vJoin a b) h') : vector_Join a b Q h := by
  unfold vector_Join
  refine al_ .start fun b1 h2 f e hb1 _ => al_ f fun b3 h4 f e _ _ => al_ f fun b5 h6 f e hb5 _ => ?_
  refine loop_ (fun m u h1 => ∃ n : Nat, n ≤ 8 ∧ u = ((n : Int), vJn n a b) ∧ m = 8 - n ∧ Fr h [b5, b3, b1] h h1) 8 ⟨0, by omega, rfl, rfl, f⟩ ?_
  rintro m u h1 ⟨n, hn, rfl, rfl, f⟩
  refine if_ (fun g => ?_) fun g => ?_
  · simp only [decide_eq_true_eq] at g
    refine ⟨by omega, by omega, by omega, st_ f (by simp) hb1 fun h2 f _ => ⟨8 - (n + 1), by omega, n + 1, by omega, ?_, rfl, f⟩⟩
    rw [vJn_step n a b (by omega), wi (by omega) (by omega)]; rfl
  · simp only [decide_eq_false_iff_not] at g
    have : n = 8 := by omega
    subst this
    exact st_ f (by simp) hb5 fun h2 f _ => k _ f.e0
def mLink (a b : S_api_Link) : S_api_Link := let p := gr cPlace a b; ⟨a.Id, gr cStamp a.Node b.Node, p.At, p.Parent, p.Name, vJoin a.Alive b.Alive, vJoin a.Dead b.Dead⟩
theorem link_ {a b : S_api_Link} {Q : S_api_Link → Hp → Prop} (k : ∀ h', Ext h h' → Q (mLink a b) h') : join_link a b Q h := by
  unfold join_link
  refine al_ .start fun b1 h2 f e hb1 _ => al_ f fun b3 h4 f e _ _ => al_ f fun b5 h6 f e hb5 _ => greater_Link pf_places fun h8 e => kp_ f e (by simp) fun f => al_ f fun b9 h10 f e hb9 _ => ?_
  refine st_ f (by simp) hb9 fun _ f _ => st_ f (by simp) hb1 fun _ f _ => st_ f (by simp) hb1 fun _ f _ => st_ f (by simp) hb1 fun _ f _ => ?_
  refine greater_Stamp pf_stamps fun _ e => kp_ f e (by simp) fun f => st_ f (by simp) hb1 fun _ f _ => join_ fun _ e => kp_ f e (by simp) fun f => join_ fun _ e => kp_ f e (by simp) fun f => ?_
  exact st_ f (by simp) hb1 fun _ f _ => st_ f (by simp) hb1 fun _ f _ => st_ f (by simp) hb5 fun _ f _ => k _ f.e0
def vIs (s : S_api_Stamp) : Bool := decide (s.Time ≥ 1) && (decide (s.Time ≤ 1099511627776) && (decide (s.Who ≥ 0) && decide (s.Who < 8)))
def vHas (v : A8 Int) (s : S_api_Stamp) : Bool := vIs s && decide (v.at_ s.Who ≥ s.Time)
theorem is_ {s : S_api_Stamp} {Q : Bool → Hp → Prop} (k : ∀ h', Ext h h' → Q (vIs s) h') : vector_Is s Q h := by
  unfold vector_Is
  refine al_ .start fun b1 h2 f e _ _ => j_ (if_ (fun g1 => if_ (fun g2 => if_ (fun g3 => ?_) fun g3 => ?_) fun g2 => ?_) fun g1 => ?_)
  all_goals (have := k _ f.e0; simpa [vIs, *] using this)
theorem has_ {v : A8 Int} {s : S_api_Stamp} {Q : Bool → Hp → Prop} (k : ∀ h', Ext h h' → Q (vHas v s) h') : vector_Has v s Q h := by
  unfold vector_Has
  refine al_ .start fun b1 h2 f e _ _ => al_ f fun b3 h4 f e _ _ => j_ (is_ fun h6 e => kp_ f e (by simp) fun f => if_ (fun g => ?_) fun g => ?_)
  · have g' := g
    simp only [vIs, Bool.and_eq_true, decide_eq_true_eq] at g'
    refine ⟨⟨by omega, by omega⟩, ?_⟩
    have := k _ f.e0
    simpa [vHas, g] using this
  · have := k _ f.e0
    simpa [vHas, g] using this
theorem before_ {a b : S_api_Event} {Q : Bool → Hp → Prop} (k : ∀ h', Ext h h' → Q (vHas b.Knew a.At) h') : model_Before a b Q h := by
  unfold model_Before
  exact al_ .start fun b1 h2 f e _ _ => al_ f fun b3 h4 f e _ _ => has_ fun h6 e => k _ (f.ext e).e0
end Go.Lf
namespace Go.Lf
open Go.Crn
/-! ## orders of texts, and one behind the other -/
theorem sLt_nil_r (a : Str) : sLt a [] = false := by unfold sLt; cases a <;> rfl
theorem sLt_nil_l (b : UInt8) (y : Str) : sLt [] (b :: y) = true := rfl
theorem sLt_cons (a b : UInt8) (x y : Str) : sLt (a :: x) (b :: y) = (decide (a < b) || (a == b && sLt x y)) := rfl
theorem sLt_irr : ∀ a : Str, sLt a a = false
  | [] => rfl
  | a :: x => by rw [sLt_cons, sLt_irr x]; simp
theorem sLt_tr : ∀ {a b c : Str}, sLt a b = true → sLt b c = true → sLt a c = true
  | _, [], _, h, _ => by rw [sLt_nil_r] at h; cases h
  | _, _ :: _, [], _, h => by rw [sLt_nil_r] at h; cases h
  | [], _ :: _, _ :: _, _, _ => rfl
  | a :: x, b :: y, c :: z, h1, h2 => by
    rw [sLt_cons] at *
    simp only [Bool.or_eq_true, decide_eq_true_eq, Bool.and_eq_true, beq_iff_eq] at *
    rcases h1 with h1 | ⟨rfl, h1⟩ <;> rcases h2 with h2 | ⟨rfl, h2⟩
    · exact .inl (UInt8.lt_trans h1 h2)
    · exact .inl h1
    · exact .inl h2
    · exact .inr ⟨rfl, sLt_tr h1 h2⟩
theorem sLt_tri : ∀ (a b : Str), sLt a b = false → a ≠ b → sLt b a = true
  | [], [], _, h => (h rfl).elim
  | [], b :: y, h, _ => by rw [sLt_nil_l] at h; cases h
  | a :: x, [], _, _ => rfl
  | a :: x, b :: y, h, hn => by
    rw [sLt_cons] at *
    simp only [Bool.or_eq_false_iff, decide_eq_false_iff_not, Bool.and_eq_false_iff] at h
    simp only [Bool.or_eq_true, decide_eq_true_eq, Bool.and_eq_true, beq_iff_eq]
    by_cases e : a = b
    · subst e
      right
      refine ⟨rfl, sLt_tri x y ?_ fun h => hn (by rw [h])⟩
      rcases h.2 with h | h
      · simp at h
      · exact h
    · left
      rcases UInt8.lt_or_lt_of_ne e with h1 | h1
      · exact (h.1 h1).elim
      · exact h1
theorem cS_lt {a b : Str} : cS a b < 0 ↔ sLt a b = true := by
  unfold cS
  split
  · simp [*]
  · split <;> simp_all
theorem cS_eq {a b : Str} : cS a b = 0 ↔ a = b := by
  unfold cS
  constructor
  · intro h
    split at h
    · cases h
    · split at h
      · cases h
      · simp_all
  · rintro rfl
    simp [sLt_irr]
theorem cS_gt {a b : Str} : 0 < cS a b ↔ sLt b a = true := by
  constructor
  · intro h
    refine sLt_tri a b ?_ ?_
    · cases h2 : sLt a b with
      | false => rfl
      | true => have := cS_lt.2 h2; omega
    · intro e; rw [cS_eq.2 e] at h; cases h
  · intro h
    rcases Int.lt_trichotomy (cS a b) 0 with h2 | h2 | h2
    · have := sLt_tr (cS_lt.1 h2) h; rw [sLt_irr] at this; cases this
    · have := cS_eq.1 h2; subst this; rw [sLt_irr] at h; cases h
    · exact h2
theorem Ord3.str : Ord3 cS := by
  refine ⟨fun x => cS_eq.2 rfl, fun x y => by rw [cS_lt, cS_gt], fun x y z h1 h2 => ?_⟩
  rcases Int.lt_or_le 0 (cS x z) with h3 | h3
  · have h4 := cS_gt.1 h3
    rcases Int.lt_or_eq_of_le h1 with h5 | h5
    · have h6 := sLt_tr h4 (cS_lt.1 h5)
      have := cS_gt.2 h6; omega
    · have := cS_eq.1 h5; subst this
      have := cS_gt.2 h4; omega
  · exact h3
theorem Ord3.comap {S T : Type} {c : T → T → Int} (o : Ord3 c) (f : S → T) : Ord3 (fun x y => c (f x) (f y)) := ⟨fun x => o.refl _, fun x y => o.anti _ _, fun x y z => o.tr _ _ _⟩
theorem orL_one (x : Int) : orL [x] = x := by
  simp only [orL]; split
  · rfl
  · rename_i h; simp at h; omega
theorem Ord3.flip0 {S : Type} {c : S → S → Int} (o : Ord3 c) {x y : S} : c x y = 0 ↔ c y x = 0 := by
  have := o.anti x y; have := o.anti y x; omega
theorem Ord3.orL1 {S : Type} {c : S → S → Int} (o : Ord3 c) : Ord3 (fun x y => orL [c x y]) := by simp only [orL_one]; exact o
theorem Ord3.lex {S : Type} {c : S → S → Int} {d : S → S → List Int} (o : Ord3 c) (o2 : Ord3 fun x y => orL (d x y)) : Ord3 (fun x y => orL (c x y :: d x y)) := by
  have e : ∀ x y, orL (c x y :: d x y) = if c x y ≠ 0 then c x y else orL (d x y) := fun _ _ => rfl
  refine ⟨fun x => by rw [e, if_neg (by simp [o.refl])]; exact o2.refl x, fun x y => ?_, fun x y z h1 h2 => ?_⟩
  · rw [e, e]
    have h0 := o.flip0 (x := x) (y := y)
    have h1 := o.anti x y
    by_cases h : c x y = 0
    · rw [if_neg (by simpa using h), if_neg (by simpa using h0.1 h)]; exact o2.anti x y
    · rw [if_pos h, if_pos (fun h2 => h (h0.2 h2))]; exact h1
  · rw [e] at h1 h2 ⊢
    have h3 := o.tr x y z
    have a1 := o.flip0 (x := x) (y := y)
    have a2 := o.flip0 (x := y) (y := z)
    have a3 := o.flip0 (x := x) (y := z)
    have b1 := o.tr z x y
    have b2 := o.tr y z x
    have c1 := o.anti x y
    have c2 := o.anti y z
    have c3 := o.anti x z
    have c4 := o.anti y x
    have c5 := o.anti z y
    have c6 := o.anti z x
    by_cases hx : c x z = 0
    · rw [if_neg (by simpa using hx)]
      by_cases hy : c x y = 0
      · by_cases hz : c y z = 0
        · rw [if_neg (by simpa using hy)] at h1
          rw [if_neg (by simpa using hz)] at h2
          exact o2.tr x y z h1 h2
        · exfalso; rw [if_pos hz] at h2; omega
      · exfalso; rw [if_pos hy] at h1
        by_cases hz : c y z = 0
        · omega
        · rw [if_pos hz] at h2; omega
    · rw [if_pos hx]
      by_cases hy : c x y = 0 <;> by_cases hz : c y z = 0
      · omega
      · rw [if_pos hz] at h2; omega
      · rw [if_pos hy] at h1; omega
      · rw [if_pos hy] at h1; rw [if_pos hz] at h2; omega
theorem Ord3.stamp : Ord3 cStamp := Ord3.lex (S := S_api_Stamp) (c := fun x y => cI x.Time y.Time) (d := fun x y => [cI x.Who y.Who]) (Ord3.int.comap S_api_Stamp.Time) (Ord3.orL1 (S := S_api_Stamp) (c := fun x y => cI x.Who y.Who) (Ord3.int.comap S_api_Stamp.Who))
theorem Ord3.kPiece : Ord3 kPiece := Ord3.int.comap S_api_Piece.Index
theorem Ord3.kXattr : Ord3 kXattr := Ord3.str.comap S_api_Xattr.Name
theorem Ord3.kInode : Ord3 kInode := Ord3.stamp.comap S_api_Inode.Id
theorem Ord3.kLink : Ord3 kLink := Ord3.stamp.comap S_api_Link.Id
/-! ## the stable sort, as a function -/
section
variable {S : Type} {lt : S → S → Bool}
def ins (lt : S → S → Bool) (x : S) : List S → List S
  | [] => [x]
  | y :: t => if lt y x then y :: ins lt x t else x :: y :: t
def isort (lt : S → S → Bool) : List S → List S
  | [] => []
  | x :: l => ins lt x (isort lt l)
theorem ins_split (w : Swo lt) (x : S) : ∀ (s : List S), s.Pairwise (Le lt) → ∃ a b, s = a ++ b ∧ ins lt x s = a ++ x :: b ∧ (∀ y ∈ a, lt y x = true) ∧ (∀ y ∈ b, Le lt x y)
  | [], _ => ⟨[], [], rfl, rfl, by simp, by simp⟩
  | y :: t, hs => by
    rw [List.pairwise_cons] at hs
    by_cases h : lt y x = true
    · obtain ⟨a, b, rfl, h2, h3, h4⟩ := ins_split w x t hs.2
      exact ⟨y :: a, b, rfl, by simp [ins, h, h2], fun z hz => by rcases List.mem_cons.1 hz with rfl | hz; exact h; exact h3 z hz, h4⟩
    · refine ⟨[], y :: t, rfl, by simp [ins, h], by simp, fun z hz => ?_⟩
      have h : Le lt x y := by simpa [Le] using h
      rcases List.mem_cons.1 hz with rfl | hz
      · exact h
      · exact w.le_trans h (hs.1 z hz)
theorem isort_ss (w : Swo lt) : ∀ l : List S, SS lt l (isort lt l)
  | [] => SS.nil
  | x :: l => by
    have ih := isort_ss w l
    obtain ⟨a, b, h1, h2, h3, h4⟩ := ins_split w x _ ih.sorted
    unfold isort
    rw [h2]
    have hp := ih.sorted
    have hc := ih.cls
    rw [h1] at hp hc
    rw [List.pairwise_append] at hp
    refine ⟨?_, ?_⟩
    · rw [List.pairwise_append, List.pairwise_cons]
      refine ⟨hp.1, ⟨h4, hp.2.1⟩, fun y hy z hz => ?_⟩
      rcases List.mem_cons.1 hz with rfl | hz
      · exact w.asym (h3 y hy)
      · exact hp.2.2 y hy z hz
    · have h5 : Cls lt ([x] ++ l) ([x] ++ (a ++ b)) := Cls.refl.app hc
      have h6 : Cls lt ([x] ++ a ++ b) (a ++ [x] ++ b) := (Cls.swap w fun y hy z hz => by simp at hy; subst hy; exact h3 z hz).app .refl
      have := h5.trans (by simpa using h6)
      simpa using this
theorem ss_isort (w : Swo lt) {l l' : List S} (h : SS lt l l') : l' = isort lt l := by
  have h2 := isort_ss w l
  exact SS.unique w h2.sorted h.sorted fun x => by rw [h.cls x, h2.cls x]
def mrg {M : Type} (c : M → M → Int) (o : M → M → M) (l : List M) : List M := mfold c o (isort (ltOf c) l)
theorem Merged.eq {M : Type} {c : M → M → Int} {o : M → M → M} (w : Swo (ltOf c)) {l out : List M} (h : Merged c o l out) : out = mrg c o l := by
  obtain ⟨l', h1, rfl⟩ := h
  rw [ss_isort w h1]; rfl
theorem isort_len (w : Swo lt) (l : List S) : (isort lt l).length = l.length := (Cls.perm w _ (Nat.le_refl _) (isort_ss w l).cls).length_eq
theorem mrg_len {M : Type} {c : M → M → Int} {o : M → M → M} (w : Swo (ltOf c)) (l : List M) : (mrg c o l).length ≤ l.length := by
  have := mfold_len (c := c) (o := o) (isort (ltOf c) l)
  rw [isort_len w] at this; exact this
end
end Go.Lf
namespace Go.Lf
open Go.Crn
variable {h : Hp}
instance : Inhabited S_api_Piece := ⟨⟨0, ⟨0, 0⟩, []⟩⟩
instance : Inhabited S_api_Xattr := ⟨⟨[], ⟨0, 0⟩, [], false⟩⟩
theorem F2.pure_eq {S : Type} {l m : List S} (t : F2 (fun x y => x = y) l m) : m = l := by
  induction t with
  | nil => rfl
  | cons h _ ih => rw [h, ih]
theorem F2.pure_mk {S : Type} {l : List S} : F2 (fun x y => x = y) l l := by
  induction l with
  | nil => exact .nil
  | cons x l ih => exact .cons rfl ih
theorem wsum0 {M : Type} (l : List M) : wsum (fun _ => 0) l = 0 := by
  induction l with
  | nil => rfl
  | cons x l ih => simpa [wsum] using ih
def mPieces (l : List S_api_Piece) : List S_api_Piece := mrg kPiece (gr cPiece) l
def mXattrs (l : List S_api_Xattr) : List S_api_Xattr := mrg kXattr (gr cXattr) l
theorem listed_ {A : Nat → Prop} {a : Sl} {la : List S_api_Piece} {Q : Sl → Hp → Prop} (ra : Rows A ePiece h a la) (hn : la.length < 2 ^ 36)
    (k : ∀ s' h', Ext h h' → Own ePiece h' s' (mPieces la) → (∀ i ∈ s'.blk, h.size ≤ i) → Q s' h') : join_listed a Q h := by
  unfold join_listed
  rw [merged_Piece]
  refine merged_ (Mdl.pure _) (wt := fun _ => 0) (N := 0) (cM := kPiece) (oM := gr cPiece) (lb := []) Ord3.kPiece.swo Ord3.kPiece.swo pf_kPiece ?_ (by simp) ?_ ra (A := A) ⟨rfl, fun i x hi => by simp at hi⟩ (B := (· < h.size)) (fun _ h => h) F2.pure_mk .nil (by rw [wsum0]; exact Nat.le_refl _) (by simp; omega) (by simp; omega) ?_
  · rintro A B h x y m n rfl rfl; rfl
  · rintro h x y m n Q rfl rfl _ k
    exact listed2_ fun h' e => k _ _ e rfl
  · intro s' h' l' ms e o b d hm
    have := F2.pure_eq d
    subst this
    rw [List.append_nil] at hm
    have := hm.eq Ord3.kPiece.swo
    subst this
    exact k s' h' e o b
theorem named_ {A : Nat → Prop} {a : Sl} {la : List S_api_Xattr} {Q : Sl → Hp → Prop} (ra : Rows A eXattr h a la) (hn : la.length < 2 ^ 36)
    (k : ∀ s' h', Ext h h' → Own eXattr h' s' (mXattrs la) → (∀ i ∈ s'.blk, h.size ≤ i) → Q s' h') : join_named a Q h := by
  unfold join_named
  rw [merged_Xattr]
  refine merged_ (Mdl.pure _) (wt := fun _ => 0) (N := 0) (cM := kXattr) (oM := gr cXattr) (lb := []) Ord3.kXattr.swo Ord3.kXattr.swo pf_kXattr ?_ (by simp) ?_ ra (A := A) ⟨rfl, fun i x hi => by simp at hi⟩ (B := (· < h.size)) (fun _ h => h) F2.pure_mk .nil (by rw [wsum0]; exact Nat.le_refl _) (by simp; omega) (by simp; omega) ?_
  · rintro A B h x y m n rfl rfl; rfl
  · rintro h x y m n Q rfl rfl _ k
    exact named2_ fun h' e => k _ _ e rfl
  · intro s' h' l' ms e o b d hm
    have := F2.pure_eq d
    subst this
    rw [List.append_nil] at hm
    have := hm.eq Ord3.kXattr.swo
    subst this
    exact k s' h' e o b
/-! ## inodes -/
structure InodeM where
  Id : S_api_Stamp
  Kind : Int
  Text : Str
  Attr : S_api_Attr
  Size : S_api_Size
  Pieces : List S_api_Piece
  Xattrs : List S_api_Xattr
instance : Inhabited InodeM := ⟨⟨⟨0, 0⟩, 0, [], ⟨⟨0, 0⟩, 0, 0⟩, ⟨⟨0, 0⟩, 0⟩, [], []⟩⟩
theorem vS_inj {a b : Str} (h : vS a = vS b) : a = b := by
  simp only [vS, Value.string.injEq, bs] at h
  simpa using h
theorem ePiece_inj {x y : S_api_Piece} (h : ePiece.cells x = ePiece.cells y) : x = y := by
  obtain ⟨a, ⟨b, c⟩, d⟩ := x
  obtain ⟨a', ⟨b', c'⟩, d'⟩ := y
  simp only [ePiece, S_api_Piece.cells, List.cons.injEq, Value.int.injEq, and_true, true_and] at h
  obtain ⟨rfl, rfl, rfl, h⟩ := h
  rw [vS_inj h]
theorem eXattr_inj {x y : S_api_Xattr} (h : eXattr.cells x = eXattr.cells y) : x = y := by
  obtain ⟨a, ⟨b, c⟩, d, f⟩ := x
  obtain ⟨a', ⟨b', c'⟩, d', f'⟩ := y
  simp only [eXattr, S_api_Xattr.cells, List.cons.injEq, Value.int.injEq, Value.bool.injEq, and_true, true_and] at h
  obtain ⟨h1, rfl, rfl, h2, rfl⟩ := h
  rw [vS_inj h1, vS_inj h2]
theorem row_inj {p : Addr} {a b : List Value} (ha : Row h p a) (hb : Row h p b) (hl : a.length = b.length) : a = b := by
  apply List.ext_getElem hl
  intro i h1 h2
  have x1 := ha i a[i] (by simp [h1])
  have x2 := hb i b[i] (by simp [h2])
  rw [x1] at x2
  exact Option.some.inj x2
theorem rows_inj {S : Type} {e : Elt S} (he : ∀ {x y}, e.cells x = e.cells y → x = y) {A B : Nat → Prop} {s : Sl} {l k : List S} (r : Rows A e h s l) (t : Rows B e h s k) : l = k := by
  have hl : l.length = k.length := by rw [← r.1, ← t.1]
  apply List.ext_getElem hl
  intro i h1 h2
  obtain ⟨a, ha, _, hr⟩ := r.2 i l[i] (by simp [h1])
  obtain ⟨b, hb, _, ht⟩ := t.2 i k[i] (by simp [h2])
  rw [ha] at hb; cases hb
  exact he (row_inj hr ht (by rw [e.len, e.len]))
def repI (A : Nat → Prop) (h : Hp) (x : S_api_Inode) (m : InodeM) : Prop :=
  x.Id = m.Id ∧ x.Kind = m.Kind ∧ x.Text = m.Text ∧ x.Attr = m.Attr ∧ x.Size = m.Size ∧ Rows A ePiece h x.Pieces m.Pieces ∧ Rows A eXattr h x.Xattrs m.Xattrs
def DI : Mdl S_api_Inode InodeM where
  rep := repI
  weak := fun ⟨h1, h2, h3, h4, h5, h6, h7⟩ f => ⟨h1, h2, h3, h4, h5, h6.weak f, h7.weak f⟩
  ag := fun ⟨h1, h2, h3, h4, h5, h6, h7⟩ g w => ⟨h1, h2, h3, h4, h5, h6.ag g w, h7.ag g w⟩
  uniq := by
    rintro A B h x ⟨a1, a2, a3, a4, a5, a6, a7⟩ ⟨b1, b2, b3, b4, b5, b6, b7⟩ ⟨h1, h2, h3, h4, h5, h6, h7⟩ ⟨k1, k2, k3, k4, k5, k6, k7⟩
    simp only at *
    subst h1 h2 h3 h4 h5 k1 k2 k3 k4 k5
    rw [rows_inj ePiece_inj h6 k6, rows_inj eXattr_inj h7 k7]
def mInode (m n : InodeM) : InodeM := ⟨m.Id, iMax m.Kind n.Kind, sMax m.Text n.Text, gr cAttr m.Attr n.Attr, gr cSize m.Size n.Size, mPieces (m.Pieces ++ n.Pieces), mXattrs (m.Xattrs ++ n.Xattrs)⟩
def wI (m : InodeM) : Nat := m.Pieces.length + m.Xattrs.length
theorem mPieces_len (l : List S_api_Piece) : (mPieces l).length ≤ l.length := mrg_len Ord3.kPiece.swo l
theorem mXattrs_len (l : List S_api_Xattr) : (mXattrs l).length ≤ l.length := mrg_len Ord3.kXattr.swo l
theorem wI_le (m n : InodeM) : wI (mInode m n) ≤ wI m + wI n := by
  have h1 := mPieces_len (m.Pieces ++ n.Pieces)
  have h2 := mXattrs_len (m.Xattrs ++ n.Xattrs)
  simp only [wI, mInode, List.length_append] at *
  omega
theorem concat_Piece : @slices_Concat_api_Piece_api_Piece = slices_Concat_G ePiece 40 (S_api_Piece.mk 0 (S_api_Stamp.mk 0 0) []) := rfl
theorem concat_Xattr : @slices_Concat_api_Xattr_api_Xattr = slices_Concat_G eXattr 56 (S_api_Xattr.mk [] (S_api_Stamp.mk 0 0) [] false) := rfl
/-- two slices in a row -/
theorem rows2 {b1 : Addr} {a b : Sl} (r2 : Row h b1 [Sl.enc a, Sl.enc b]) : Rows (· = b1.block) eSl h (Sl.mk (some b1) 2 2) [a, b] := by
  refine ⟨rfl, fun i x hi => ⟨b1, rfl, rfl, fun j v hj => ?_⟩⟩
  match i, hi with
  | 0, hi =>
    simp at hi; subst hi
    cases j with
    | zero => simp [eSl] at hj; subst hj; rw [add_add]; exact r2 0 _ rfl
    | succ j => simp [eSl] at hj
  | 1, hi =>
    simp at hi; subst hi
    cases j with
    | zero => simp [eSl] at hj; subst hj; rw [add_add]; exact r2 1 _ rfl
    | succ j => simp [eSl] at hj
  | i + 2, hi => simp at hi
theorem own_rows_lt {S : Type} {e : Elt S} {n : Nat} {h' : Hp} {s : Sl} {l : List S} (o : Own e h s l) (hb : ∀ i ∈ s.blk, n ≤ i) (x : Ext h h') : Rows (fun i => n ≤ i ∧ i < h'.size) e h' s l :=
  ((o.ext x).rows).weak fun i hi => ⟨hb i hi, (o.ext x).lt i hi⟩
theorem inode_ {A : Nat → Prop} {x y : S_api_Inode} {m n : InodeM} {Q : S_api_Inode → Hp → Prop} (dx : repI A h x m) (dy : repI A h y n) (hw : wI m + wI n < 2 ^ 35)
    (k : ∀ r h', Ext h h' → repI (fun i => h.size ≤ i ∧ i < h'.size) h' r (mInode m n) → Q r h') : join_inode x y Q h := by
  unfold join_inode
  obtain ⟨x1, x2, x3, x4, x5, x6, x7⟩ := dx
  obtain ⟨y1, y2, y3, y4, y5, y6, y7⟩ := dy
  simp only [wI] at hw
  rw [concat_Piece, concat_Xattr]
  refine al_ .start fun b1 h2 f e hb1 _ => al_ f fun b3 h4 f e _ _ => al_ f fun b5 h6 f e hb5 _ => st_ f (by simp) hb1 fun _ f _ => st_ f (by simp) hb1 fun _ f _ => ?_
  refine greater_Attr pf_attrs fun _ e => kp_ f e (by simp) fun f => st_ f (by simp) hb1 fun _ f _ => greater_Size pf_sizes fun _ e => kp_ f e (by simp) fun f => st_ f (by simp) hb1 fun h14 f _ => ?_
  refine alv_ f fun b15 h16 f' e r _ => kp_ f e (by simp) fun f => ?_
  refine concat_ (B := A) (ls := [m.Pieces, n.Pieces]) (rows2 r) rfl ?_ (by simp; omega) (by simp; omega) (by simp) fun s17 h18 e o17 b17 => kp_ f e (by simp) fun f18 => ?_
  · intro i s l hs hl
    match i with
    | 0 => simp at hs hl; subst hs; subst hl; exact x6.ext f.e0
    | 1 => simp at hs hl; subst hs; subst hl; exact y6.ext f.e0
    | i + 2 => simp at hs
  refine listed_ o17.rows (by simp; omega) fun s19 h20 e o19 b19 => ?_
  simp only [List.flatten_cons, List.flatten_nil, List.append_nil] at o19
  have g18 := f18.e0.size
  have c1 := (f18.b0 b1 (by simp)).2
  have c5 := (f18.b0 b5 (by simp)).2
  refine kp_ f18 e (by simp) fun f => st_ f (by simp) hb1 fun h21 f x21 => ?_
  have p19 : Own ePiece h21 s19 (mPieces (m.Pieces ++ n.Pieces)) := o19.ag x21 fun i hi hj => by
    simp at hi; have := b19 i hj; omega
  refine alv_ f fun b22 h23 f' e23 r _ => kp_ f e23 (by simp) fun f => ?_
  refine concat_ (B := A) (ls := [m.Xattrs, n.Xattrs]) (rows2 r) rfl ?_ (by simp; omega) (by simp; omega) (by simp) fun s24 h25 e25 o24 b24 => kp_ f e25 (by simp) fun f25 => ?_
  · intro i s l hs hl
    match i with
    | 0 => simp at hs hl; subst hs; subst hl; exact x7.ext f.e0
    | 1 => simp at hs hl; subst hs; subst hl; exact y7.ext f.e0
    | i + 2 => simp at hs
  refine named_ o24.rows (by simp; omega) fun s26 h27 e27 o26 b26 => ?_
  simp only [List.flatten_cons, List.flatten_nil, List.append_nil] at o26
  have d1 := (f25.b0 b1 (by simp)).2
  have d5 := (f25.b0 b5 (by simp)).2
  have g25 := f25.e0.size
  refine kp_ f25 e27 (by simp) fun f => st_ f (by simp) hb1 fun h28 f x28 => st_ f (by simp) hb5 fun h29 f x29 => ?_
  have q19 := ((((p19.ext e23).ext e25).ext e27).ag x28 fun i hi hj => by simp at hi; have := b19 i hj; omega).ag x29 fun i hi hj => by simp at hi; have := b19 i hj; omega
  have q26 := (o26.ag x28 fun i hi hj => by simp at hi; have := b26 i hj; omega).ag x29 fun i hi hj => by simp at hi; have := b26 i hj; omega
  refine k _ h29 f.e0 ⟨x1, by simp [mInode, x2, y2], by simp [mInode, x3, y3], by simp [mInode, x4, y4], by simp [mInode, x5, y5], ?_, ?_⟩
  · exact q19.rows.weak fun i hi => ⟨Nat.le_trans g18 (b19 i hi), q19.lt i hi⟩
  · exact q26.rows.weak fun i hi => ⟨Nat.le_trans g25 (b26 i hi), q26.lt i hi⟩
end Go.Lf
namespace Go.Lf
open Go.Crn
variable {h : Hp}
instance : Inhabited S_api_Link := ⟨⟨⟨0, 0⟩, ⟨0, 0⟩, ⟨0, 0⟩, ⟨0, 0⟩, [], ⟨0, 0, 0, 0, 0, 0, 0, 0⟩, ⟨0, 0, 0, 0, 0, 0, 0, 0⟩⟩⟩
structure StateM where
  Seen : A8 Int
  Nodes : List InodeM
  Links : List S_api_Link
def repS (A : Nat → Prop) (h : Hp) (x : S_api_State) (m : StateM) : Prop :=
  x.Seen = m.Seen ∧ (∃ l, Rows A eInode h x.Nodes l ∧ F2 (repI A h) l m.Nodes) ∧ Rows A eLink h x.Links m.Links
theorem repS_ag {A : Nat → Prop} {W : List Nat} {h' : Hp} {x : S_api_State} {m : StateM} (r : repS A h x m) (g : Ag W h h') (w : ∀ i ∈ W, ¬ A i) : repS A h' x m := by
  obtain ⟨h1, ⟨l, h2, h3⟩, h4⟩ := r
  exact ⟨h1, ⟨l, h2.ag g w, h3.imp fun _ _ _ hr => DI.ag hr g w⟩, h4.ag g w⟩
theorem repS_weak {A B : Nat → Prop} {x : S_api_State} {m : StateM} (r : repS A h x m) (w : ∀ i, A i → B i) : repS B h x m := by
  obtain ⟨h1, ⟨l, h2, h3⟩, h4⟩ := r
  exact ⟨h1, ⟨l, h2.weak w, h3.imp fun _ _ _ hr => DI.weak hr w⟩, h4.weak w⟩
theorem repS_ext {A : Nat → Prop} {h' : Hp} {x : S_api_State} {m : StateM} (r : repS A h x m) (g : Ext h h') : repS A h' x m := repS_ag r g fun _ h => by cases h
def normI (m : InodeM) : InodeM := { m with Pieces := mPieces m.Pieces, Xattrs := mXattrs m.Xattrs }
def kInodeM (a b : InodeM) : Int := cStamp a.Id b.Id
theorem Ord3.kInodeM : Ord3 kInodeM := Ord3.stamp.comap InodeM.Id
def mNodes (l : List InodeM) : List InodeM := mrg kInodeM mInode l
def mLinks (l : List S_api_Link) : List S_api_Link := mrg kLink mLink l
def mStates (m n : StateM) : StateM := ⟨vJoin m.Seen n.Seen, (mNodes (m.Nodes ++ n.Nodes)).map normI, mLinks (m.Links ++ n.Links)⟩
theorem wI_norm (m : InodeM) : wI (normI m) ≤ wI m := by
  have h1 := mPieces_len m.Pieces
  have h2 := mXattrs_len m.Xattrs
  simp only [wI, normI]; omega
/-- how much a state is -/
def wS (m : StateM) : Nat := m.Nodes.length + wsum wI m.Nodes + m.Links.length
theorem wsum_perm {M : Type} {wt : M → Nat} {a b : List M} (p : a.Perm b) : wsum wt a = wsum wt b := (p.map wt).sum_nat
theorem wsum_mrg {M : Type} {c : M → M → Int} {o : M → M → M} {wt : M → Nat} (w : Swo (ltOf c)) (hw : ∀ m n, wt (o m n) ≤ wt m + wt n) (l : List M) : wsum wt (mrg c o l) ≤ wsum wt l := by
  refine Nat.le_trans (wsum_mfold hw _) ?_
  rw [wsum_perm (Cls.perm w _ (Nat.le_refl _) (isort_ss w l).cls)]; exact Nat.le_refl _
theorem wS_le (m n : StateM) : wS (mStates m n) ≤ wS m + wS n := by
  have h1 := mrg_len (o := mInode) Ord3.kInodeM.swo (m.Nodes ++ n.Nodes)
  have h2 := mrg_len (o := mLink) Ord3.kLink.swo (m.Links ++ n.Links)
  have h3 := wsum_mrg (wt := wI) Ord3.kInodeM.swo wI_le (m.Nodes ++ n.Nodes)
  have h4 : wsum wI ((mNodes (m.Nodes ++ n.Nodes)).map normI) ≤ wsum wI (mNodes (m.Nodes ++ n.Nodes)) := by
    generalize mNodes (m.Nodes ++ n.Nodes) = l
    induction l with
    | nil => exact Nat.le_refl _
    | cons x l ih => have := wI_norm x; simp only [wsum, List.map_cons, List.sum_cons] at *; omega
  rw [wsum_app] at h3
  simp only [wS, mStates, mNodes, mLinks, List.length_map, List.length_append] at *
  omega
theorem F2.set {S M : Type} {R : S → M → Prop} {l : List S} {k : List M} (t : F2 R l k) {i : Nat} {x : S} {m : M} (hr : R x m) : F2 R (l.set i x) (k.set i m) := by
  induction t generalizing i with
  | nil => simpa using F2.nil
  | cons h _ ih =>
    cases i with
    | zero => exact .cons hr ‹_›
    | succ i => exact .cons h ih
theorem states_ {x y : S_api_State} {m n : StateM} {Q : S_api_State → Hp → Prop} (dx : repS (· < h.size) h x m) (dy : repS (· < h.size) h y n) (hw : wS m + wS n < 2 ^ 34)
    (k : ∀ r h', Ext h h' → repS (fun i => h.size ≤ i ∧ i < h'.size) h' r (mStates m n) → Q r h') : join_States x y Q h := by
  obtain ⟨x1, ⟨lx, x2, x3⟩, x4⟩ := id dx
  obtain ⟨y1, ⟨ly, y2, y3⟩, y4⟩ := id dy
  have hwx := x3.len
  have hwy := y3.len
  simp only [wS] at hw
  unfold join_States
  rw [merged_Inode, merged_Link]
  refine al_ .start fun b1 h2 f e hb1 _ => al_ f fun b3 h4 f e _ _ => al_ f fun b5 h6 f e hb5 _ => join_ fun h8 e => kp_ f e (by simp) fun f => al_ f fun b9 h10 f e hb9 _ => st_ f (by simp) hb9 fun h11 f11 _ => ?_
  have lt11 : ∀ i, i < h.size → i < h11.size := fun i hi => Nat.lt_of_lt_of_le hi f11.e0.size
  refine merged_ DI (wt := wI) (N := 2 ^ 34) (cM := kInodeM) (oM := mInode) (A := (· < h.size)) (ma := m.Nodes) (mb := n.Nodes) Ord3.kInode.swo Ord3.kInodeM.swo pf_kInode ?_ wI_le ?_ (x2.ext f11.e0) (y2.ext f11.e0)
    (B := (· < h.size)) lt11 (x3.imp fun _ _ _ hr => DI.ext hr f11.e0) (y3.imp fun _ _ _ hr => DI.ext hr f11.e0) ?_ (by omega) (by omega) fun s13 h13 l13 ms e13 o13 b13 d13 hm13 => ?_
  · rintro A B h x y m n ⟨h1, _⟩ ⟨k1, _⟩
    simp only [kInode, kInodeM, h1, k1]
  · intro h x y m n Q hx hy hw k
    exact inode_ hx hy (by omega) k
  · rw [wsum_app]; omega
  have hms : ms = mNodes (m.Nodes ++ n.Nodes) := hm13.eq Ord3.kInodeM.swo
  subst hms
  have c9 := (f11.b0 b9 (by simp)).2
  have c5 := (f11.b0 b5 (by simp)).2
  refine kp_ f11 e13 (by simp) fun f => st_ f (by simp) hb9 fun h14 f14 x14 => ?_
  have lt14 : ∀ i, i < h.size → i < h14.size := fun i hi => Nat.lt_of_lt_of_le hi f14.e0.size
  refine merged_ (Mdl.pure _) (wt := fun _ => 0) (N := 0) (cM := kLink) (oM := mLink) (A := (· < h.size)) (ma := m.Links) (mb := n.Links) Ord3.kLink.swo Ord3.kLink.swo pf_kLink ?_ (by simp) ?_ (x4.ext f14.e0) (y4.ext f14.e0)
    (B := (· < h14.size)) (fun _ h => h) F2.pure_mk F2.pure_mk (by rw [wsum0]; exact Nat.le_refl _) (by omega) (by omega) fun s16 h16 l16 ms e16 o16 b16 d16 hm16 => ?_
  · rintro A B h x y m n rfl rfl; rfl
  · rintro h x y m n Q rfl rfl _ k
    exact link_ fun h' e => k _ _ e rfl
  have := F2.pure_eq d16
  subst this
  have hms : ms = mLinks (m.Links ++ n.Links) := hm16.eq Ord3.kLink.swo
  subst hms
  have c9' := (f14.b0 b9 (by simp)).2
  have c5' := (f14.b0 b5 (by simp)).2
  refine kp_ f14 e16 (by simp) fun f => st_ f (by simp) hb9 fun h17 f17 x17 => ?_
  have g14 : h13.size = h14.size ∨ h13.size ≤ h14.size := .inr x14.size
  -- what stands at the loop's beginning
  have o13' : Own eInode h17 s13 l13 := ((o13.ag x14 fun i hi hj => by simp at hi; have := b13 i hj; omega).ext e16).ag x17 fun i hi hj => by simp at hi; have := b13 i hj; omega
  have o16' : Own eLink h17 s16 (mLinks (m.Links ++ n.Links)) := o16.ag x17 fun i hi hj => by simp at hi; have := b16 i hj; omega
  have hsz : h13.size ≤ h17.size := Nat.le_trans x14.size (Nat.le_trans e16.size x17.size)
  have d17 : F2 (repI (fun i => i < h17.size ∧ i ∉ s13.blk ∧ i ≠ b9.block ∧ i ≠ b5.block) h17) l13 (mNodes (m.Nodes ++ n.Nodes)) := by
    have g9 := (f11.b0 b9 (by simp)).1
    have g5 := (f11.b0 b5 (by simp)).1
    refine d13.imp fun y my _ hr => DI.weak (DI.ag (DI.ext (DI.ag hr x14 fun i hi hA => ?_) e16) x17 fun i hi hA => ?_) fun i hA => ⟨Nat.lt_of_lt_of_le hA.1 hsz, hA.2.1, ?_, ?_⟩
    · simp at hi; rcases hA.2.2 with h | h <;> omega
    · simp at hi; rcases hA.2.2 with h | h <;> omega
    · intro e; subst e; rcases hA.2.2 with h | h <;> omega
    · intro e; subst e; rcases hA.2.2 with h | h <;> omega
  have hl13 := o13'.len
  have hl13b : l13.length < 2 ^ 35 := by
    have a1 := d13.len
    have a2 := mrg_len (o := mInode) Ord3.kInodeM.swo (m.Nodes ++ n.Nodes)
    rw [List.length_append] at a2
    rw [mNodes] at a1
    omega
  refine loop_ (fun q u h1 => ∃ L1 L2 M1 M2, mNodes (m.Nodes ++ n.Nodes) = M1 ++ M2 ∧ L1.length + L2.length = l13.length ∧ u = (L1.length : Int) ∧ q = L2.length ∧ Fr h [b9, b5] h1 h1 ∧ Own eInode h1 s13 (L1 ++ L2) ∧ Own eLink h1 s16 (mLinks (m.Links ++ n.Links)) ∧
      F2 (repI (fun i => h.size ≤ i ∧ i < h1.size ∧ i ∉ s13.blk ∧ i ≠ b5.block) h1) L1 (M1.map normI) ∧ F2 (repI (fun i => i < h1.size ∧ i ∉ s13.blk ∧ i ≠ b9.block ∧ i ≠ b5.block) h1) L2 M2) l13.length
    ⟨[], l13, [], _, rfl, by simp, by simp, rfl, ⟨f17.e0, fun b hb => f17.b0 b (by simp at hb ⊢; rcases hb with rfl | rfl <;> simp), .refl⟩, o13', o16', .nil, d17⟩ ?_
  rintro q u h1 ⟨L1, L2, M1, M2, hM, hL, rfl, rfl, f1, o1, ol1, t1, t2⟩
  refine if_ (fun g => ?_) fun g => ?_
  · simp only [decide_eq_true_eq] at g
    obtain ⟨x, L2, rfl⟩ : ∃ y t, L2 = y :: t := by
      cases L2 with
      | nil => simp at hL; omega
      | cons y t => exact ⟨y, t, rfl⟩
    obtain ⟨mx, M2, rfl, tx, t2⟩ : ∃ mx M, M2 = mx :: M ∧ repI (fun i => i < h1.size ∧ i ∉ s13.blk ∧ i ≠ b9.block ∧ i ≠ b5.block) h1 x mx ∧ F2 (repI (fun i => i < h1.size ∧ i ∉ s13.blk ∧ i ≠ b9.block ∧ i ≠ b5.block) h1) L2 M := by
      cases t2 with
      | cons h t => exact ⟨_, _, rfl, h, t⟩
    have gx : (L1 ++ x :: L2)[L1.length]? = some x := by simp
    refine own_ix o1 rfl (by simp) fun p hp => own_ld o1 hp gx <| al_ f1 fun b26 h27 f27 e27 hb26 _ => st_ f27 (by simp) hb26 fun h28 f28 x28 => ?_
    obtain ⟨r1, r2, r3, r4, r5, r6, r7⟩ := tx
    have hwx : wI mx < 2 ^ 34 := by
      have h1 := wsum_mrg (c := kInodeM) (o := mInode) (wt := wI) Ord3.kInodeM.swo wI_le (m.Nodes ++ n.Nodes)
      have h2 : wsum wI (mNodes (m.Nodes ++ n.Nodes)) = wsum wI M1 + (wI mx + wsum wI M2) := by rw [hM, wsum_app]; simp [wsum]
      rw [mNodes] at h2
      rw [wsum_app] at h1
      omega
    simp only [wI] at hwx
    have s13lt : ∀ i ∈ s13.blk, i < h1.size := o1.lt
    have s13ge : ∀ i ∈ s13.blk, h11.size ≤ i := b13
    have s13h : ∀ i ∈ s13.blk, h.size ≤ i := fun i hi => Nat.le_trans f11.e0.size (b13 i hi)
    have b9n : b9.block ∉ s13.blk := fun hi => by have := b13 _ hi; omega
    have b5n : b5.block ∉ s13.blk := fun hi => by have := b13 _ hi; omega
    have b5lt := (f1.b0 b5 (by simp)).2
    have b9lt := (f1.b0 b9 (by simp)).2
    have g28 := f28.eA.size
    refine listed_ (r6.ext f28.eA) (by omega) fun s29 h30 e29 o29 b29 => kp_ f28 e29 (by simp) fun f30 => ?_
    have g30 := f30.eA.size
    refine named_ (r7.ext f30.eA) (by omega) fun s31 h32 e31 o31 b31 => kp_ f30 e31 (by simp) fun f32 => ?_
    have o32 := o1.ext f32.eA
    have hdis : ∀ b ∈ [b9, b5], b.block ∉ s13.blk := fun b hb => by simp at hb; rcases hb with rfl | rfl <;> assumption
    refine own_ix o32 rfl (by simp) fun p33 hp33 => own_st1 (off := 11) (x' := { x with Pieces := s29 }) (u := Sl.enc x.Pieces) o32 hp33 gx rfl rfl fun h35 x35 o35 => kpa_ f32 x35 (by simp) hdis ?_
    have f35 := f32.ag x35 s13h
    have gx2 : ((L1 ++ x :: L2).set L1.length { x with Pieces := s29 })[L1.length]? = some { x with Pieces := s29 } := by simp
    refine own_ix o35 rfl (by simp) fun p36 hp36 => own_st1 (off := 12) (x' := { x with Pieces := s29, Xattrs := s31 }) (u := Sl.enc x.Xattrs) o35 hp36 gx2 rfl rfl fun h38 x38 o38 => kpa_ f35 x38 (by simp) hdis ?_
    have f38 := f35.ag x38 s13h
    have g38 : h32.size ≤ h38.size := Nat.le_trans x35.size x38.size
    have g32 := e31.size
    have g130 := e29.size
    have hset : (((L1 ++ x :: L2).set L1.length { x with Pieces := s29 }).set L1.length { x with Pieces := s29, Xattrs := s31 }) = L1 ++ [{ x with Pieces := s29, Xattrs := s31 }] ++ L2 := by simp
    rw [hset] at o38
    have p29 := ((o29.ext e31).ag x35 fun i hi hj => by have := s13lt i hi; have := b29 i hj; omega).ag x38 fun i hi hj => by have := s13lt i hi; have := b29 i hj; omega
    have p31 := (o31.ag x35 fun i hi hj => by have := s13lt i hi; have := b31 i hj; omega).ag x38 fun i hi hj => by have := s13lt i hi; have := b31 i hj; omega
    have gh1 := f1.e0.size
    refine ⟨L2.length, by simp, L1 ++ [{ x with Pieces := s29, Xattrs := s31 }], L2, M1 ++ [mx], M2, by rw [hM]; simp, by simp at hL ⊢; omega, ?_, rfl, f38.drop (by simp), by simpa using o38, ?_, ?_, ?_⟩
    · rw [wi (by omega) (by simp at hL; omega)]; simp
    · refine ((ol1.ext f32.eA).ag x35 fun i hi hj => ?_).ag x38 fun i hi hj => ?_
      all_goals (have a1 := o13.lt i hi; have a2 := b16 i hj; have a3 := x14.size; omega)
    · rw [List.map_append]
      refine F2.app (t1.imp fun _ _ _ hr => ?_) (.cons ?_ .nil)
      · exact DI.weak (DI.ag (DI.ag (DI.ext hr f32.eA) x35 fun i hi hA => hA.2.2.1 hi) x38 fun i hi hA => hA.2.2.1 hi) fun i hA => ⟨hA.1, Nat.lt_of_lt_of_le hA.2.1 (Nat.le_trans f32.eA.size g38), hA.2.2⟩
      · refine ⟨r1, r2, r3, r4, r5, p29.rows.weak fun i hi => ⟨?_, p29.lt i hi, fun hj => ?_, fun he => ?_⟩, p31.rows.weak fun i hi => ⟨?_, p31.lt i hi, fun hj => ?_, fun he => ?_⟩⟩
        · have := b29 i hi; omega
        · have := b29 i hi; have := s13lt i hj; omega
        · have := b29 i hi; omega
        · have := b31 i hi; omega
        · have := b31 i hi; have := s13lt i hj; omega
        · have := b31 i hi; omega
    · exact t2.imp fun _ _ _ hr => DI.weak (DI.ag (DI.ag (DI.ext hr f32.eA) x35 fun i hi hA => hA.2.1 hi) x38 fun i hi hA => hA.2.1 hi) fun i hA => ⟨Nat.lt_of_lt_of_le hA.1 (Nat.le_trans f32.eA.size g38), hA.2⟩
  · simp only [decide_eq_false_iff_not] at g
    have hl : L2 = [] := by
      have : L2.length = 0 := by omega
      simpa using this
    subst hl
    have hm : M2 = [] := by
      have := t2.len
      have : M2.length = 0 := by simpa using this.symm
      simpa using this
    subst hm
    refine st0_ f1 (by simp) fun h39 f39 x39 => k _ h39 f39.e0 ?_
    refine ⟨by simp [mStates, x1, y1], ⟨L1, ?_, ?_⟩, ?_⟩
    · have := o1.ag x39 fun i hi hj => by simp at hi; have := b13 i hj; omega
      rw [List.append_nil] at this
      exact this.rows.weak fun i hi => ⟨Nat.le_trans f11.e0.size (b13 i hi), this.lt i hi⟩
    · simp only [mStates, hM, List.append_nil]
      exact t1.imp fun _ _ _ hr => DI.weak (DI.ag hr x39 fun i hi hA => by simp at hi; exact hA.2.2.2 hi) fun i hA => ⟨hA.1, Nat.lt_of_lt_of_le hA.2.1 x39.size⟩
    · have := ol1.ag x39 fun i hi hj => by simp at hi; have := b16 i hj; omega
      exact this.rows.weak fun i hi => ⟨Nat.le_trans f14.e0.size (b16 i hi), this.lt i hi⟩
end Go.Lf
namespace Go.Lf
open Go.Crn
variable {h : Hp}
def rootM : InodeM := ⟨⟨0, 0⟩, 2, [], ⟨⟨0, 0⟩, 493, 9223372036854775808⟩, ⟨⟨0, 0⟩, 0⟩, [], []⟩
def emptyM : StateM := ⟨⟨0, 0, 0, 0, 0, 0, 0, 0⟩, [rootM], []⟩
theorem fEq00 : fEq 0 0 = true := by decide
theorem empty_ {Q : S_api_State → Hp → Prop} (k : ∀ r h', Ext h h' → repS (fun i => h.size ≤ i ∧ i < h'.size) h' r emptyM → Q r h') : facts_Empty Q h := by
  unfold facts_Empty instant_Of math_IsNaN
  rw [fEq00]
  refine al_ .start fun b1 h2 f e hb1 _ => if_false (if_true (kp_ f .refl (by simp) fun f2 => alv_ f2 fun b5 h6 f' e6 r6 hb5 => kp_ f e6 (by simp) fun f => st_ f (by simp) hb1 fun h7 f7 x7 => k _ h7 f7.e0 ?_))
  rw [List.flatten_singleton] at r6
  have r7 := row_ag r6 x7 (by
    simp
    have := (f2.b0 b1 (by simp)).2
    omega)
  refine ⟨rfl, ⟨[⟨⟨0, 0⟩, 2, [], ⟨⟨0, 0⟩, 493, 9223372036854775808⟩, ⟨⟨0, 0⟩, 0⟩, Sl.nil, Sl.nil⟩], ?_, .cons ⟨rfl, rfl, rfl, rfl, rfl, Rows.nil, Rows.nil⟩ .nil⟩, Rows.nil⟩
  exact (rows1 (e := eInode) r7).weak fun i hi => by
    subst hi
    have := f7.e0.size
    have := x7.size
    have := e6.size
    refine ⟨?_, ?_⟩
    · have := e.size; omega
    · have := cell_lt (r7 0 _ rfl); simpa [add_block] using this
structure EventM where
  At : S_api_Stamp
  Vol : Int
  Knew : A8 Int
  Delta : StateM
def repE (A : Nat → Prop) (h : Hp) (x : S_api_Event) (m : EventM) : Prop := x.At = m.At ∧ x.Vol = m.Vol ∧ x.Knew = m.Knew ∧ repS A h x.Delta m.Delta
def eEvent : Elt S_api_Event := ⟨S_api_Event.cells, 21, fun _ => rfl, fun _ => rfl⟩
/-- a list of events reads as so many -/
def repL (h : Hp) (s : Sl) (m : List EventM) : Prop := ∃ l, Rows (· < h.size) eEvent h s l ∧ F2 (repE (· < h.size) h) l m
theorem repL_ext {h' : Hp} {s : Sl} {m : List EventM} (r : repL h s m) (e : Ext h h') : repL h' s m := by
  obtain ⟨l, h1, h2⟩ := r
  refine ⟨l, (h1.ext e).weak fun i hi => Nat.lt_of_lt_of_le hi e.size, h2.imp fun _ _ _ ⟨a, b, c, d⟩ => ⟨a, b, c, repS_weak (repS_ext d e) fun i hi => Nat.lt_of_lt_of_le hi e.size⟩⟩
def mFold (l : List EventM) : StateM := l.foldl (fun s e => mStates s e.Delta) emptyM
def wL (l : List EventM) : Nat := wsum (fun e : EventM => wS e.Delta) l
theorem wFold (l : List EventM) : wS (mFold l) ≤ 1 + wL l := by
  have : ∀ (l : List EventM) (s : StateM), wS (l.foldl (fun s e => mStates s e.Delta) s) ≤ wS s + wL l := by
    intro l
    induction l with
    | nil => intro s; simp [wL, wsum]
    | cons x l ih =>
      intro s
      have h1 := ih (mStates s x.Delta)
      have h2 := wS_le s x.Delta
      simp only [List.foldl_cons, wL, wsum, List.map_cons, List.sum_cons] at *
      omega
  have h0 : wS emptyM = 1 := by simp [wS, emptyM, rootM, wsum, wI]
  have := this l emptyM
  rw [h0] at this
  exact this
theorem fold_ {s : Sl} {m : List EventM} {Q : S_api_State → Hp → Prop} (r : repL h s m) (hw : wL m < 2 ^ 32) (hn : m.length < 2 ^ 32) (k : ∀ r h', Ext h h' → repS (fun i => h.size ≤ i ∧ i < h'.size) h' r (mFold m) → Q r h') : model_Fold s Q h := by
  unfold model_Fold
  obtain ⟨l, r1, r2⟩ := r
  have hlen := r2.len
  refine al_ .start fun b1 h2 f2 e2 hb1 _ => empty_ fun r3 h4 e4 d4 => kp_ f2 e4 (by simp) fun f4 => al_ f4 fun b5 h6 f6 e6 hb5 hb5e => st_ f6 (by simp) hb5 fun h7 f7 x7 => ?_
  have g2 := e2.size
  have c1 := (f2.b0 b1 (by simp)).2
  have d7 : repS (fun i => h.size ≤ i ∧ i < h7.size ∧ i ≠ b1.block ∧ i ≠ b5.block) h7 r3 emptyM := by
    refine repS_weak (repS_ag (repS_ext d4 e6) x7 fun i hi hA => by simp at hi; omega) fun i hA => ⟨by omega, ?_, by omega, by omega⟩
    have := e6.size; have := x7.size; omega
  refine loop_ (fun q u h1 => ∃ i : Nat, i ≤ l.length ∧ u.1 = (i : Int) ∧ q = l.length - i ∧ Fr h [b5, b1] h1 h1 ∧ repS (fun i => h.size ≤ i ∧ i < h1.size ∧ i ≠ b1.block ∧ i ≠ b5.block) h1 u.2 (mFold (m.take i))) l.length
    ⟨0, by omega, rfl, by omega, f7.base, by simpa [mFold] using d7⟩ ?_
  rintro q ⟨u1, u2⟩ h10 ⟨i, hi, hu, rfl, f10, d10⟩
  simp only at hu d10
  subst hu
  have hs := r1.1
  refine if_ (fun g => ?_) fun g => ?_
  · simp only [decide_eq_true_eq] at g
    have hil : i < l.length := by omega
    have gx : l[i]? = some l[i] := by simp [hil]
    generalize l[i] = x at gx
    obtain ⟨mx, gm, rx⟩ := r2.get gx
    have hst : m.take (i + 1) = m.take i ++ [mx] := by rw [List.take_add_one, gm]; rfl
    have hww : wL (m.take i) + wS mx.Delta ≤ wL m := by
      have : wL (m.take (i + 1)) ≤ wL m := by
        conv => rhs; rw [← List.take_append_drop (i + 1) m]
        simp only [wL, wsum_app]; omega
      rw [hst] at this
      simp only [wL, wsum_app] at this ⊢
      simp [wsum] at this ⊢
      omega
    have hwf := wFold (m.take i)
    refine ixlda (r1.ext f10.e0) rfl gx fun p _ _ => al_ f10 fun b16 h17 f17 e17 hb16 _ => st_ f17 (by simp) hb16 fun h18 f18 x18 => ?_
    have g18 := f18.eA.size
    have g10 := f10.e0.size
    have z1 := (f10.b0 b1 (by simp)).2
    have z5 := (f10.b0 b5 (by simp)).2
    refine states_ (m := mFold (m.take i)) (n := mx.Delta) (repS_weak (repS_ext d10 f18.eA) fun i hA => by omega) (repS_weak (repS_ext rx.2.2.2 f18.e0) fun i hA => by omega) (by omega) fun r19 h20 e20 d20 => kp_ f18 e20 (by simp) fun f20 => st0_ f20 (by simp) fun h21 f21 x21 => ?_
    refine ⟨l.length - (i + 1), by omega, i + 1, by omega, by rw [wi (by omega) (by omega)]; rfl, rfl, f21.drop (by simp), ?_⟩
    rw [hst]
    have : mFold (m.take i ++ [mx]) = mStates (mFold (m.take i)) mx.Delta := by simp [mFold, List.foldl_append]
    rw [this]
    refine repS_weak (repS_ag d20 x21 fun i hi hA => by simp at hi; omega) fun i hA => ⟨by omega, ?_, by omega, by omega⟩
    have := x21.size; omega
  · simp only [decide_eq_false_iff_not] at g
    have : i = l.length := by omega
    subst this
    rw [List.take_of_length_le (by omega)] at d10
    refine st0_ f10 (by simp) fun h22 f22 x22 => k _ _ f22.e0 ?_
    refine repS_weak (repS_ag d10 x22 fun i hi hA => by simp at hi; exact hA.2.2.1 hi) fun i hA => ⟨hA.1, ?_⟩
    have := x22.size; omega
end Go.Lf
namespace Go.Lf
open Go.Crn
theorem cI_lt {a b : Int} : cI a b < 0 ↔ a < b := by unfold cI; split <;> (try split) <;> omega
theorem cI_eq {a b : Int} : cI a b = 0 ↔ a = b := by unfold cI; split <;> (try split) <;> omega
theorem orL_lt {x : Int} {l : List Int} : orL (x :: l) < 0 ↔ x < 0 ∨ (x = 0 ∧ orL l < 0) := by
  simp only [orL]; split <;> omega
theorem orL_eq {x : Int} {l : List Int} : orL (x :: l) = 0 ↔ x = 0 ∧ orL l = 0 := by
  simp only [orL]; split <;> omega
theorem cStamp_lt {a b : S_api_Stamp} : cStamp a b < 0 ↔ a.Time < b.Time ∨ (a.Time = b.Time ∧ a.Who < b.Who) := by
  unfold cStamp
  rw [orL_lt, cI_lt, cI_eq, orL_one, cI_lt]
theorem cStamp_eq {a b : S_api_Stamp} : cStamp a b = 0 ↔ a = b := by
  unfold cStamp
  rw [orL_eq, cI_eq, orL_one, cI_eq]
  cases a; cases b; simp
theorem cAttr_lt {a b : S_api_Attr} : cAttr a b < 0 ↔ cStamp a.At b.At < 0 ∨ (a.At = b.At ∧ (a.Mode < b.Mode ∨ (a.Mode = b.Mode ∧ a.Time < b.Time))) := by
  unfold cAttr
  rw [orL_lt, orL_lt, orL_one, cI_lt, cI_lt, cI_eq, cStamp_eq]
theorem cSize_lt {a b : S_api_Size} : cSize a b < 0 ↔ cStamp a.At b.At < 0 ∨ (a.At = b.At ∧ a.N < b.N) := by
  unfold cSize
  rw [orL_lt, orL_one, cI_lt, cStamp_eq]
theorem cPiece_lt {a b : S_api_Piece} : cPiece a b < 0 ↔ cStamp a.At b.At < 0 ∨ (a.At = b.At ∧ sLt a.Data b.Data = true) := by
  unfold cPiece
  rw [orL_lt, orL_one, cS_lt, cStamp_eq]
theorem flag_lt {a b : Bool} : cI (flagI a) (flagI b) < 0 ↔ a = false ∧ b = true := by cases a <;> cases b <;> simp [flagI, cI]
theorem flag_eq {a b : Bool} : cI (flagI a) (flagI b) = 0 ↔ a = b := by cases a <;> cases b <;> simp [flagI, cI]
theorem cXattr_lt {a b : S_api_Xattr} : cXattr a b < 0 ↔ cStamp a.At b.At < 0 ∨ (a.At = b.At ∧ ((a.Gone = false ∧ b.Gone = true) ∨ (a.Gone = b.Gone ∧ sLt a.Val b.Val = true))) := by
  unfold cXattr
  rw [orL_lt, orL_lt, orL_one, flag_lt, flag_eq, cS_lt, cStamp_eq]
theorem cPlace_lt {a b : S_api_Link} : cPlace a b < 0 ↔ cStamp a.At b.At < 0 ∨ (a.At = b.At ∧ (cStamp a.Parent b.Parent < 0 ∨ (a.Parent = b.Parent ∧ sLt a.Name b.Name = true))) := by
  unfold cPlace
  rw [orL_lt, orL_lt, orL_one, cS_lt, cStamp_eq, cStamp_eq]
end Go.Lf
namespace Go.Lf
/-! ## the plain law: rows that are merged, one by one or all at once -/
section
variable {M : Type} {c : M → M → Int} {o : M → M → M}
/-- how keys and what is made of two go together -/
structure KeyOf (c : M → M → Int) (o : M → M → M) : Prop where
  ord : Ord3 c
  left : ∀ x y z, c x y = 0 → c (o x y) z = c x z
  right : ∀ x y z, c x y = 0 → c z (o x y) = c z x
def rstep (c : M → M → Int) (o : M → M → M) (nw : M → M) (x : M) (s : List M × Bool) (p : M) : List M × Bool :=
  let q := if c p x = 0 then (o p x, true) else (p, s.2)
  if !q.2 && decide (c x q.1 < 0) then (s.1 ++ [nw x] ++ [q.1], true) else (s.1 ++ [q.1], q.2)
def rput (c : M → M → Int) (o : M → M → M) (nw : M → M) (l : List M) (x : M) : List M :=
  let s := l.foldl (rstep c o nw x) ([], false)
  if s.2 then s.1 else s.1 ++ [nw x]
theorem KeyOf.zero_l (k : KeyOf c o) {x y z : M} (h : c x y = 0) : c x z = 0 ↔ c y z = 0 := by
  have a := k.ord
  have h' := (a.flip0).1 h
  have t1 := a.tr y x z; have t2 := a.tr x y z; have t3 := a.tr z x y; have t4 := a.tr z y x
  have f1 := a.flip0 (x := x) (y := z); have f2 := a.flip0 (x := y) (y := z)
  have g1 := a.anti x z; have g2 := a.anti z x; have g3 := a.anti y z; have g4 := a.anti z y
  omega
theorem KeyOf.neg_l (k : KeyOf c o) {x y z : M} (h : c x y = 0) : c x z < 0 ↔ c y z < 0 := by
  have a := k.ord
  have h' := (a.flip0).1 h
  have t1 := a.tr y x z; have t2 := a.tr x y z; have t3 := a.tr z x y; have t4 := a.tr z y x
  have f1 := a.flip0 (x := x) (y := z); have f2 := a.flip0 (x := y) (y := z)
  have g1 := a.anti x z; have g2 := a.anti z x; have g3 := a.anti y z; have g4 := a.anti z y
  omega
/-- what is behind is passed over -/
theorem rput_past (nw : M → M) (x : M) (A : List M) (hA : ∀ a ∈ A, c a x < 0) (hx : Ord3 c) (s : List M) : A.foldl (rstep c o nw x) (s, false) = (s ++ A, false) := by
  induction A generalizing s with
  | nil => simp
  | cons a A ih =>
    have h1 := hA a (by simp)
    have h2 : ¬ c x a < 0 := by have := (hx.anti a x).1 h1; omega
    have h3 : c a x ≠ 0 := by omega
    have : rstep c o nw x (s, false) a = (s ++ [a], false) := by simp [rstep, h3, h2]
    rw [List.foldl_cons, this, ih fun b hb => hA b (by simp [hb])]
    simp
theorem rput_rest (nw : M → M) (x : M) (A : List M) (hA : ∀ a ∈ A, c a x ≠ 0) (s : List M) : A.foldl (rstep c o nw x) (s, true) = (s ++ A, true) := by
  induction A generalizing s with
  | nil => simp
  | cons a A ih =>
    have h3 := hA a (by simp)
    have : rstep c o nw x (s, true) a = (s ++ [a], true) := by simp [rstep, h3]
    rw [List.foldl_cons, this, ih fun b hb => hA b (by simp [hb])]
    simp
theorem rput_same (hx : Ord3 c) (nw : M → M) {A B : List M} {x y : M} (hA : ∀ a ∈ A, c a x < 0) (hy : c y x = 0) (hB : ∀ b ∈ B, c x b < 0) : rput c o nw (A ++ y :: B) x = A ++ o y x :: B := by
  have hB' : ∀ b ∈ B, c b x ≠ 0 := fun b hb => by have := hB b hb; have := (hx.anti x b).1 this; omega
  have : rstep c o nw x ([] ++ A, false) y = ([] ++ A ++ [o y x], true) := by simp [rstep, hy]
  simp only [rput, List.foldl_append, List.foldl_cons]
  rw [rput_past nw x A hA hx, this, rput_rest nw x B hB']
  simp
theorem rput_new (hx : Ord3 c) (nw : M → M) {A B : List M} {x : M} (hA : ∀ a ∈ A, c a x < 0) (hB : ∀ b ∈ B, c x b < 0) : rput c o nw (A ++ B) x = A ++ nw x :: B := by
  have hB' : ∀ b ∈ B, c b x ≠ 0 := fun b hb => by have := hB b hb; have := (hx.anti x b).1 this; omega
  simp only [rput, List.foldl_append]
  rw [rput_past nw x A hA hx]
  cases B with
  | nil => simp
  | cons b B =>
    have h1 := hB b (by simp)
    have h2 := hB' b (by simp)
    have : rstep c o nw x ([] ++ A, false) b = ([] ++ A ++ [nw x] ++ [b], true) := by simp [rstep, h2, h1]
    rw [List.foldl_cons, this, rput_rest nw x B fun z hz => hB' z (by simp [hz])]
    simp
theorem snocInd {α : Type} {P : List α → Prop} (h0 : P []) (h1 : ∀ l x, P l → P (l ++ [x])) : ∀ l, P l := by
  intro l
  have : ∀ n (l : List α), l.length = n → P l := by
    intro n
    induction n with
    | zero => intro l hl; have : l = [] := by simpa using hl
              subst this; exact h0
    | succ n ih =>
      intro l hl
      rcases List.eq_nil_or_concat l with rfl | ⟨l', x, rfl⟩
      · simp at hl
      · rw [List.concat_eq_append] at hl ⊢
        exact h1 _ _ (ih _ (by simp at hl; exact hl))
  exact this _ l rfl
/-- each that is left has the key of one that came -/
theorem mfold_key (k : KeyOf c o) : ∀ l : List M, ∀ y ∈ mfold c o l, ∃ a ∈ l, ∀ z, c y z = c a z ∧ c z y = c z a := by
  refine snocInd (by simp [mfold]) fun l x ih => ?_
  rw [mfold_snoc]
  rcases List.eq_nil_or_concat (mfold c o l) with hm | ⟨O, y, hm⟩
  · rw [hm, mstep_nil]
    intro y hy
    simp at hy; subst hy
    exact ⟨y, by simp, fun z => ⟨rfl, rfl⟩⟩
  · rw [List.concat_eq_append] at hm
    rw [hm] at ih ⊢
    have old : ∀ z ∈ O ++ [y], ∃ a ∈ l ++ [x], ∀ w, c z w = c a w ∧ c w z = c w a := fun z hz => by
      obtain ⟨a, ha, h⟩ := ih z hz
      exact ⟨a, by simp [ha], h⟩
    by_cases hc : c y x = 0
    · rw [mstep_same hc]
      intro z hz
      rcases List.mem_append.1 hz with hz | hz
      · exact old z (by simp [hz])
      · simp at hz; subst hz
        obtain ⟨a, ha, h⟩ := old y (by simp)
        exact ⟨a, ha, fun w => ⟨by rw [k.left _ _ _ hc]; exact (h w).1, by rw [k.right _ _ _ hc]; exact (h w).2⟩⟩
    · rw [mstep_new hc]
      intro z hz
      rcases List.mem_append.1 hz with hz | hz
      · exact old z hz
      · simp at hz; subst hz
        exact ⟨z, by simp, fun w => ⟨rfl, rfl⟩⟩
theorem mstep_app {U V : List M} {x : M} (hV : V ≠ []) : mstep c o (U ++ V) x = U ++ mstep c o V x := by
  rcases List.eq_nil_or_concat V with rfl | ⟨V', y, rfl⟩
  · exact (hV rfl).elim
  · rw [List.concat_eq_append, ← List.append_assoc]
    by_cases hc : c y x = 0
    · rw [mstep_same hc, mstep_same hc]; simp
    · rw [mstep_new hc, mstep_new hc]; simp
theorem mfold_ne {l : List M} (h : l ≠ []) : mfold c o l ≠ [] := by
  rcases List.eq_nil_or_concat l with rfl | ⟨l', x, rfl⟩
  · exact (h rfl).elim
  · rw [List.concat_eq_append, mfold_snoc]
    rcases List.eq_nil_or_concat (mfold c o l') with hm | ⟨O, y, hm⟩
    · rw [hm, mstep_nil]; simp
    · rw [hm, List.concat_eq_append]
      by_cases hc : c y x = 0
      · rw [mstep_same hc]; simp
      · rw [mstep_new hc]; simp
theorem mfold_split (k : KeyOf c o) {A : List M} : ∀ B : List M, (∀ a ∈ A, ∀ b ∈ B, c a b ≠ 0) → mfold c o (A ++ B) = mfold c o A ++ mfold c o B := by
  refine snocInd (by simp [mfold]) fun B x ih h => ?_
  rw [← List.append_assoc, mfold_snoc, ih fun a ha b hb => h a ha b (by simp [hb]), mfold_snoc]
  by_cases hB : mfold c o B = []
  · rw [hB, List.append_nil, mstep_nil]
    rcases List.eq_nil_or_concat (mfold c o A) with hm | ⟨O, y, hm⟩
    · rw [hm, mstep_nil]; rfl
    · rw [List.concat_eq_append] at hm
      obtain ⟨a, ha, hk⟩ := mfold_key k A y (by rw [hm]; simp)
      rw [hm, mstep_new (by rw [(hk x).1]; exact h a ha x (by simp))]
  · rw [mstep_app hB]
/-- what is left of a row in order rises -/
theorem mfold_rises (k : KeyOf c o) : ∀ l : List M, l.Pairwise (Le (ltOf c)) → (mfold c o l).Pairwise fun a b => c a b < 0 := by
  refine snocInd (by simp [mfold]) fun l x ih h => ?_
  rw [List.pairwise_append] at h
  have ih := ih h.1
  rw [mfold_snoc]
  have hkey := mfold_key k l
  rcases List.eq_nil_or_concat (mfold c o l) with hm | ⟨O, y, hm⟩
  · rw [hm, mstep_nil]; simp
  · rw [List.concat_eq_append] at hm
    rw [hm] at ih hkey ⊢
    rw [List.pairwise_append] at ih
    have hyx : c y x ≤ 0 := by
      obtain ⟨a, ha, hk⟩ := hkey y (by simp)
      have h1 := h.2.2 a ha x (by simp)
      simp only [Le, ltOf, decide_eq_false_iff_not] at h1
      have := k.ord.anti a x; have := k.ord.anti x a
      rw [(hk x).1]; omega
    by_cases hc : c y x = 0
    · rw [mstep_same hc, List.pairwise_append]
      refine ⟨ih.1, by simp, fun a ha b hb => ?_⟩
      simp at hb; subst hb
      rw [k.right _ _ _ hc]; exact ih.2.2 a ha y (by simp)
    · rw [mstep_new hc, List.pairwise_append, List.pairwise_append]
      refine ⟨ih, by simp, fun a ha b hb => ?_⟩
      simp at hb; subst hb
      have hyb : c y b < 0 := by omega
      rcases List.mem_append.1 ha with ha | ha
      · have h1 := ih.2.2 a ha y (by simp)
        have := k.ord.tr a y b (by omega) (by omega)
        have e := k.ord.swo.tr a y b (by simpa [ltOf] using h1) (by simpa [ltOf] using hyb)
        simpa [ltOf] using e
      · simp at ha; subst ha; exact hyb
theorem split_at (w : Ord3 c) (x : M) : ∀ s : List M, s.Pairwise (Le (ltOf c)) → ∃ A B, s = A ++ B ∧ (∀ a ∈ A, Le (ltOf c) a x) ∧ (∀ b ∈ B, ltOf c x b = true)
  | [], _ => ⟨[], [], rfl, by simp, by simp⟩
  | y :: s, h => by
    rw [List.pairwise_cons] at h
    by_cases hy : ltOf c x y = true
    · exact ⟨[], y :: s, rfl, by simp, fun b hb => by
        rcases List.mem_cons.1 hb with rfl | hb
        · exact hy
        · exact w.swo.lt_le hy (h.1 b hb)⟩
    · obtain ⟨A, B, rfl, h1, h2⟩ := split_at w x s h.2
      exact ⟨y :: A, B, rfl, fun a ha => by
        rcases List.mem_cons.1 ha with rfl | ha
        · simpa [Le] using hy
        · exact h1 a ha, h2⟩
/-- one more, at the end -/
theorem mrg_snoc (k : KeyOf c o) (L : List M) (x : M) : mrg c o (L ++ [x]) = rput c o id (mrg c o L) x := by
  have w := k.ord.swo
  have hs := isort_ss w L
  obtain ⟨A, B, hAB, hA, hB⟩ := split_at k.ord x _ hs.sorted
  rw [hAB] at hs
  have h1 : isort (ltOf c) (L ++ [x]) = A ++ x :: B := (ss_isort w (SS.ins w hs hB hA)).symm
  have hp := hs.sorted
  rw [List.pairwise_append] at hp
  have hxB : ∀ b ∈ B, c x b < 0 := fun b hb => by simpa [ltOf] using hB b hb
  have hAx : ∀ a ∈ A, c a x ≤ 0 := fun a ha => by
    have := hA a ha
    simp only [Le, ltOf, decide_eq_false_iff_not] at this
    have h2 := k.ord.anti x a; have h3 := k.ord.anti a x
    omega
  have hab : ∀ a ∈ A, ∀ b ∈ B, c a b < 0 := fun a ha b hb => by
    have := w.le_lt (hA a ha) (hB b hb)
    simpa [ltOf] using this
  have e1 : mrg c o L = mfold c o A ++ mfold c o B := by
    unfold mrg
    rw [hAB, mfold_split k B fun a ha b hb => by have := hab a ha b hb; omega]
  have e2 : mrg c o (L ++ [x]) = mstep c o (mfold c o A) x ++ mfold c o B := by
    unfold mrg
    rw [h1, show A ++ x :: B = (A ++ [x]) ++ B by simp, mfold_split k B, mfold_snoc]
    intro a ha b hb
    rcases List.mem_append.1 ha with ha | ha
    · have := hab a ha b hb; omega
    · simp at ha; subst ha; have := hxB b hb; omega
  have hB2 : ∀ b ∈ mfold c o B, c x b < 0 := fun b hb => by
    obtain ⟨b', hb', hk⟩ := mfold_key k B b hb
    rw [(hk x).2]; exact hxB b' hb'
  have hA2 : ∀ a ∈ mfold c o A, c a x ≤ 0 := fun a ha => by
    obtain ⟨a', ha', hk⟩ := mfold_key k A a ha
    rw [(hk x).1]; exact hAx a' ha'
  have hr := mfold_rises k A hp.1
  rw [e1, e2]
  rcases List.eq_nil_or_concat (mfold c o A) with hm | ⟨O, y, hm⟩
  · rw [hm, mstep_nil]
    have := rput_new (o := o) k.ord id (A := []) (x := x) (by simp) hB2
    simpa using this.symm
  · rw [List.concat_eq_append] at hm
    rw [hm] at hr hA2 ⊢
    rw [List.pairwise_append] at hr
    by_cases hc : c y x = 0
    · rw [mstep_same hc]
      have := rput_same (o := o) k.ord id (A := O) (B := mfold c o B) (x := x) (y := y) (fun a ha => by
        have h1 := hr.2.2 a ha y (by simp)
        have h2 := (k.neg_l (z := a) ((k.ord.flip0).1 hc)).2
        have f1 := k.ord.anti a x; have f2 := k.ord.anti a y; have f3 := k.ord.anti y a; have f4 := k.ord.anti x a
        have t := k.ord.tr a y x (by omega) (by omega)
        have z := k.ord.flip0 (x := a) (y := x)
        have t2 := k.ord.tr x a y
        have t3 := k.ord.tr y x a
        have g := (k.ord.flip0).1 hc
        omega) hc hB2
      rw [show O ++ [y] ++ mfold c o B = O ++ y :: mfold c o B by simp, this]
      simp
    · rw [mstep_new hc]
      have := rput_new (o := o) k.ord id (A := O ++ [y]) (B := mfold c o B) (x := x) (fun a ha => by
        rcases List.mem_append.1 ha with ha | ha
        · have h1 := hr.2.2 a ha y (by simp)
          have h2 := hA2 y (by simp)
          have e := k.ord.swo.tr a y x (by simpa [ltOf] using h1) (by simp [ltOf]; omega)
          simpa [ltOf] using e
        · simp at ha; subst ha
          have h2 := hA2 a (by simp)
          omega) hB2
      rw [this]
      simp
end
end Go.Lf
namespace Go.Lf
open Go.Crn
theorem rput_all {M : Type} {c : M → M → Int} {o : M → M → M} (k : KeyOf c o) : ∀ L : List M, L.foldl (rput c o id) [] = mrg c o L := by
  refine snocInd rfl fun L x ih => ?_
  rw [List.foldl_append, ih, mrg_snoc k]; rfl
theorem gr_or {S : Type} {c : S → S → Int} {a b : S} : gr c a b = a ∨ gr c a b = b := by unfold gr; split <;> simp
/-- the later one of two of one key -/
theorem rput_over {M : Type} {c : M → M → Int} {o : M → M → M} (k : KeyOf c o) (a : List M) : ∀ b : List M, b.foldl (rput c o id) (mrg c o a) = mrg c o (a ++ b) := by
  refine snocInd (by simp) fun b x ih => ?_
  rw [List.foldl_append, ih, ← List.append_assoc, mrg_snoc k]; rfl
end Go.Lf
namespace Go.Lf
open Go.Crn
variable {h : Hp}
theorem KeyOf.piece : KeyOf kPiece (gr cPiece) := by
  refine ⟨Ord3.kPiece, fun x y z hk => ?_, fun x y z hk => ?_⟩
  all_goals (have e : x.Index = y.Index := cI_eq.1 hk; rcases gr_or (c := cPiece) (a := x) (b := y) with g | g <;> rw [g] <;> simp [kPiece, e])
theorem KeyOf.xattr : KeyOf kXattr (gr cXattr) := by
  refine ⟨Ord3.kXattr, fun x y z hk => ?_, fun x y z hk => ?_⟩
  all_goals (have e : x.Name = y.Name := cS_eq.1 hk; rcases gr_or (c := cXattr) (a := x) (b := y) with g | g <;> rw [g] <;> simp [kXattr, e])
theorem KeyOf.link : KeyOf kLink mLink := ⟨Ord3.kLink, fun _ _ _ _ => rfl, fun _ _ _ _ => rfl⟩
theorem KeyOf.inode : KeyOf kInodeM mInode := ⟨Ord3.kInodeM, fun _ _ _ _ => rfl, fun _ _ _ _ => rfl⟩
theorem mfold_mem {M : Type} {c d : M → M → Int} : ∀ l : List M, ∀ y ∈ mfold c (gr d) l, y ∈ l := by
  refine snocInd (by simp [mfold]) fun l x ih => ?_
  rw [mfold_snoc]
  rcases List.eq_nil_or_concat (mfold c (gr d) l) with hm | ⟨O, y, hm⟩
  · rw [hm, mstep_nil]; intro z hz; simp at hz; simp [hz]
  · rw [List.concat_eq_append] at hm
    rw [hm] at ih ⊢
    by_cases hc : c y x = 0
    · rw [mstep_same hc]
      intro z hz
      rcases List.mem_append.1 hz with hz | hz
      · exact List.mem_append_left _ (ih z (by simp [hz]))
      · simp at hz; subst hz
        rcases gr_or (c := d) (a := y) (b := x) with g | g <;> rw [g]
        · exact List.mem_append_left _ (ih y (by simp))
        · simp
    · rw [mstep_new hc]
      intro z hz
      rcases List.mem_append.1 hz with hz | hz
      · exact List.mem_append_left _ (ih z hz)
      · simp at hz; simp [hz]
theorem mrg_mem {M : Type} {c d : M → M → Int} (w : Swo (ltOf c)) {l : List M} {y : M} (hy : y ∈ mrg c (gr d) l) : y ∈ l :=
  ((isort_ss w l).cls.mem w).1 (mfold_mem _ y hy)
def okI (m : InodeM) : Prop := m.Text.length < 2 ^ 63 ∧ (∀ p ∈ m.Pieces, p.Data.length < 2 ^ 63) ∧ ∀ x ∈ m.Xattrs, x.Name.length < 2 ^ 63 ∧ x.Val.length < 2 ^ 63
theorem okI_m {m n : InodeM} (hm : okI m) (hn : okI n) : okI (mInode m n) := by
  obtain ⟨a1, a2, a3⟩ := hm
  obtain ⟨b1, b2, b3⟩ := hn
  refine ⟨?_, fun p hp => ?_, fun x hx => ?_⟩
  · simp only [mInode, sMax]; split <;> assumption
  · have := mrg_mem Ord3.kPiece.swo hp
    rcases List.mem_append.1 this with h | h
    · exact a2 p h
    · exact b2 p h
  · have := mrg_mem Ord3.kXattr.swo hx
    rcases List.mem_append.1 this with h | h
    · exact a3 x h
    · exact b3 x h
end Go.Lf
namespace Go.Lf
/-! ## rows by rising keys, as a lattice -/
section
variable {M : Type} {c : M → M → Int} {o : M → M → M}
structure Lat (c : M → M → Int) (o : M → M → M) : Prop where
  key : KeyOf c o
  comm : ∀ {x y}, c x y = 0 → o x y = o y x
  assoc : ∀ {x y z}, c x y = 0 → c y z = 0 → o (o x y) z = o x (o y z)
  nwo : ∀ {x y}, c x y = 0 → o (o x x) y = o x y
def Rise (c : M → M → Int) (l : List M) : Prop := l.Pairwise fun a b => c a b < 0
def look (c : M → M → Int) (l : List M) (z : M) : Option M := l.find? fun y => decide (c y z = 0)
/-- what one more makes of what is there -/
def jn (o : M → M → M) (x : M) : Option M → M
  | some p => o p x
  | none => o x x
theorem Ord3.eq_tr (w : Ord3 c) {x y z : M} (h1 : c x y = 0) (h2 : c y z = 0) : c x z = 0 := by
  have a := w.tr x y z (by omega) (by omega)
  have h1' := w.flip0.1 h1; have h2' := w.flip0.1 h2
  have b := w.tr z y x (by omega) (by omega)
  have := w.anti x z; have := w.anti z x
  omega
theorem Ord3.lt_tr (w : Ord3 c) {x y z : M} (h1 : c x y < 0) (h2 : c y z < 0) : c x z < 0 := by
  have := w.swo.tr x y z (by simpa [ltOf] using h1) (by simpa [ltOf] using h2)
  simpa [ltOf] using this
theorem Ord3.lt_eq (w : Ord3 c) {x y z : M} (h1 : c x y < 0) (h2 : c y z = 0) : c x z < 0 := by
  have := w.swo.lt_le (x := x) (y := y) (z := z) (by simpa [ltOf] using h1) (by have := w.flip0.1 h2; simp only [Le, ltOf, decide_eq_false_iff_not]; omega)
  simpa [ltOf] using this
theorem Ord3.eq_lt (w : Ord3 c) {x y z : M} (h1 : c x y = 0) (h2 : c y z < 0) : c x z < 0 := by
  have := w.swo.le_lt (x := x) (y := y) (z := z) (by have := w.flip0.1 h1; simp only [Le, ltOf, decide_eq_false_iff_not]; omega) (by simpa [ltOf] using h2)
  simpa [ltOf] using this
theorem Lat.self {x : M} (w : Lat c o) : c x x = 0 := w.key.ord.refl x
theorem Lat.nw_l (w : Lat c o) (x z : M) : c (o x x) z = c x z := w.key.left _ _ _ w.self
theorem Lat.nw_r (w : Lat c o) (x z : M) : c z (o x x) = c z x := w.key.right _ _ _ w.self
theorem Lat.jn_l (w : Lat c o) {x : M} {a : Option M} (ha : ∀ p ∈ a, c p x = 0) (z : M) : c (jn o x a) z = 0 ↔ c x z = 0 := by
  cases a with
  | none => simp only [jn]; rw [w.nw_l]
  | some p =>
    simp only [jn]
    have := ha p rfl
    rw [w.key.left _ _ _ this]
    exact w.key.zero_l this
theorem look_some {l : List M} {z p : M} (h : look c l z = some p) : p ∈ l ∧ c p z = 0 := by
  unfold look at h
  exact ⟨List.mem_of_find?_eq_some h, by simpa using List.find?_some h⟩
/-- where a key is, or would be -/
theorem Rise.split (w : Ord3 c) {l : List M} (h : Rise c l) (x : M) : ∃ A B, (∀ a ∈ A, c a x < 0) ∧ (∀ b ∈ B, c x b < 0) ∧ ((l = A ++ B ∧ look c l x = none) ∨ ∃ y, c y x = 0 ∧ l = A ++ y :: B ∧ look c l x = some y) := by
  unfold Rise at h
  induction l with
  | nil => exact ⟨[], [], by simp, by simp, .inl ⟨rfl, rfl⟩⟩
  | cons a l ih =>
    rw [List.pairwise_cons] at h
    obtain ⟨A, B, hA, hB, hh⟩ := ih h.2
    rcases Int.lt_trichotomy (c a x) 0 with ha | ha | ha
    · refine ⟨a :: A, B, fun b hb => ?_, hB, ?_⟩
      · rcases List.mem_cons.1 hb with rfl | hb
        · exact ha
        · exact hA b hb
      · have hl : look c (a :: l) x = look c l x := by
          unfold look
          rw [List.find?_cons_of_neg (by simp; omega)]
        rw [hl]
        rcases hh with ⟨rfl, h2⟩ | ⟨y, h1, rfl, h3⟩
        · exact .inl ⟨rfl, h2⟩
        · exact .inr ⟨y, h1, rfl, h3⟩
    · exact ⟨[], l, by simp, fun b hb => w.eq_lt (w.flip0.1 ha) (h.1 b hb), .inr ⟨a, ha, rfl, by simp [look, ha]⟩⟩
    · have hxa : c x a < 0 := by have := w.anti x a; omega
      have hB' : ∀ b ∈ a :: l, c x b < 0 := fun b hb => by
        rcases List.mem_cons.1 hb with rfl | hb
        · exact hxa
        · exact w.lt_tr hxa (h.1 b hb)
      refine ⟨[], a :: l, by simp, hB', .inl ⟨rfl, ?_⟩⟩
      unfold look
      rw [List.find?_eq_none]
      intro b hb
      have h1 := hB' b hb
      have h2 := w.anti x b
      simp; omega
theorem look_mid (w : Ord3 c) {A B : List M} {y z : M} (hA : ∀ a ∈ A, c a y < 0) (hz : c y z = 0) : look c (A ++ y :: B) z = some y := by
  unfold look
  rw [List.find?_append, List.find?_eq_none.2 fun a ha => ?_]
  · simp [hz]
  · have := w.lt_eq (hA a ha) hz
    simp; omega
theorem look_cong (w : Ord3 c) {l : List M} {y z : M} (h : c y z = 0) : look c l y = look c l z := by
  unfold look
  congr 1
  funext a
  simp only [decide_eq_decide]
  exact ⟨fun g => w.eq_tr g h, fun g => w.eq_tr g (w.flip0.1 h)⟩
theorem rput_split (w : Lat c o) {l : List M} (h : Rise c l) (x : M) : ∃ A B, (∀ a ∈ A, c a x < 0) ∧ (∀ b ∈ B, c x b < 0) ∧ rput c o (fun x => o x x) l x = A ++ jn o x (look c l x) :: B ∧ ((l = A ++ B ∧ look c l x = none) ∨ ∃ y, c y x = 0 ∧ l = A ++ y :: B ∧ look c l x = some y) := by
  obtain ⟨A, B, hA, hB, hh⟩ := h.split w.key.ord x
  refine ⟨A, B, hA, hB, ?_, hh⟩
  rcases hh with ⟨h1, h2⟩ | ⟨y, h1, h2, h3⟩
  · rw [h2, h1, rput_new w.key.ord _ hA hB]; rfl
  · rw [h3, h2, rput_same w.key.ord _ hA h1 hB]; rfl
abbrev rp (c : M → M → Int) (o : M → M → M) (l : List M) (x : M) : List M := rput c o (fun x => o x x) l x
theorem jn_key (w : Lat c o) (l : List M) (x z : M) : c (jn o x (look c l x)) z = 0 ↔ c x z = 0 := w.jn_l (fun _ hp => (look_some hp).2) z
theorem rp_rise (w : Lat c o) {l : List M} (h : Rise c l) (x : M) : Rise c (rp c o l x) := by
  obtain ⟨A, B, hA, hB, hr, hh⟩ := rput_split w h x
  rw [rp, hr]
  have hk := (jn_key w l x x).2 w.self
  have hk' := w.key.ord.flip0.1 hk
  have hAB : A.Pairwise (fun a b => c a b < 0) ∧ B.Pairwise (fun a b => c a b < 0) := by
    unfold Rise at h
    rcases hh with ⟨h1, _⟩ | ⟨y, _, h1, _⟩
    · rw [h1, List.pairwise_append] at h; exact ⟨h.1, h.2.1⟩
    · rw [h1, List.pairwise_append, List.pairwise_cons] at h; exact ⟨h.1, h.2.1.2⟩
  unfold Rise
  rw [List.pairwise_append, List.pairwise_cons]
  refine ⟨hAB.1, ⟨fun b hb => w.key.ord.eq_lt hk (hB b hb), hAB.2⟩, fun a ha b hb => ?_⟩
  rcases List.mem_cons.1 hb with rfl | hb
  · exact w.key.ord.lt_eq (hA a ha) hk'
  · exact w.key.ord.lt_tr (hA a ha) (hB b hb)
theorem rp_look (w : Lat c o) {l : List M} (h : Rise c l) (x z : M) : look c (rp c o l x) z = if c x z = 0 then some (jn o x (look c l x)) else look c l z := by
  obtain ⟨A, B, hA, hB, hr, hh⟩ := rput_split w h x
  have hk := (jn_key w l x x).2 w.self
  have hk' := w.key.ord.flip0.1 hk
  rw [rp, hr]
  by_cases hz : c x z = 0
  · rw [if_pos hz, look_mid w.key.ord (fun a ha => w.key.ord.lt_eq (hA a ha) hk') ((jn_key w l x z).2 hz)]
  · rw [if_neg hz]
    have hn : ¬ c (jn o x (look c l x)) z = 0 := fun h => hz ((jn_key w l x z).1 h)
    generalize jn o x (look c l x) = j at hn
    rcases hh with ⟨h1, _⟩ | ⟨y, h0, h1, _⟩
    · rw [h1]
      unfold look
      rw [List.find?_append, List.find?_append, List.find?_cons_of_neg (by simpa using hn)]
    · rw [h1]
      unfold look
      rw [List.find?_append, List.find?_append, List.find?_cons_of_neg (by simpa using hn), List.find?_cons_of_neg]
      simp
      exact fun h => hz (w.key.ord.eq_tr (w.key.ord.flip0.1 h0) h)
theorem look_ext (w : Ord3 c) : ∀ {l k : List M}, Rise c l → Rise c k → (∀ z, look c l z = look c k z) → l = k
  | [], [], _, _, _ => rfl
  | [], b :: k, _, _, h => by have := h b; simp [look, w.refl] at this
  | a :: l, [], _, _, h => by have := h a; simp [look, w.refl] at this
  | a :: l, b :: k, h1, h2, h => by
    unfold Rise at h1 h2
    rw [List.pairwise_cons] at h1 h2
    have ha := h a
    have hb := h b
    have la : look c (a :: l) a = some a := by simp [look, w.refl]
    have lb : look c (b :: k) b = some b := by simp [look, w.refl]
    rw [la] at ha
    rw [lb] at hb
    have m1 := (look_some ha.symm).1
    have m2 := (look_some hb).1
    have e : a = b := by
      rcases List.mem_cons.1 m1 with e | m1
      · exact e
      · rcases List.mem_cons.1 m2 with e | m2
        · exact e.symm
        · have x1 := h2.1 a m1
          have x2 := h1.1 b m2
          have := w.anti a b; omega
    subst e
    congr 1
    refine look_ext w h1.2 h2.2 fun z => ?_
    have hz := h z
    by_cases c0 : c a z = 0
    · have none : ∀ {l : List M}, (∀ b ∈ l, c a b < 0) → look c l z = none := fun hl => by
        unfold look
        rw [List.find?_eq_none]
        intro b hb
        have h1 := w.eq_lt (w.flip0.1 c0) (hl b hb)
        have h2 := w.anti z b
        simp; omega
      rw [none h1.1, none h2.1]
    · unfold look at hz ⊢
      rwa [List.find?_cons_of_neg (by simpa using c0), List.find?_cons_of_neg (by simpa using c0)] at hz
theorem Lat.jn_comm (w : Lat c o) {x y : M} (h : c x y = 0) {a : Option M} (ha : ∀ p ∈ a, c p x = 0) : jn o y (some (jn o x a)) = jn o x (some (jn o y a)) := by
  have h' := w.key.ord.flip0.1 h
  cases a with
  | none =>
    simp only [jn]
    rw [w.nwo h, w.nwo h', w.comm h]
  | some p =>
    have hp := ha p rfl
    simp only [jn]
    rw [w.assoc hp h, w.comm h, ← w.assoc (w.key.ord.eq_tr hp h) h']
theorem Lat.jn_idem (w : Lat c o) {x : M} {a : Option M} (ha : ∀ p ∈ a, c p x = 0) : jn o x (some (jn o x a)) = jn o x a := by
  cases a with
  | none => simp only [jn]; rw [w.nwo w.self]
  | some p =>
    have hp := ha p rfl
    simp only [jn]
    rw [w.assoc hp w.self, w.comm (w.key.ord.eq_tr hp (by rw [w.nw_r]; exact w.self)), w.nwo (w.key.ord.flip0.1 hp), w.comm hp]
theorem rp_comm (w : Lat c o) {l : List M} (h : Rise c l) (x y : M) : rp c o (rp c o l x) y = rp c o (rp c o l y) x := by
  have hx := rp_rise w h x
  have hy := rp_rise w h y
  have ok : ∀ z, ∀ p ∈ look c l z, c p z = 0 := fun z p hp => (look_some hp).2
  refine look_ext w.key.ord (rp_rise w hx y) (rp_rise w hy x) fun z => ?_
  rw [rp_look w hx, rp_look w hy, rp_look w h, rp_look w h, rp_look w h, rp_look w h]
  by_cases hxy : c x y = 0
  · have hyx := w.key.ord.flip0.1 hxy
    rw [if_pos hxy, if_pos hyx, look_cong w.key.ord hyx (l := l)]
    by_cases hz : c x z = 0
    · have hyz := w.key.ord.eq_tr hyx hz
      simp only [if_pos hz, if_pos hyz]
      rw [w.jn_comm hxy (ok x)]
    · have hyz : ¬ c y z = 0 := fun g => hz (w.key.ord.eq_tr hxy g)
      simp only [if_neg hz, if_neg hyz]
  · have hyx : ¬ c y x = 0 := fun g => hxy (w.key.ord.flip0.1 g)
    rw [if_neg hxy, if_neg hyx]
    by_cases hz : c x z = 0
    · have hyz : ¬ c y z = 0 := fun g => hxy (w.key.ord.eq_tr hz (w.key.ord.flip0.1 g))
      simp only [if_pos hz, if_neg hyz]
    · simp only [if_neg hz]
theorem rp_idem (w : Lat c o) {l : List M} (h : Rise c l) (x : M) : rp c o (rp c o l x) x = rp c o l x := by
  have hx := rp_rise w h x
  refine look_ext w.key.ord (rp_rise w hx x) hx fun z => ?_
  rw [rp_look w hx, rp_look w h, rp_look w h, if_pos w.self, w.jn_idem fun p hp => (look_some hp).2]
  split <;> rfl
/-! ### many, put one by one -/
abbrev rps (c : M → M → Int) (o : M → M → M) (l : List M) (k : List M) : List M := k.foldl (rp c o) l
theorem rps_rise (w : Lat c o) : ∀ (k : List M) {l : List M}, Rise c l → Rise c (rps c o l k)
  | [], _, h => h
  | x :: k, _, h => rps_rise w k (rp_rise w h x)
theorem rps_rp (w : Lat c o) : ∀ (k : List M) {l : List M}, Rise c l → ∀ x, rps c o (rp c o l x) k = rp c o (rps c o l k) x
  | [], _, _, _ => rfl
  | y :: k, l, h, x => by
    simp only [rps, List.foldl_cons]
    rw [rp_comm w h]
    exact rps_rp w k (rp_rise w h y) x
theorem rps_in (w : Lat c o) : ∀ (k : List M) {l : List M}, Rise c l → ∀ x ∈ k, rp c o (rps c o l k) x = rps c o l k
  | [], _, _, x, hx => by simp at hx
  | y :: k, l, h, x, hx => by
    simp only [rps, List.foldl_cons]
    rcases List.mem_cons.1 hx with rfl | hx
    · rw [← rps, ← rps_rp w k (rp_rise w h x), rp_idem w h]
    · exact rps_in w k (rp_rise w h y) x hx
theorem rps_sub (w : Lat c o) {l k : List M} (h : Rise c l) : ∀ (j : List M), (∀ x ∈ j, x ∈ k) → rps c o (rps c o l k) j = rps c o l k
  | [], _ => rfl
  | x :: j, hs => by
    simp only [rps, List.foldl_cons]
    have := rps_in w k h x (hs x (by simp))
    rw [rps, rp] at this
    rw [rp, this]
    exact rps_sub w h j fun y hy => hs y (by simp [hy])
theorem rps_rps (w : Lat c o) : ∀ (j : List M) {l k : List M}, Rise c l → rps c o (rps c o l k) j = rps c o (rps c o l j) k
  | [], _, _, _ => rfl
  | x :: j, l, k, h => by
    have := rps_rp w k h x
    simp only [rps, List.foldl_cons] at this ⊢
    rw [← this]
    exact rps_rps w j (rp_rise w h x)
/-- what is put hangs on which there are alone -/
theorem rps_set (w : Lat c o) {l k j : List M} (h : Rise c l) (hs : ∀ x, x ∈ k ↔ x ∈ j) : rps c o l k = rps c o l j := by
  rw [← rps_sub w h j fun x hx => (hs x).2 hx, rps_rps w j h, rps_sub w h k fun x hx => (hs x).1 hx]
theorem jn_jn (w : Lat c o) {a : Option M} {x y : M} (h : c y x = 0) (ha : ∀ p ∈ a, c p x = 0) : jn o (o y x) a = jn o x (some (jn o y a)) := by
  have hx := w.key.ord.flip0.1 h
  cases a with
  | none =>
    simp only [jn]
    have k1 : c x (o y x) = 0 := by rw [w.key.right _ _ _ h]; exact hx
    have k2 : c y (o x x) = 0 := by rw [w.nw_r]; exact h
    rw [w.nwo h, w.assoc h k1, w.comm k1, w.assoc h w.self, ← w.assoc w.self k2, w.nwo k2, w.comm k2, w.nwo hx, w.comm hx]
  | some p =>
    have hp := ha p rfl
    simp only [jn]
    rw [← w.assoc (w.key.ord.eq_tr hp hx) h]
theorem rp_o (w : Lat c o) {l : List M} (h : Rise c l) {x y : M} (hk : c y x = 0) : rp c o l (o y x) = rp c o (rp c o l y) x := by
  have hy := rp_rise w h y
  have hx := w.key.ord.flip0.1 hk
  have k1 : ∀ z, c (o y x) z = 0 ↔ c x z = 0 := fun z => by rw [w.key.left _ _ _ hk]; exact w.key.zero_l hk
  refine look_ext w.key.ord (rp_rise w h _) (rp_rise w hy x) fun z => ?_
  rw [rp_look w h, rp_look w hy, rp_look w h, rp_look w h, if_pos hk]
  simp only [k1]
  have k2 : c y z = 0 ↔ c x z = 0 := w.key.zero_l hk
  by_cases hz : c x z = 0
  · rw [if_pos hz, if_pos hz, look_cong w.key.ord (l := l) ((k1 x).2 w.self), ← look_cong w.key.ord (l := l) hk, jn_jn w hk]
    exact fun p hp => w.key.ord.eq_tr (look_some hp).2 hk
  · rw [if_neg hz, if_neg hz, if_neg (fun g => hz (k2.1 g))]
theorem rp_nw (w : Lat c o) {l : List M} (h : Rise c l) {x : M} : rp c o l (o x x) = rp c o l x := by
  rw [rp_o w h w.self, rp_idem w h]
/-- rows put into rows: all that made them -/
theorem rps_flat1 (w : Lat c o) {a b : List M} (ha : Rise c a) (hb : Rise c b) (x : M) : rps c o a (rp c o b x) = rp c o (rps c o a b) x := by
  obtain ⟨A, B, hA, hB, hr, hh⟩ := rput_split w hb x
  have mid : ∀ v, rps c o a (A ++ v :: B) = rps c o (rp c o a v) (A ++ B) := fun v => by
    rw [rps_set w (l := a) (k := A ++ v :: B) (j := v :: (A ++ B)) ha (by intro z; simp only [List.mem_append, List.mem_cons]; grind)]
    rfl
  rw [rp, hr, mid]
  rcases hh with ⟨h1, h2⟩ | ⟨y, h0, h1, h2⟩
  · rw [h2, jn, rp_nw w ha, ← h1, rps_rp w b ha x]
  · rw [h2, jn, rp_o w ha h0]
    conv => rhs; rw [h1, mid]
    exact rps_rp w _ (rp_rise w ha y) x
theorem rps_flat (w : Lat c o) {a : List M} (ha : Rise c a) : ∀ k : List M, rps c o a (rps c o [] k) = rps c o a k := by
  refine snocInd rfl fun k x ih => ?_
  have e : rps c o [] (k ++ [x]) = rp c o (rps c o [] k) x := by simp only [rps, List.foldl_append]; rfl
  rw [e, rps_flat1 w ha (rps_rise w k .nil), ih]
  simp only [rps, List.foldl_append]; rfl
/-- rows of which each is as it is when put -/
theorem rps_self (w : Lat c o) : ∀ {b : List M}, Rise c b → (∀ x ∈ b, o x x = x) → rps c o [] b = b := by
  intro b
  refine snocInd (P := fun b => Rise c b → (∀ x ∈ b, o x x = x) → rps c o [] b = b) (fun _ _ => rfl) (fun k x ih h hn => ?_) b
  have h' := h
  unfold Rise at h'
  rw [List.pairwise_append] at h'
  have e : rps c o [] (k ++ [x]) = rp c o (rps c o [] k) x := by simp only [rps, List.foldl_append]; rfl
  rw [e, ih h'.1 fun y hy => hn y (by simp [hy])]
  have := rput_new (o := o) w.key.ord (fun x => o x x) (A := k) (B := []) (x := x) (fun a ha => h'.2.2 a ha x (by simp)) (by simp)
  rw [List.append_nil] at this
  rw [rp, this, hn x (by simp)]
theorem rps_ok (w : Lat c o) : ∀ (k : List M) {l : List M}, Rise c l → (∀ x ∈ l, o x x = x) → ∀ x ∈ rps c o l k, o x x = x
  | [], _, _, hl, x, hx => hl x hx
  | y :: k, l, h, hl, x, hx => by
    refine rps_ok w k (l := rp c o l y) (rp_rise w h y) (fun z hz => ?_) x hx
    obtain ⟨A, B, hA, hB, hr, hh⟩ := rput_split w h y
    rw [rp, hr] at hz
    have hAB : ∀ z, z ∈ A ∨ z ∈ B → o z z = z := fun z hz => hl z (by
      rcases hh with ⟨h1, _⟩ | ⟨p, _, h1, _⟩ <;> rw [h1] <;> simp only [List.mem_append, List.mem_cons] <;> grind)
    rcases List.mem_append.1 hz with hz | hz
    · exact hAB z (.inl hz)
    · rcases List.mem_cons.1 hz with rfl | hz
      · have := w.jn_idem (x := y) (a := look c l y) fun p hp => (look_some hp).2
        rcases hh with ⟨_, h2⟩ | ⟨p, h0, h1, h2⟩
        · rw [h2]; simp only [jn]
          rw [w.nwo (by rw [w.nw_r]; exact w.self), ← w.assoc w.self w.self, w.nwo w.self]
        · rw [h2]; simp only [jn]
          have hy := w.key.ord.flip0.1 h0
          have hp : o p p = p := hl p (by rw [h1]; simp)
          rw [w.assoc h0 (by rw [w.key.right _ _ _ h0]; exact hy), ← w.assoc hy h0, w.comm hy, w.assoc h0 w.self, ← w.assoc w.self (by rw [w.key.right _ _ _ w.self]; exact h0), hp, w.comm (x := p) (by rw [w.nw_r]; exact h0), w.nwo hy, w.comm hy]
      · exact hAB z (.inr hz)
theorem rp_gr_id {k d : M → M → Int} {l : List M} {x : M} (h : Ord3 d) : rp k (gr d) l x = rput k (gr d) id l x := by
  have : (fun x => gr d x x) = id := by funext x; simp [gr]
  rw [rp, this]
end
/-- the greater one of two of one key -/
theorem Lat.ofGr {S : Type} {k c : S → S → Int} (hk : KeyOf k (gr c)) (hc : Ord3 c) (e : ∀ x y, k x y = 0 → c x y = 0 → x = y) : Lat k (Lf.gr c) := by
  have cm : ∀ {x y}, k x y = 0 → Lf.gr c x y = Lf.gr c y x := fun {x y} h => by
    have h1 := hc.anti x y; have h2 := hc.anti y x; have h3 := e x y h
    unfold Lf.gr
    by_cases a : c x y < 0
    · rw [if_pos a, if_neg (by omega)]
    · by_cases b : c y x < 0
      · rw [if_neg a, if_pos b]
      · rw [if_neg a, if_neg b]; exact h3 (by omega)
  refine ⟨hk, cm, fun {x y z} h1 h2 => ?_, fun {x y} _ => by simp [Lf.gr]⟩
  have a1 := hc.anti x y; have a2 := hc.anti y x; have a3 := hc.anti y z; have a4 := hc.anti z y; have a5 := hc.anti x z; have a6 := hc.anti z x
  have t1 := hc.tr x y z; have t2 := hc.tr z y x; have t3 := hc.tr x z y; have t4 := hc.tr y z x; have t5 := hc.tr y x z; have t6 := hc.tr z x y
  unfold Lf.gr
  by_cases p : c x y < 0
  · rw [if_pos p]
    by_cases q : c y z < 0
    · rw [if_pos q, if_pos (by omega)]
    · rw [if_neg q, if_pos p]
  · rw [if_neg p]
    by_cases q : c y z < 0
    · rw [if_pos q]
    · rw [if_neg q, if_neg p, if_neg (by omega)]
end Go.Lf
