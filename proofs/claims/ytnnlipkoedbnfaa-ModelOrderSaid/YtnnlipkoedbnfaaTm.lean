/- What each function of the program asks for, as a formula: printed by a program of the prover's own. -/
import Derived.Test.YtnnlipkoedbnfaaLa
set_option linter.unusedVariables false
namespace Go.Crn
open Go.Lf
structure S_api_Stamp where
  Time : Int
  Who : Int
def S_api_Stamp.cells (x : S_api_Stamp) : List Value := [.int .i64 x.Time, .int .i64 x.Who]
def S_api_Stamp.enc (x : S_api_Stamp) : Value := .agg x.cells.toArray
def S_api_Stamp.eqb (x y : S_api_Stamp) : Bool := x.Time == y.Time && (x.Who == y.Who && true)
theorem S_api_Stamp.eqb_iff {x y : S_api_Stamp} : S_api_Stamp.eqb x y = true ↔ x = y := by cases x; cases y; simp [S_api_Stamp.eqb]
structure S_api_State where
  Seen : A8 Int
  Nodes : Sl
  Links : Sl
def S_api_State.cells (x : S_api_State) : List Value := [.int .i64 x.Seen.a0, .int .i64 x.Seen.a1, .int .i64 x.Seen.a2, .int .i64 x.Seen.a3, .int .i64 x.Seen.a4, .int .i64 x.Seen.a5, .int .i64 x.Seen.a6, .int .i64 x.Seen.a7, Sl.enc x.Nodes, Sl.enc x.Links]
def S_api_State.enc (x : S_api_State) : Value := .agg x.cells.toArray
structure S_api_Event where
  At : S_api_Stamp
  Vol : Int
  Knew : A8 Int
  Delta : S_api_State
def S_api_Event.cells (x : S_api_Event) : List Value := [.int .i64 x.At.Time, .int .i64 x.At.Who, .int .i64 x.Vol, .int .i64 x.Knew.a0, .int .i64 x.Knew.a1, .int .i64 x.Knew.a2, .int .i64 x.Knew.a3, .int .i64 x.Knew.a4, .int .i64 x.Knew.a5, .int .i64 x.Knew.a6, .int .i64 x.Knew.a7, .int .i64 x.Delta.Seen.a0, .int .i64 x.Delta.Seen.a1, .int .i64 x.Delta.Seen.a2, .int .i64 x.Delta.Seen.a3, .int .i64 x.Delta.Seen.a4, .int .i64 x.Delta.Seen.a5, .int .i64 x.Delta.Seen.a6, .int .i64 x.Delta.Seen.a7, Sl.enc x.Delta.Nodes, Sl.enc x.Delta.Links]
def S_api_Event.enc (x : S_api_Event) : Value := .agg x.cells.toArray
structure S_api_Attr where
  At : S_api_Stamp
  Mode : Int
  Time : Int
def S_api_Attr.cells (x : S_api_Attr) : List Value := [.int .i64 x.At.Time, .int .i64 x.At.Who, .int .i64 x.Mode, .int .u64 x.Time]
def S_api_Attr.enc (x : S_api_Attr) : Value := .agg x.cells.toArray
def S_api_Attr.eqb (x y : S_api_Attr) : Bool := S_api_Stamp.eqb x.At y.At && (x.Mode == y.Mode && (x.Time == y.Time && true))
theorem S_api_Attr.eqb_iff {x y : S_api_Attr} : S_api_Attr.eqb x y = true ↔ x = y := by cases x; cases y; simp [S_api_Attr.eqb, S_api_Stamp.eqb_iff]
structure S_api_Size where
  At : S_api_Stamp
  N : Int
def S_api_Size.cells (x : S_api_Size) : List Value := [.int .i64 x.At.Time, .int .i64 x.At.Who, .int .i64 x.N]
def S_api_Size.enc (x : S_api_Size) : Value := .agg x.cells.toArray
def S_api_Size.eqb (x y : S_api_Size) : Bool := S_api_Stamp.eqb x.At y.At && (x.N == y.N && true)
theorem S_api_Size.eqb_iff {x y : S_api_Size} : S_api_Size.eqb x y = true ↔ x = y := by cases x; cases y; simp [S_api_Size.eqb, S_api_Stamp.eqb_iff]
structure S_api_Inode where
  Id : S_api_Stamp
  Kind : Int
  Text : Str
  Attr : S_api_Attr
  Size : S_api_Size
  Pieces : Sl
  Xattrs : Sl
def S_api_Inode.cells (x : S_api_Inode) : List Value := [.int .i64 x.Id.Time, .int .i64 x.Id.Who, .int .i64 x.Kind, vS x.Text, .int .i64 x.Attr.At.Time, .int .i64 x.Attr.At.Who, .int .i64 x.Attr.Mode, .int .u64 x.Attr.Time, .int .i64 x.Size.At.Time, .int .i64 x.Size.At.Who, .int .i64 x.Size.N, Sl.enc x.Pieces, Sl.enc x.Xattrs]
def S_api_Inode.enc (x : S_api_Inode) : Value := .agg x.cells.toArray
structure S_api_Link where
  Id : S_api_Stamp
  Node : S_api_Stamp
  At : S_api_Stamp
  Parent : S_api_Stamp
  Name : Str
  Alive : A8 Int
  Dead : A8 Int
def S_api_Link.cells (x : S_api_Link) : List Value := [.int .i64 x.Id.Time, .int .i64 x.Id.Who, .int .i64 x.Node.Time, .int .i64 x.Node.Who, .int .i64 x.At.Time, .int .i64 x.At.Who, .int .i64 x.Parent.Time, .int .i64 x.Parent.Who, vS x.Name, .int .i64 x.Alive.a0, .int .i64 x.Alive.a1, .int .i64 x.Alive.a2, .int .i64 x.Alive.a3, .int .i64 x.Alive.a4, .int .i64 x.Alive.a5, .int .i64 x.Alive.a6, .int .i64 x.Alive.a7, .int .i64 x.Dead.a0, .int .i64 x.Dead.a1, .int .i64 x.Dead.a2, .int .i64 x.Dead.a3, .int .i64 x.Dead.a4, .int .i64 x.Dead.a5, .int .i64 x.Dead.a6, .int .i64 x.Dead.a7]
def S_api_Link.enc (x : S_api_Link) : Value := .agg x.cells.toArray
def S_api_Link.eqb (x y : S_api_Link) : Bool := S_api_Stamp.eqb x.Id y.Id && (S_api_Stamp.eqb x.Node y.Node && (S_api_Stamp.eqb x.At y.At && (S_api_Stamp.eqb x.Parent y.Parent && (x.Name == y.Name && (A8.eqb x.Alive y.Alive && (A8.eqb x.Dead y.Dead && true))))))
theorem S_api_Link.eqb_iff {x y : S_api_Link} : S_api_Link.eqb x y = true ↔ x = y := by cases x; cases y; simp [S_api_Link.eqb, A8.eqb_iff, S_api_Stamp.eqb_iff]
structure S_api_Piece where
  Index : Int
  At : S_api_Stamp
  Data : Str
def S_api_Piece.cells (x : S_api_Piece) : List Value := [.int .i64 x.Index, .int .i64 x.At.Time, .int .i64 x.At.Who, vS x.Data]
def S_api_Piece.enc (x : S_api_Piece) : Value := .agg x.cells.toArray
def S_api_Piece.eqb (x y : S_api_Piece) : Bool := x.Index == y.Index && (S_api_Stamp.eqb x.At y.At && (x.Data == y.Data && true))
theorem S_api_Piece.eqb_iff {x y : S_api_Piece} : S_api_Piece.eqb x y = true ↔ x = y := by cases x; cases y; simp [S_api_Piece.eqb, S_api_Stamp.eqb_iff]
structure S_api_Xattr where
  Name : Str
  At : S_api_Stamp
  Val : Str
  Gone : Bool
def S_api_Xattr.cells (x : S_api_Xattr) : List Value := [vS x.Name, .int .i64 x.At.Time, .int .i64 x.At.Who, vS x.Val, .bool x.Gone]
def S_api_Xattr.enc (x : S_api_Xattr) : Value := .agg x.cells.toArray
def S_api_Xattr.eqb (x y : S_api_Xattr) : Bool := x.Name == y.Name && (S_api_Stamp.eqb x.At y.At && (x.Val == y.Val && (x.Gone == y.Gone && true)))
theorem S_api_Xattr.eqb_iff {x y : S_api_Xattr} : S_api_Xattr.eqb x y = true ↔ x = y := by cases x; cases y; simp [S_api_Xattr.eqb, S_api_Stamp.eqb_iff]
def crannogplain_Small (a0 : S_api_State) (Q : Bool → Hp → Prop)  (h : Hp) : Prop :=
  AlX h fun b1 h2 =>
  J (fun (x3 : Bool) h5 =>
      If x3 (
        Q false h5
      ) (
        LoopF (σ := Int × Int) (0, 0) h5 fun u6 h8 L7 =>
          If (decide (u6.2 < (a0.Nodes.len : Int))) (
            Ix a0.Nodes u6.2 13 fun p10 =>
            LdA S_api_Inode.cells h8 p10 fun v12 =>
            AlX h8 fun b14 h15 =>
            StX h15 b14 fun h16 =>
            J (fun (x17 : Bool) h19 =>
                If x17 (
                  Q false h19
                ) (
                  LoopF (σ := Int × Int) (IntKind.wrap .i64 (u6.1 + (iMin (v12.Text.length : Int) 16384)), 0) h19 fun u20 h22 L21 =>
                    If (decide (u20.2 < (v12.Pieces.len : Int))) (
                      Ix v12.Pieces u20.2 4 fun p24 =>
                      LdA S_api_Piece.cells h22 p24 fun v26 =>
                      AlX h22 fun b28 h29 =>
                      StX h29 b28 fun h30 =>
                      L21 (IntKind.wrap .i64 (u20.1 + (IntKind.wrap .i64 ((1 : Int) + (iMin (v26.Data.length : Int) 16384)))), IntKind.wrap .i64 (u20.2 + (1 : Int))) h30
                    ) (
                      LoopF (σ := Int × Int) (u20.1, 0) h22 fun u31 h33 L32 =>
                        If (decide (u31.2 < (v12.Xattrs.len : Int))) (
                          Ix v12.Xattrs u31.2 5 fun p35 =>
                          LdA S_api_Xattr.cells h33 p35 fun v37 =>
                          AlX h33 fun b39 h40 =>
                          StX h40 b39 fun h41 =>
                          L32 (IntKind.wrap .i64 (u31.1 + (IntKind.wrap .i64 ((IntKind.wrap .i64 ((1 : Int) + (iMin (v37.Name.length : Int) 16384))) + (iMin (v37.Val.length : Int) 16384)))), IntKind.wrap .i64 (u31.2 + (1 : Int))) h41
                        ) (
                          If (decide (u31.1 > (16384 : Int))) (
                            Q false h33
                          ) (
                            L7 (u31.1, IntKind.wrap .i64 (u6.2 + (1 : Int))) h33
                          )
                        )
                    )
                )
            ) fun K18 =>
            If (decide ((v12.Pieces.len : Int) > (120 : Int))) (
              K18 true h16
            ) (
              K18 (decide ((v12.Xattrs.len : Int) > (120 : Int))) h16
            )
          ) (
            LoopF (σ := Int × Int) (u6.1, 0) h8 fun u43 h45 L44 =>
              If (decide (u43.2 < (a0.Links.len : Int))) (
                Ix a0.Links u43.2 25 fun p47 =>
                LdA S_api_Link.cells h45 p47 fun v49 =>
                AlX h45 fun b51 h52 =>
                StX h52 b51 fun h53 =>
                If (decide ((IntKind.wrap .i64 (u43.1 + (iMin (v49.Name.length : Int) 16384))) > (16384 : Int))) (
                  Q false h53
                ) (
                  L44 (IntKind.wrap .i64 (u43.1 + (iMin (v49.Name.length : Int) 16384)), IntKind.wrap .i64 (u43.2 + (1 : Int))) h53
                )
              ) (
                Q true h45
              )
          )
      )
  ) fun K4 =>
  If (decide ((a0.Nodes.len : Int) > (120 : Int))) (
    K4 true h2
  ) (
    K4 (decide ((a0.Links.len : Int) > (120 : Int))) h2
  )
def crannoglaw22_small (a0 : Sl) (Q : Bool → Hp → Prop)  (h : Hp) : Prop :=
  LoopF (σ := Int × Int) (0, 0) h fun u1 h3 L2 =>
    If (decide (u1.2 < (a0.len : Int))) (
      Ix a0 u1.2 1 fun p5 =>
      Ld Sl.enc h3 p5 fun v7 =>
      If (decide ((IntKind.wrap .i64 (u1.1 + (iMin (v7.len : Int) 61))) > (60 : Int))) (
        Q false h3
      ) (
        LoopF (σ := Int) 0 h3 fun u9 h11 L10 =>
          If (decide (u9 < (v7.len : Int))) (
            Ix v7 u9 21 fun p13 =>
            LdA S_api_Event.cells h11 p13 fun v15 =>
            AlX h11 fun b17 h18 =>
            StX h18 b17 fun h19 =>
            J (fun (x20 : Bool) h22 =>
                If x20 (
                  Q false h22
                ) (
                  L10 (IntKind.wrap .i64 (u9 + (1 : Int))) h22
                )
            ) fun K21 =>
            crannogplain_Small v15.Delta (fun r23 h24 =>
              KpX h19 h24 [b17] <|
              If (!r23) (
                K21 true h24
              ) (
                If (decide ((v15.Delta.Nodes.len : Int) > (10 : Int))) (
                  K21 true h24
                ) (
                  K21 (decide ((v15.Delta.Links.len : Int) > (20 : Int))) h24
                )
              )
            ) h19
          ) (
            L2 (IntKind.wrap .i64 (u1.1 + (iMin (v7.len : Int) 61)), IntKind.wrap .i64 (u1.2 + (1 : Int))) h11
          )
      )
    ) (
      Q true h3
    )
def math_IsNaN (a0 : Nat) (Q : Bool → Hp → Prop)  (h : Hp) : Prop :=
  Q (!fEq a0 a0) h
def instant_Of (a0 : Nat) (Q : (Int × Int) → Hp → Prop)  (h : Hp) : Prop :=
  math_IsNaN a0 (fun r1 h2 =>
    If r1 (
      Q (0, 202) h2
    ) (
      If (fEq a0 0) (
        Q (9223372036854775808, 0) h2
      ) (
        False
      )
    )
  ) h
def facts_Empty  (Q : S_api_State → Hp → Prop)  (h : Hp) : Prop :=
  AlX h fun b1 h2 =>
  instant_Of 0 (fun r3 h4 =>
    KpX h2 h4 [b1] <|
    Al h4 (List.flatten [S_api_Inode.cells (S_api_Inode.mk (S_api_Stamp.mk 0 0) 2 [] (S_api_Attr.mk (S_api_Stamp.mk 0 0) 493 r3.1) (S_api_Size.mk (S_api_Stamp.mk 0 0) 0) Sl.nil Sl.nil)]) fun b5 h6 =>
    KpX h4 h6 [b1] <|
    StX h6 b1 fun h7 =>
    Q (S_api_State.mk (A8.mk 0 0 0 0 0 0 0 0) (Sl.mk (some b5) 1 1) Sl.nil) h7
  ) h2
def vector_Join (a0 : A8 Int) (a1 : A8 Int) (Q : (A8 Int) → Hp → Prop)  (h : Hp) : Prop :=
  AlX h fun b1 h2 =>
  AlX h2 fun b3 h4 =>
  AlX h4 fun b5 h6 =>
  LoopF (σ := Int × (A8 Int)) (0, a0) h6 fun u7 h9 L8 =>
    If (decide (u7.1 < (8 : Int))) (
      Ob (0 ≤ u7.1 ∧ u7.1 < 8) <|
      Ob (0 ≤ u7.1 ∧ u7.1 < 8) <|
      Ob (0 ≤ u7.1 ∧ u7.1 < 8) <|
      StX h9 b1 fun h14 =>
      L8 (IntKind.wrap .i64 (u7.1 + (1 : Int)), (A8.put u7.2 u7.1 (iMax (A8.at_ u7.2 u7.1) (A8.at_ a1 u7.1)))) h14
    ) (
      StX h9 b5 fun h15 =>
      Q u7.2 h15
    )
def slices_Grow_api_Inode_api_Inode (a0 : Sl) (a1 : Int) (Q : Sl → Hp → Prop)  (h : Hp) : Prop :=
  J (fun (x1 : Unit) h3 =>
      J (fun (x4 : Sl) h6 =>
          Q x4 h6
      ) fun K5 =>
      If (decide ((IntKind.wrap .i64 (a1 - (IntKind.wrap .i64 ((a0.cap : Int) - (a0.len : Int))))) > (0 : Int))) (
        SlSl a0 0 (a0.cap : Int) 13 fun v8 =>
        AppZ h3 v8 (IntKind.wrap .i64 (a1 - (IntKind.wrap .i64 ((a0.cap : Int) - (a0.len : Int))))) (S_api_Inode.cells (S_api_Inode.mk (S_api_Stamp.mk 0 0) 0 [] (S_api_Attr.mk (S_api_Stamp.mk 0 0) 0 0) (S_api_Size.mk (S_api_Stamp.mk 0 0) 0) Sl.nil Sl.nil)) 144 fun v9 h10 =>
        SlSl v9 0 (a0.len : Int) 13 fun v12 =>
        K5 v12 h10
      ) (
        K5 a0 h3
      )
  ) fun K2 =>
  If (decide (a1 < (0 : Int))) (
    False
  ) (
    K2 () h
  )
def slices_Concat_api_Inode_api_Inode (a0 : Sl) (Q : Sl → Hp → Prop)  (h : Hp) : Prop :=
  LoopF (σ := Int × Int) (0, 0) h fun u1 h3 L2 =>
    If (decide (u1.2 < (a0.len : Int))) (
      J (fun (x5 : Int) h7 =>
          L2 (x5, IntKind.wrap .i64 (u1.2 + (1 : Int))) h7
      ) fun K6 =>
      Ix a0 u1.2 1 fun p8 =>
      Ld Sl.enc h3 p8 fun v10 =>
      If (decide ((IntKind.wrap .i64 (u1.1 + (v10.len : Int))) < (0 : Int))) (
        False
      ) (
        K6 (IntKind.wrap .i64 (u1.1 + (v10.len : Int))) h3
      )
    ) (
      slices_Grow_api_Inode_api_Inode Sl.nil u1.1 (fun r12 h13 =>
        LoopF (σ := Sl × Int) (r12, 0) h13 fun u14 h16 L15 =>
          If (decide (u14.2 < (a0.len : Int))) (
            Ix a0 u14.2 1 fun p18 =>
            Ld Sl.enc h16 p18 fun v20 =>
            AppS h16 u14.1 v20 13 144 fun v22 h23 =>
            L15 (v22, IntKind.wrap .i64 (u14.2 + (1 : Int))) h23
          ) (
            Q u14.1 h16
          )
      ) h3
    )
def slices_insertionSortCmpFunc_api_Inode (a0 : Sl) (a1 : Int) (a2 : Int) (a3_f : S_api_Inode → S_api_Inode → (Int → Hp → Prop) → Hp → Prop) (Q : Unit → Hp → Prop)  (h : Hp) : Prop :=
  LoopF (σ := Int) (IntKind.wrap .i64 (a1 + (1 : Int))) h fun u1 h3 L2 =>
    If (decide (u1 < a2)) (
      LoopF (σ := Int) u1 h3 fun u5 h7 L6 =>
        J (fun (x9 : Bool) h11 =>
            If x9 (
              Ix a0 (IntKind.wrap .i64 (u5 - (1 : Int))) 13 fun p12 =>
              LdA S_api_Inode.cells h11 p12 fun v14 =>
              Ix a0 u5 13 fun p16 =>
              LdA S_api_Inode.cells h11 p16 fun v18 =>
              Ix a0 u5 13 fun p20 =>
              StA h11 p20 (S_api_Inode.cells v14) fun h22 =>
              Ix a0 (IntKind.wrap .i64 (u5 - (1 : Int))) 13 fun p23 =>
              StA h22 p23 (S_api_Inode.cells v18) fun h25 =>
              L6 (IntKind.wrap .i64 (u5 - (1 : Int))) h25
            ) (
              L2 (IntKind.wrap .i64 (u1 + (1 : Int))) h11
            )
        ) fun K10 =>
        If (decide (u5 > a1)) (
          Ix a0 u5 13 fun p27 =>
          LdA S_api_Inode.cells h7 p27 fun v29 =>
          Ix a0 (IntKind.wrap .i64 (u5 - (1 : Int))) 13 fun p31 =>
          LdA S_api_Inode.cells h7 p31 fun v33 =>
          a3_f v29 v33 (fun r35 h36 =>
            K10 (decide (r35 < (0 : Int))) h36
          ) h7
        ) (
          K10 false h7
        )
    ) (
      Q () h3
    )
def slices_swapRangeCmpFunc_api_Inode (a0 : Sl) (a1 : Int) (a2 : Int) (a3 : Int) (a4_f : S_api_Inode → S_api_Inode → (Int → Hp → Prop) → Hp → Prop) (Q : Unit → Hp → Prop)  (h : Hp) : Prop :=
  LoopF (σ := Int) 0 h fun u1 h3 L2 =>
    If (decide (u1 < a3)) (
      Ix a0 (IntKind.wrap .i64 (a2 + u1)) 13 fun p5 =>
      LdA S_api_Inode.cells h3 p5 fun v7 =>
      Ix a0 (IntKind.wrap .i64 (a1 + u1)) 13 fun p9 =>
      LdA S_api_Inode.cells h3 p9 fun v11 =>
      Ix a0 (IntKind.wrap .i64 (a1 + u1)) 13 fun p13 =>
      StA h3 p13 (S_api_Inode.cells v7) fun h15 =>
      Ix a0 (IntKind.wrap .i64 (a2 + u1)) 13 fun p16 =>
      StA h15 p16 (S_api_Inode.cells v11) fun h18 =>
      L2 (IntKind.wrap .i64 (u1 + (1 : Int))) h18
    ) (
      Q () h3
    )
def slices_rotateCmpFunc_api_Inode (a0 : Sl) (a1 : Int) (a2 : Int) (a3 : Int) (a4_f : S_api_Inode → S_api_Inode → (Int → Hp → Prop) → Hp → Prop) (Q : Unit → Hp → Prop)  (h : Hp) : Prop :=
  LoopF (σ := Int × Int) (IntKind.wrap .i64 (a2 - a1), IntKind.wrap .i64 (a3 - a2)) h fun u1 h3 L2 =>
    If (u1.1 != u1.2) (
      If (decide (u1.1 > u1.2)) (
        slices_swapRangeCmpFunc_api_Inode a0 (IntKind.wrap .i64 (a2 - u1.1)) a2 u1.2 a4_f (fun r5 h6 =>
          L2 (IntKind.wrap .i64 (u1.1 - u1.2), u1.2) h6
        ) h3
      ) (
        slices_swapRangeCmpFunc_api_Inode a0 (IntKind.wrap .i64 (a2 - u1.1)) (IntKind.wrap .i64 ((IntKind.wrap .i64 (a2 + u1.2)) - u1.1)) u1.1 a4_f (fun r7 h8 =>
          L2 (u1.1, IntKind.wrap .i64 (u1.2 - u1.1)) h8
        ) h3
      )
    ) (
      slices_swapRangeCmpFunc_api_Inode a0 (IntKind.wrap .i64 (a2 - u1.1)) a2 u1.1 a4_f (fun r9 h10 =>
        Q () h10
      ) h3
    )
def slices_symMergeCmpFunc_api_Inode : Nat → Sl → Int → Int → Int → (S_api_Inode → S_api_Inode → (Int → Hp → Prop) → Hp → Prop) → (Unit → Hp → Prop) → Hp → Prop
  | 0, _, _, _, _, _, _, _ => False
  | k + 1, a0, a1, a2, a3, a4_f, Q, h =>
    If ((IntKind.wrap .i64 (a2 - a1)) == (1 : Int)) (
      LoopF (σ := Int × Int) (a2, a3) h fun u1 h3 L2 =>
        If (decide (u1.1 < u1.2)) (
          Ix a0 (IntKind.wrap .i64 (iShr .u64 (IntKind.wrap .u64 (IntKind.wrap .i64 (u1.1 + u1.2))) (1 : Int))) 13 fun p5 =>
          LdA S_api_Inode.cells h3 p5 fun v7 =>
          Ix a0 a1 13 fun p9 =>
          LdA S_api_Inode.cells h3 p9 fun v11 =>
          a4_f v7 v11 (fun r13 h14 =>
            If (decide (r13 < (0 : Int))) (
              L2 (IntKind.wrap .i64 ((IntKind.wrap .i64 (iShr .u64 (IntKind.wrap .u64 (IntKind.wrap .i64 (u1.1 + u1.2))) (1 : Int))) + (1 : Int)), u1.2) h14
            ) (
              L2 (u1.1, IntKind.wrap .i64 (iShr .u64 (IntKind.wrap .u64 (IntKind.wrap .i64 (u1.1 + u1.2))) (1 : Int))) h14
            )
          ) h3
        ) (
          LoopF (σ := Int) a1 h3 fun u15 h17 L16 =>
            If (decide (u15 < (IntKind.wrap .i64 (u1.1 - (1 : Int))))) (
              Ix a0 (IntKind.wrap .i64 (u15 + (1 : Int))) 13 fun p19 =>
              LdA S_api_Inode.cells h17 p19 fun v21 =>
              Ix a0 u15 13 fun p23 =>
              LdA S_api_Inode.cells h17 p23 fun v25 =>
              Ix a0 u15 13 fun p27 =>
              StA h17 p27 (S_api_Inode.cells v21) fun h29 =>
              Ix a0 (IntKind.wrap .i64 (u15 + (1 : Int))) 13 fun p30 =>
              StA h29 p30 (S_api_Inode.cells v25) fun h32 =>
              L16 (IntKind.wrap .i64 (u15 + (1 : Int))) h32
            ) (
              Q () h17
            )
        )
    ) (
      If ((IntKind.wrap .i64 (a3 - a2)) == (1 : Int)) (
        LoopF (σ := Int × Int) (a1, a2) h fun u33 h35 L34 =>
          If (decide (u33.1 < u33.2)) (
            Ix a0 a2 13 fun p37 =>
            LdA S_api_Inode.cells h35 p37 fun v39 =>
            Ix a0 (IntKind.wrap .i64 (iShr .u64 (IntKind.wrap .u64 (IntKind.wrap .i64 (u33.1 + u33.2))) (1 : Int))) 13 fun p41 =>
            LdA S_api_Inode.cells h35 p41 fun v43 =>
            a4_f v39 v43 (fun r45 h46 =>
              If (!(decide (r45 < (0 : Int)))) (
                L34 (IntKind.wrap .i64 ((IntKind.wrap .i64 (iShr .u64 (IntKind.wrap .u64 (IntKind.wrap .i64 (u33.1 + u33.2))) (1 : Int))) + (1 : Int)), u33.2) h46
              ) (
                L34 (u33.1, IntKind.wrap .i64 (iShr .u64 (IntKind.wrap .u64 (IntKind.wrap .i64 (u33.1 + u33.2))) (1 : Int))) h46
              )
            ) h35
          ) (
            LoopF (σ := Int) a2 h35 fun u47 h49 L48 =>
              If (decide (u47 > u33.1)) (
                Ix a0 (IntKind.wrap .i64 (u47 - (1 : Int))) 13 fun p51 =>
                LdA S_api_Inode.cells h49 p51 fun v53 =>
                Ix a0 u47 13 fun p55 =>
                LdA S_api_Inode.cells h49 p55 fun v57 =>
                Ix a0 u47 13 fun p59 =>
                StA h49 p59 (S_api_Inode.cells v53) fun h61 =>
                Ix a0 (IntKind.wrap .i64 (u47 - (1 : Int))) 13 fun p62 =>
                StA h61 p62 (S_api_Inode.cells v57) fun h64 =>
                L48 (IntKind.wrap .i64 (u47 - (1 : Int))) h64
              ) (
                Q () h49
              )
          )
      ) (
        J (fun (x65 : Int × Int) h67 =>
            LoopF (σ := Int × Int) (x65.1, x65.2) h67 fun u68 h70 L69 =>
              If (decide (u68.1 < u68.2)) (
                Ix a0 (IntKind.wrap .i64 ((IntKind.wrap .i64 ((IntKind.wrap .i64 ((IntKind.wrap .i64 (iShr .u64 (IntKind.wrap .u64 (IntKind.wrap .i64 (a1 + a3))) (1 : Int))) + a2)) - (1 : Int))) - (IntKind.wrap .i64 (iShr .u64 (IntKind.wrap .u64 (IntKind.wrap .i64 (u68.1 + u68.2))) (1 : Int))))) 13 fun p72 =>
                LdA S_api_Inode.cells h70 p72 fun v74 =>
                Ix a0 (IntKind.wrap .i64 (iShr .u64 (IntKind.wrap .u64 (IntKind.wrap .i64 (u68.1 + u68.2))) (1 : Int))) 13 fun p76 =>
                LdA S_api_Inode.cells h70 p76 fun v78 =>
                a4_f v74 v78 (fun r80 h81 =>
                  If (!(decide (r80 < (0 : Int)))) (
                    L69 (IntKind.wrap .i64 ((IntKind.wrap .i64 (iShr .u64 (IntKind.wrap .u64 (IntKind.wrap .i64 (u68.1 + u68.2))) (1 : Int))) + (1 : Int)), u68.2) h81
                  ) (
                    L69 (u68.1, IntKind.wrap .i64 (iShr .u64 (IntKind.wrap .u64 (IntKind.wrap .i64 (u68.1 + u68.2))) (1 : Int))) h81
                  )
                ) h70
              ) (
                J (fun (x82 : Unit) h84 =>
                    J (fun (x85 : Unit) h87 =>
                        J (fun (x88 : Bool) h90 =>
                            If x88 (
                              slices_symMergeCmpFunc_api_Inode k a0 (IntKind.wrap .i64 (iShr .u64 (IntKind.wrap .u64 (IntKind.wrap .i64 (a1 + a3))) (1 : Int))) (IntKind.wrap .i64 ((IntKind.wrap .i64 ((IntKind.wrap .i64 (iShr .u64 (IntKind.wrap .u64 (IntKind.wrap .i64 (a1 + a3))) (1 : Int))) + a2)) - u68.1)) a3 a4_f (fun r91 h92 =>
                                Q () h92
                              ) h90
                            ) (
                              Q () h90
                            )
                        ) fun K89 =>
                        If (decide ((IntKind.wrap .i64 (iShr .u64 (IntKind.wrap .u64 (IntKind.wrap .i64 (a1 + a3))) (1 : Int))) < (IntKind.wrap .i64 ((IntKind.wrap .i64 ((IntKind.wrap .i64 (iShr .u64 (IntKind.wrap .u64 (IntKind.wrap .i64 (a1 + a3))) (1 : Int))) + a2)) - u68.1)))) (
                          K89 (decide ((IntKind.wrap .i64 ((IntKind.wrap .i64 ((IntKind.wrap .i64 (iShr .u64 (IntKind.wrap .u64 (IntKind.wrap .i64 (a1 + a3))) (1 : Int))) + a2)) - u68.1)) < a3)) h87
                        ) (
                          K89 false h87
                        )
                    ) fun K86 =>
                    J (fun (x94 : Bool) h96 =>
                        If x94 (
                          slices_symMergeCmpFunc_api_Inode k a0 a1 u68.1 (IntKind.wrap .i64 (iShr .u64 (IntKind.wrap .u64 (IntKind.wrap .i64 (a1 + a3))) (1 : Int))) a4_f (fun r97 h98 =>
                            K86 () h98
                          ) h96
                        ) (
                          K86 () h96
                        )
                    ) fun K95 =>
                    If (decide (a1 < u68.1)) (
                      K95 (decide (u68.1 < (IntKind.wrap .i64 (iShr .u64 (IntKind.wrap .u64 (IntKind.wrap .i64 (a1 + a3))) (1 : Int))))) h84
                    ) (
                      K95 false h84
                    )
                ) fun K83 =>
                J (fun (x100 : Bool) h102 =>
                    If x100 (
                      slices_rotateCmpFunc_api_Inode a0 u68.1 a2 (IntKind.wrap .i64 ((IntKind.wrap .i64 ((IntKind.wrap .i64 (iShr .u64 (IntKind.wrap .u64 (IntKind.wrap .i64 (a1 + a3))) (1 : Int))) + a2)) - u68.1)) a4_f (fun r103 h104 =>
                        K83 () h104
                      ) h102
                    ) (
                      K83 () h102
                    )
                ) fun K101 =>
                If (decide (u68.1 < a2)) (
                  K101 (decide (a2 < (IntKind.wrap .i64 ((IntKind.wrap .i64 ((IntKind.wrap .i64 (iShr .u64 (IntKind.wrap .u64 (IntKind.wrap .i64 (a1 + a3))) (1 : Int))) + a2)) - u68.1)))) h70
                ) (
                  K101 false h70
                )
              )
        ) fun K66 =>
        If (decide (a2 > (IntKind.wrap .i64 (iShr .u64 (IntKind.wrap .u64 (IntKind.wrap .i64 (a1 + a3))) (1 : Int))))) (
          K66 (IntKind.wrap .i64 ((IntKind.wrap .i64 ((IntKind.wrap .i64 (iShr .u64 (IntKind.wrap .u64 (IntKind.wrap .i64 (a1 + a3))) (1 : Int))) + a2)) - a3), IntKind.wrap .i64 (iShr .u64 (IntKind.wrap .u64 (IntKind.wrap .i64 (a1 + a3))) (1 : Int))) h
        ) (
          K66 (a1, a2) h
        )
      )
    )
def slices_stableCmpFunc_api_Inode (a0 : Sl) (a1 : Int) (a2_f : S_api_Inode → S_api_Inode → (Int → Hp → Prop) → Hp → Prop) (Q : Unit → Hp → Prop)  (h : Hp) : Prop :=
  LoopF (σ := Int × Int) (0, 20) h fun u1 h3 L2 =>
    If (decide (u1.2 ≤ a1)) (
      slices_insertionSortCmpFunc_api_Inode a0 u1.1 u1.2 a2_f (fun r5 h6 =>
        L2 (u1.2, IntKind.wrap .i64 (u1.2 + (20 : Int))) h6
      ) h3
    ) (
      slices_insertionSortCmpFunc_api_Inode a0 u1.1 a1 a2_f (fun r7 h8 =>
        LoopF (σ := Int) 20 h8 fun u9 h11 L10 =>
          If (decide (u9 < a1)) (
            LoopF (σ := Int × Int) (0, IntKind.wrap .i64 ((2 : Int) * u9)) h11 fun u13 h15 L14 =>
              If (decide (u13.2 ≤ a1)) (
                Rec fun k0 => slices_symMergeCmpFunc_api_Inode k0 a0 u13.1 (IntKind.wrap .i64 (u13.1 + u9)) u13.2 a2_f (fun r17 h18 =>
                  L14 (u13.2, IntKind.wrap .i64 (u13.2 + (IntKind.wrap .i64 ((2 : Int) * u9)))) h18
                ) h15
              ) (
                J (fun (x19 : Unit) h21 =>
                    L10 (IntKind.wrap .i64 (u9 * (2 : Int))) h21
                ) fun K20 =>
                If (decide ((IntKind.wrap .i64 (u13.1 + u9)) < a1)) (
                  Rec fun k0 => slices_symMergeCmpFunc_api_Inode k0 a0 u13.1 (IntKind.wrap .i64 (u13.1 + u9)) a1 a2_f (fun r22 h23 =>
                    K20 () h23
                  ) h15
                ) (
                  K20 () h15
                )
              )
          ) (
            Q () h11
          )
      ) h3
    )
def slices_SortStableFunc_api_Inode_api_Inode (a0 : Sl) (a1_f : S_api_Inode → S_api_Inode → (Int → Hp → Prop) → Hp → Prop) (Q : Unit → Hp → Prop)  (h : Hp) : Prop :=
  slices_stableCmpFunc_api_Inode a0 (a0.len : Int) a1_f (fun r1 h2 =>
    Q () h2
  ) h
def join_merged_api_Inode (a0 : Sl) (a1 : Sl) (a2_f : S_api_Inode → S_api_Inode → (Int → Hp → Prop) → Hp → Prop) (a3_f : S_api_Inode → S_api_Inode → (S_api_Inode → Hp → Prop) → Hp → Prop) (Q : Sl → Hp → Prop)  (h : Hp) : Prop :=
  Al h [Sl.enc a0, Sl.enc a1] fun b1 h2 =>
  slices_Concat_api_Inode_api_Inode (Sl.mk (some b1) 2 2) (fun r3 h4 =>
    slices_SortStableFunc_api_Inode_api_Inode r3 a2_f (fun r5 h6 =>
      LoopF (σ := Sl × Int) (Sl.nil, 0) h6 fun u7 h9 L8 =>
        If (decide (u7.2 < (r3.len : Int))) (
          J (fun (x11 : Sl) h13 =>
              L8 (x11, IntKind.wrap .i64 (u7.2 + (1 : Int))) h13
          ) fun K12 =>
          Ix r3 u7.2 13 fun p14 =>
          LdA S_api_Inode.cells h9 p14 fun v16 =>
          AlX h9 fun b18 h19 =>
          StX h19 b18 fun h20 =>
          J (fun (x21 : Bool) h23 =>
              If x21 (
                Ix u7.1 (IntKind.wrap .i64 ((u7.1.len : Int) - (1 : Int))) 13 fun p24 =>
                LdA S_api_Inode.cells h23 p24 fun v26 =>
                a3_f v26 v16 (fun r28 h29 =>
                  Ix u7.1 (IntKind.wrap .i64 ((u7.1.len : Int) - (1 : Int))) 13 fun p30 =>
                  StA h29 p30 (S_api_Inode.cells r28) fun h32 =>
                  K12 u7.1 h32
                ) h23
              ) (
                Al h23 (List.flatten [S_api_Inode.cells v16]) fun b33 h34 =>
                AppS h34 u7.1 (Sl.mk (some b33) 1 1) 13 144 fun v35 h36 =>
                K12 v35 h36
              )
          ) fun K22 =>
          If (decide ((u7.1.len : Int) > (0 : Int))) (
            Ix u7.1 (IntKind.wrap .i64 ((u7.1.len : Int) - (1 : Int))) 13 fun p38 =>
            LdA S_api_Inode.cells h20 p38 fun v40 =>
            a2_f v40 v16 (fun r42 h43 =>
              KpX h20 h43 [b18] <|
              K22 (r42 == (0 : Int)) h43
            ) h20
          ) (
            K22 false h20
          )
        ) (
          Q u7.1 h9
        )
    ) h4
  ) h2
def cmp_Or_int (a0 : Sl) (Q : Int → Hp → Prop)  (h : Hp) : Prop :=
  LoopF (σ := Int) 0 h fun u1 h3 L2 =>
    If (decide (u1 < (a0.len : Int))) (
      Ix a0 u1 1 fun p5 =>
      Ld (Value.int .i64) h3 p5 fun v7 =>
      If (v7 != (0 : Int)) (
        Q v7 h3
      ) (
        L2 (IntKind.wrap .i64 (u1 + (1 : Int))) h3
      )
    ) (
      Q 0 h3
    )
def cmp_isNaN_int (a0 : Int) (Q : Bool → Hp → Prop)  (h : Hp) : Prop :=
  Q (a0 != a0) h
def cmp_Compare_int (a0 : Int) (a1 : Int) (Q : Int → Hp → Prop)  (h : Hp) : Prop :=
  cmp_isNaN_int a0 (fun r1 h2 =>
    cmp_isNaN_int a1 (fun r3 h4 =>
      If r1 (
        If r3 (
          Q 0 h4
        ) (
          Q (-1) h4
        )
      ) (
        If r3 (
          Q 1 h4
        ) (
          If (decide (a0 < a1)) (
            Q (-1) h4
          ) (
            If (decide (a0 > a1)) (
              Q 1 h4
            ) (
              Q 0 h4
            )
          )
        )
      )
    ) h2
  ) h
def join_stamps (a0 : S_api_Stamp) (a1 : S_api_Stamp) (Q : Int → Hp → Prop)  (h : Hp) : Prop :=
  AlX h fun b1 h2 =>
  AlX h2 fun b3 h4 =>
  cmp_Compare_int a0.Time a1.Time (fun r5 h6 =>
    KpX h4 h6 [b3, b1] <|
    cmp_Compare_int a0.Who a1.Who (fun r7 h8 =>
      Al h8 [.int .i64 r5, .int .i64 r7] fun b9 h10 =>
      cmp_Or_int (Sl.mk (some b9) 2 2) (fun r11 h12 =>
        Q r11 h12
      ) h10
    ) h6
  ) h4
def join_States_1 (a0 : S_api_Inode) (a1 : S_api_Inode) (Q : Int → Hp → Prop)  (h : Hp) : Prop :=
  AlX h fun b1 h2 =>
  AlX h2 fun b3 h4 =>
  join_stamps a0.Id a1.Id (fun r5 h6 =>
    Q r5 h6
  ) h4
def slices_Grow_api_Piece_api_Piece (a0 : Sl) (a1 : Int) (Q : Sl → Hp → Prop)  (h : Hp) : Prop :=
  J (fun (x1 : Unit) h3 =>
      J (fun (x4 : Sl) h6 =>
          Q x4 h6
      ) fun K5 =>
      If (decide ((IntKind.wrap .i64 (a1 - (IntKind.wrap .i64 ((a0.cap : Int) - (a0.len : Int))))) > (0 : Int))) (
        SlSl a0 0 (a0.cap : Int) 4 fun v8 =>
        AppZ h3 v8 (IntKind.wrap .i64 (a1 - (IntKind.wrap .i64 ((a0.cap : Int) - (a0.len : Int))))) (S_api_Piece.cells (S_api_Piece.mk 0 (S_api_Stamp.mk 0 0) [])) 40 fun v9 h10 =>
        SlSl v9 0 (a0.len : Int) 4 fun v12 =>
        K5 v12 h10
      ) (
        K5 a0 h3
      )
  ) fun K2 =>
  If (decide (a1 < (0 : Int))) (
    False
  ) (
    K2 () h
  )
def slices_Concat_api_Piece_api_Piece (a0 : Sl) (Q : Sl → Hp → Prop)  (h : Hp) : Prop :=
  LoopF (σ := Int × Int) (0, 0) h fun u1 h3 L2 =>
    If (decide (u1.2 < (a0.len : Int))) (
      J (fun (x5 : Int) h7 =>
          L2 (x5, IntKind.wrap .i64 (u1.2 + (1 : Int))) h7
      ) fun K6 =>
      Ix a0 u1.2 1 fun p8 =>
      Ld Sl.enc h3 p8 fun v10 =>
      If (decide ((IntKind.wrap .i64 (u1.1 + (v10.len : Int))) < (0 : Int))) (
        False
      ) (
        K6 (IntKind.wrap .i64 (u1.1 + (v10.len : Int))) h3
      )
    ) (
      slices_Grow_api_Piece_api_Piece Sl.nil u1.1 (fun r12 h13 =>
        LoopF (σ := Sl × Int) (r12, 0) h13 fun u14 h16 L15 =>
          If (decide (u14.2 < (a0.len : Int))) (
            Ix a0 u14.2 1 fun p18 =>
            Ld Sl.enc h16 p18 fun v20 =>
            AppS h16 u14.1 v20 4 40 fun v22 h23 =>
            L15 (v22, IntKind.wrap .i64 (u14.2 + (1 : Int))) h23
          ) (
            Q u14.1 h16
          )
      ) h3
    )
def slices_insertionSortCmpFunc_api_Piece (a0 : Sl) (a1 : Int) (a2 : Int) (a3_f : S_api_Piece → S_api_Piece → (Int → Hp → Prop) → Hp → Prop) (Q : Unit → Hp → Prop)  (h : Hp) : Prop :=
  LoopF (σ := Int) (IntKind.wrap .i64 (a1 + (1 : Int))) h fun u1 h3 L2 =>
    If (decide (u1 < a2)) (
      LoopF (σ := Int) u1 h3 fun u5 h7 L6 =>
        J (fun (x9 : Bool) h11 =>
            If x9 (
              Ix a0 (IntKind.wrap .i64 (u5 - (1 : Int))) 4 fun p12 =>
              LdA S_api_Piece.cells h11 p12 fun v14 =>
              Ix a0 u5 4 fun p16 =>
              LdA S_api_Piece.cells h11 p16 fun v18 =>
              Ix a0 u5 4 fun p20 =>
              StA h11 p20 (S_api_Piece.cells v14) fun h22 =>
              Ix a0 (IntKind.wrap .i64 (u5 - (1 : Int))) 4 fun p23 =>
              StA h22 p23 (S_api_Piece.cells v18) fun h25 =>
              L6 (IntKind.wrap .i64 (u5 - (1 : Int))) h25
            ) (
              L2 (IntKind.wrap .i64 (u1 + (1 : Int))) h11
            )
        ) fun K10 =>
        If (decide (u5 > a1)) (
          Ix a0 u5 4 fun p27 =>
          LdA S_api_Piece.cells h7 p27 fun v29 =>
          Ix a0 (IntKind.wrap .i64 (u5 - (1 : Int))) 4 fun p31 =>
          LdA S_api_Piece.cells h7 p31 fun v33 =>
          a3_f v29 v33 (fun r35 h36 =>
            K10 (decide (r35 < (0 : Int))) h36
          ) h7
        ) (
          K10 false h7
        )
    ) (
      Q () h3
    )
def slices_swapRangeCmpFunc_api_Piece (a0 : Sl) (a1 : Int) (a2 : Int) (a3 : Int) (a4_f : S_api_Piece → S_api_Piece → (Int → Hp → Prop) → Hp → Prop) (Q : Unit → Hp → Prop)  (h : Hp) : Prop :=
  LoopF (σ := Int) 0 h fun u1 h3 L2 =>
    If (decide (u1 < a3)) (
      Ix a0 (IntKind.wrap .i64 (a2 + u1)) 4 fun p5 =>
      LdA S_api_Piece.cells h3 p5 fun v7 =>
      Ix a0 (IntKind.wrap .i64 (a1 + u1)) 4 fun p9 =>
      LdA S_api_Piece.cells h3 p9 fun v11 =>
      Ix a0 (IntKind.wrap .i64 (a1 + u1)) 4 fun p13 =>
      StA h3 p13 (S_api_Piece.cells v7) fun h15 =>
      Ix a0 (IntKind.wrap .i64 (a2 + u1)) 4 fun p16 =>
      StA h15 p16 (S_api_Piece.cells v11) fun h18 =>
      L2 (IntKind.wrap .i64 (u1 + (1 : Int))) h18
    ) (
      Q () h3
    )
def slices_rotateCmpFunc_api_Piece (a0 : Sl) (a1 : Int) (a2 : Int) (a3 : Int) (a4_f : S_api_Piece → S_api_Piece → (Int → Hp → Prop) → Hp → Prop) (Q : Unit → Hp → Prop)  (h : Hp) : Prop :=
  LoopF (σ := Int × Int) (IntKind.wrap .i64 (a2 - a1), IntKind.wrap .i64 (a3 - a2)) h fun u1 h3 L2 =>
    If (u1.1 != u1.2) (
      If (decide (u1.1 > u1.2)) (
        slices_swapRangeCmpFunc_api_Piece a0 (IntKind.wrap .i64 (a2 - u1.1)) a2 u1.2 a4_f (fun r5 h6 =>
          L2 (IntKind.wrap .i64 (u1.1 - u1.2), u1.2) h6
        ) h3
      ) (
        slices_swapRangeCmpFunc_api_Piece a0 (IntKind.wrap .i64 (a2 - u1.1)) (IntKind.wrap .i64 ((IntKind.wrap .i64 (a2 + u1.2)) - u1.1)) u1.1 a4_f (fun r7 h8 =>
          L2 (u1.1, IntKind.wrap .i64 (u1.2 - u1.1)) h8
        ) h3
      )
    ) (
      slices_swapRangeCmpFunc_api_Piece a0 (IntKind.wrap .i64 (a2 - u1.1)) a2 u1.1 a4_f (fun r9 h10 =>
        Q () h10
      ) h3
    )
def slices_symMergeCmpFunc_api_Piece : Nat → Sl → Int → Int → Int → (S_api_Piece → S_api_Piece → (Int → Hp → Prop) → Hp → Prop) → (Unit → Hp → Prop) → Hp → Prop
  | 0, _, _, _, _, _, _, _ => False
  | k + 1, a0, a1, a2, a3, a4_f, Q, h =>
    If ((IntKind.wrap .i64 (a2 - a1)) == (1 : Int)) (
      LoopF (σ := Int × Int) (a2, a3) h fun u1 h3 L2 =>
        If (decide (u1.1 < u1.2)) (
          Ix a0 (IntKind.wrap .i64 (iShr .u64 (IntKind.wrap .u64 (IntKind.wrap .i64 (u1.1 + u1.2))) (1 : Int))) 4 fun p5 =>
          LdA S_api_Piece.cells h3 p5 fun v7 =>
          Ix a0 a1 4 fun p9 =>
          LdA S_api_Piece.cells h3 p9 fun v11 =>
          a4_f v7 v11 (fun r13 h14 =>
            If (decide (r13 < (0 : Int))) (
              L2 (IntKind.wrap .i64 ((IntKind.wrap .i64 (iShr .u64 (IntKind.wrap .u64 (IntKind.wrap .i64 (u1.1 + u1.2))) (1 : Int))) + (1 : Int)), u1.2) h14
            ) (
              L2 (u1.1, IntKind.wrap .i64 (iShr .u64 (IntKind.wrap .u64 (IntKind.wrap .i64 (u1.1 + u1.2))) (1 : Int))) h14
            )
          ) h3
        ) (
          LoopF (σ := Int) a1 h3 fun u15 h17 L16 =>
            If (decide (u15 < (IntKind.wrap .i64 (u1.1 - (1 : Int))))) (
              Ix a0 (IntKind.wrap .i64 (u15 + (1 : Int))) 4 fun p19 =>
              LdA S_api_Piece.cells h17 p19 fun v21 =>
              Ix a0 u15 4 fun p23 =>
              LdA S_api_Piece.cells h17 p23 fun v25 =>
              Ix a0 u15 4 fun p27 =>
              StA h17 p27 (S_api_Piece.cells v21) fun h29 =>
              Ix a0 (IntKind.wrap .i64 (u15 + (1 : Int))) 4 fun p30 =>
              StA h29 p30 (S_api_Piece.cells v25) fun h32 =>
              L16 (IntKind.wrap .i64 (u15 + (1 : Int))) h32
            ) (
              Q () h17
            )
        )
    ) (
      If ((IntKind.wrap .i64 (a3 - a2)) == (1 : Int)) (
        LoopF (σ := Int × Int) (a1, a2) h fun u33 h35 L34 =>
          If (decide (u33.1 < u33.2)) (
            Ix a0 a2 4 fun p37 =>
            LdA S_api_Piece.cells h35 p37 fun v39 =>
            Ix a0 (IntKind.wrap .i64 (iShr .u64 (IntKind.wrap .u64 (IntKind.wrap .i64 (u33.1 + u33.2))) (1 : Int))) 4 fun p41 =>
            LdA S_api_Piece.cells h35 p41 fun v43 =>
            a4_f v39 v43 (fun r45 h46 =>
              If (!(decide (r45 < (0 : Int)))) (
                L34 (IntKind.wrap .i64 ((IntKind.wrap .i64 (iShr .u64 (IntKind.wrap .u64 (IntKind.wrap .i64 (u33.1 + u33.2))) (1 : Int))) + (1 : Int)), u33.2) h46
              ) (
                L34 (u33.1, IntKind.wrap .i64 (iShr .u64 (IntKind.wrap .u64 (IntKind.wrap .i64 (u33.1 + u33.2))) (1 : Int))) h46
              )
            ) h35
          ) (
            LoopF (σ := Int) a2 h35 fun u47 h49 L48 =>
              If (decide (u47 > u33.1)) (
                Ix a0 (IntKind.wrap .i64 (u47 - (1 : Int))) 4 fun p51 =>
                LdA S_api_Piece.cells h49 p51 fun v53 =>
                Ix a0 u47 4 fun p55 =>
                LdA S_api_Piece.cells h49 p55 fun v57 =>
                Ix a0 u47 4 fun p59 =>
                StA h49 p59 (S_api_Piece.cells v53) fun h61 =>
                Ix a0 (IntKind.wrap .i64 (u47 - (1 : Int))) 4 fun p62 =>
                StA h61 p62 (S_api_Piece.cells v57) fun h64 =>
                L48 (IntKind.wrap .i64 (u47 - (1 : Int))) h64
              ) (
                Q () h49
              )
          )
      ) (
        J (fun (x65 : Int × Int) h67 =>
            LoopF (σ := Int × Int) (x65.1, x65.2) h67 fun u68 h70 L69 =>
              If (decide (u68.1 < u68.2)) (
                Ix a0 (IntKind.wrap .i64 ((IntKind.wrap .i64 ((IntKind.wrap .i64 ((IntKind.wrap .i64 (iShr .u64 (IntKind.wrap .u64 (IntKind.wrap .i64 (a1 + a3))) (1 : Int))) + a2)) - (1 : Int))) - (IntKind.wrap .i64 (iShr .u64 (IntKind.wrap .u64 (IntKind.wrap .i64 (u68.1 + u68.2))) (1 : Int))))) 4 fun p72 =>
                LdA S_api_Piece.cells h70 p72 fun v74 =>
                Ix a0 (IntKind.wrap .i64 (iShr .u64 (IntKind.wrap .u64 (IntKind.wrap .i64 (u68.1 + u68.2))) (1 : Int))) 4 fun p76 =>
                LdA S_api_Piece.cells h70 p76 fun v78 =>
                a4_f v74 v78 (fun r80 h81 =>
                  If (!(decide (r80 < (0 : Int)))) (
                    L69 (IntKind.wrap .i64 ((IntKind.wrap .i64 (iShr .u64 (IntKind.wrap .u64 (IntKind.wrap .i64 (u68.1 + u68.2))) (1 : Int))) + (1 : Int)), u68.2) h81
                  ) (
                    L69 (u68.1, IntKind.wrap .i64 (iShr .u64 (IntKind.wrap .u64 (IntKind.wrap .i64 (u68.1 + u68.2))) (1 : Int))) h81
                  )
                ) h70
              ) (
                J (fun (x82 : Unit) h84 =>
                    J (fun (x85 : Unit) h87 =>
                        J (fun (x88 : Bool) h90 =>
                            If x88 (
                              slices_symMergeCmpFunc_api_Piece k a0 (IntKind.wrap .i64 (iShr .u64 (IntKind.wrap .u64 (IntKind.wrap .i64 (a1 + a3))) (1 : Int))) (IntKind.wrap .i64 ((IntKind.wrap .i64 ((IntKind.wrap .i64 (iShr .u64 (IntKind.wrap .u64 (IntKind.wrap .i64 (a1 + a3))) (1 : Int))) + a2)) - u68.1)) a3 a4_f (fun r91 h92 =>
                                Q () h92
                              ) h90
                            ) (
                              Q () h90
                            )
                        ) fun K89 =>
                        If (decide ((IntKind.wrap .i64 (iShr .u64 (IntKind.wrap .u64 (IntKind.wrap .i64 (a1 + a3))) (1 : Int))) < (IntKind.wrap .i64 ((IntKind.wrap .i64 ((IntKind.wrap .i64 (iShr .u64 (IntKind.wrap .u64 (IntKind.wrap .i64 (a1 + a3))) (1 : Int))) + a2)) - u68.1)))) (
                          K89 (decide ((IntKind.wrap .i64 ((IntKind.wrap .i64 ((IntKind.wrap .i64 (iShr .u64 (IntKind.wrap .u64 (IntKind.wrap .i64 (a1 + a3))) (1 : Int))) + a2)) - u68.1)) < a3)) h87
                        ) (
                          K89 false h87
                        )
                    ) fun K86 =>
                    J (fun (x94 : Bool) h96 =>
                        If x94 (
                          slices_symMergeCmpFunc_api_Piece k a0 a1 u68.1 (IntKind.wrap .i64 (iShr .u64 (IntKind.wrap .u64 (IntKind.wrap .i64 (a1 + a3))) (1 : Int))) a4_f (fun r97 h98 =>
                            K86 () h98
                          ) h96
                        ) (
                          K86 () h96
                        )
                    ) fun K95 =>
                    If (decide (a1 < u68.1)) (
                      K95 (decide (u68.1 < (IntKind.wrap .i64 (iShr .u64 (IntKind.wrap .u64 (IntKind.wrap .i64 (a1 + a3))) (1 : Int))))) h84
                    ) (
                      K95 false h84
                    )
                ) fun K83 =>
                J (fun (x100 : Bool) h102 =>
                    If x100 (
                      slices_rotateCmpFunc_api_Piece a0 u68.1 a2 (IntKind.wrap .i64 ((IntKind.wrap .i64 ((IntKind.wrap .i64 (iShr .u64 (IntKind.wrap .u64 (IntKind.wrap .i64 (a1 + a3))) (1 : Int))) + a2)) - u68.1)) a4_f (fun r103 h104 =>
                        K83 () h104
                      ) h102
                    ) (
                      K83 () h102
                    )
                ) fun K101 =>
                If (decide (u68.1 < a2)) (
                  K101 (decide (a2 < (IntKind.wrap .i64 ((IntKind.wrap .i64 ((IntKind.wrap .i64 (iShr .u64 (IntKind.wrap .u64 (IntKind.wrap .i64 (a1 + a3))) (1 : Int))) + a2)) - u68.1)))) h70
                ) (
                  K101 false h70
                )
              )
        ) fun K66 =>
        If (decide (a2 > (IntKind.wrap .i64 (iShr .u64 (IntKind.wrap .u64 (IntKind.wrap .i64 (a1 + a3))) (1 : Int))))) (
          K66 (IntKind.wrap .i64 ((IntKind.wrap .i64 ((IntKind.wrap .i64 (iShr .u64 (IntKind.wrap .u64 (IntKind.wrap .i64 (a1 + a3))) (1 : Int))) + a2)) - a3), IntKind.wrap .i64 (iShr .u64 (IntKind.wrap .u64 (IntKind.wrap .i64 (a1 + a3))) (1 : Int))) h
        ) (
          K66 (a1, a2) h
        )
      )
    )
def slices_stableCmpFunc_api_Piece (a0 : Sl) (a1 : Int) (a2_f : S_api_Piece → S_api_Piece → (Int → Hp → Prop) → Hp → Prop) (Q : Unit → Hp → Prop)  (h : Hp) : Prop :=
  LoopF (σ := Int × Int) (0, 20) h fun u1 h3 L2 =>
    If (decide (u1.2 ≤ a1)) (
      slices_insertionSortCmpFunc_api_Piece a0 u1.1 u1.2 a2_f (fun r5 h6 =>
        L2 (u1.2, IntKind.wrap .i64 (u1.2 + (20 : Int))) h6
      ) h3
    ) (
      slices_insertionSortCmpFunc_api_Piece a0 u1.1 a1 a2_f (fun r7 h8 =>
        LoopF (σ := Int) 20 h8 fun u9 h11 L10 =>
          If (decide (u9 < a1)) (
            LoopF (σ := Int × Int) (0, IntKind.wrap .i64 ((2 : Int) * u9)) h11 fun u13 h15 L14 =>
              If (decide (u13.2 ≤ a1)) (
                Rec fun k0 => slices_symMergeCmpFunc_api_Piece k0 a0 u13.1 (IntKind.wrap .i64 (u13.1 + u9)) u13.2 a2_f (fun r17 h18 =>
                  L14 (u13.2, IntKind.wrap .i64 (u13.2 + (IntKind.wrap .i64 ((2 : Int) * u9)))) h18
                ) h15
              ) (
                J (fun (x19 : Unit) h21 =>
                    L10 (IntKind.wrap .i64 (u9 * (2 : Int))) h21
                ) fun K20 =>
                If (decide ((IntKind.wrap .i64 (u13.1 + u9)) < a1)) (
                  Rec fun k0 => slices_symMergeCmpFunc_api_Piece k0 a0 u13.1 (IntKind.wrap .i64 (u13.1 + u9)) a1 a2_f (fun r22 h23 =>
                    K20 () h23
                  ) h15
                ) (
                  K20 () h15
                )
              )
          ) (
            Q () h11
          )
      ) h3
    )
def slices_SortStableFunc_api_Piece_api_Piece (a0 : Sl) (a1_f : S_api_Piece → S_api_Piece → (Int → Hp → Prop) → Hp → Prop) (Q : Unit → Hp → Prop)  (h : Hp) : Prop :=
  slices_stableCmpFunc_api_Piece a0 (a0.len : Int) a1_f (fun r1 h2 =>
    Q () h2
  ) h
def join_merged_api_Piece (a0 : Sl) (a1 : Sl) (a2_f : S_api_Piece → S_api_Piece → (Int → Hp → Prop) → Hp → Prop) (a3_f : S_api_Piece → S_api_Piece → (S_api_Piece → Hp → Prop) → Hp → Prop) (Q : Sl → Hp → Prop)  (h : Hp) : Prop :=
  Al h [Sl.enc a0, Sl.enc a1] fun b1 h2 =>
  slices_Concat_api_Piece_api_Piece (Sl.mk (some b1) 2 2) (fun r3 h4 =>
    slices_SortStableFunc_api_Piece_api_Piece r3 a2_f (fun r5 h6 =>
      LoopF (σ := Sl × Int) (Sl.nil, 0) h6 fun u7 h9 L8 =>
        If (decide (u7.2 < (r3.len : Int))) (
          J (fun (x11 : Sl) h13 =>
              L8 (x11, IntKind.wrap .i64 (u7.2 + (1 : Int))) h13
          ) fun K12 =>
          Ix r3 u7.2 4 fun p14 =>
          LdA S_api_Piece.cells h9 p14 fun v16 =>
          AlX h9 fun b18 h19 =>
          StX h19 b18 fun h20 =>
          J (fun (x21 : Bool) h23 =>
              If x21 (
                Ix u7.1 (IntKind.wrap .i64 ((u7.1.len : Int) - (1 : Int))) 4 fun p24 =>
                LdA S_api_Piece.cells h23 p24 fun v26 =>
                a3_f v26 v16 (fun r28 h29 =>
                  Ix u7.1 (IntKind.wrap .i64 ((u7.1.len : Int) - (1 : Int))) 4 fun p30 =>
                  StA h29 p30 (S_api_Piece.cells r28) fun h32 =>
                  K12 u7.1 h32
                ) h23
              ) (
                Al h23 (List.flatten [S_api_Piece.cells v16]) fun b33 h34 =>
                AppS h34 u7.1 (Sl.mk (some b33) 1 1) 4 40 fun v35 h36 =>
                K12 v35 h36
              )
          ) fun K22 =>
          If (decide ((u7.1.len : Int) > (0 : Int))) (
            Ix u7.1 (IntKind.wrap .i64 ((u7.1.len : Int) - (1 : Int))) 4 fun p38 =>
            LdA S_api_Piece.cells h20 p38 fun v40 =>
            a2_f v40 v16 (fun r42 h43 =>
              KpX h20 h43 [b18] <|
              K22 (r42 == (0 : Int)) h43
            ) h20
          ) (
            K22 false h20
          )
        ) (
          Q u7.1 h9
        )
    ) h4
  ) h2
def join_listed_1 (a0 : S_api_Piece) (a1 : S_api_Piece) (Q : Int → Hp → Prop)  (h : Hp) : Prop :=
  AlX h fun b1 h2 =>
  AlX h2 fun b3 h4 =>
  cmp_Compare_int a0.Index a1.Index (fun r5 h6 =>
    Q r5 h6
  ) h4
def join_greater_api_Piece (a0 : S_api_Piece) (a1 : S_api_Piece) (a2_f : S_api_Piece → S_api_Piece → (Int → Hp → Prop) → Hp → Prop) (Q : S_api_Piece → Hp → Prop)  (h : Hp) : Prop :=
  AlX h fun b1 h2 =>
  AlX h2 fun b3 h4 =>
  AlX h4 fun b5 h6 =>
  a2_f a0 a1 (fun r7 h8 =>
    KpX h6 h8 [b5, b3, b1] <|
    If (decide (r7 < (0 : Int))) (
      StX h8 b5 fun h9 =>
      Q a1 h9
    ) (
      StX h8 b5 fun h10 =>
      Q a0 h10
    )
  ) h6
def cmp_isNaN_string (a0 : Str) (Q : Bool → Hp → Prop)  (h : Hp) : Prop :=
  Q (a0 != a0) h
def cmp_Compare_string (a0 : Str) (a1 : Str) (Q : Int → Hp → Prop)  (h : Hp) : Prop :=
  cmp_isNaN_string a0 (fun r1 h2 =>
    cmp_isNaN_string a1 (fun r3 h4 =>
      If r1 (
        If r3 (
          Q 0 h4
        ) (
          Q (-1) h4
        )
      ) (
        If r3 (
          Q 1 h4
        ) (
          If (sLt a0 a1) (
            Q (-1) h4
          ) (
            If (!(sLt a0 a1 || a0 == a1)) (
              Q 1 h4
            ) (
              Q 0 h4
            )
          )
        )
      )
    ) h2
  ) h
def join_pieces (a0 : S_api_Piece) (a1 : S_api_Piece) (Q : Int → Hp → Prop)  (h : Hp) : Prop :=
  AlX h fun b1 h2 =>
  AlX h2 fun b3 h4 =>
  join_stamps a0.At a1.At (fun r5 h6 =>
    KpX h4 h6 [b3, b1] <|
    cmp_Compare_string a0.Data a1.Data (fun r7 h8 =>
      Al h8 [.int .i64 r5, .int .i64 r7] fun b9 h10 =>
      cmp_Or_int (Sl.mk (some b9) 2 2) (fun r11 h12 =>
        Q r11 h12
      ) h10
    ) h6
  ) h4
def join_listed_2 (a0 : S_api_Piece) (a1 : S_api_Piece) (Q : S_api_Piece → Hp → Prop)  (h : Hp) : Prop :=
  AlX h fun b1 h2 =>
  AlX h2 fun b3 h4 =>
  AlX h4 fun b5 h6 =>
  join_greater_api_Piece a0 a1 (fun x0 x1 Q h => join_pieces x0 x1  Q h) (fun r7 h8 =>
    KpX h6 h8 [b5] <|
    StX h8 b5 fun h9 =>
    Q r7 h9
  ) h6
def join_listed (a0 : Sl) (Q : Sl → Hp → Prop)  (h : Hp) : Prop :=
  join_merged_api_Piece a0 Sl.nil (fun x0 x1 Q h => join_listed_1 x0 x1  Q h) (fun x0 x1 Q h => join_listed_2 x0 x1  Q h) (fun r1 h2 =>
    Q r1 h2
  ) h
def slices_Grow_api_Xattr_api_Xattr (a0 : Sl) (a1 : Int) (Q : Sl → Hp → Prop)  (h : Hp) : Prop :=
  J (fun (x1 : Unit) h3 =>
      J (fun (x4 : Sl) h6 =>
          Q x4 h6
      ) fun K5 =>
      If (decide ((IntKind.wrap .i64 (a1 - (IntKind.wrap .i64 ((a0.cap : Int) - (a0.len : Int))))) > (0 : Int))) (
        SlSl a0 0 (a0.cap : Int) 5 fun v8 =>
        AppZ h3 v8 (IntKind.wrap .i64 (a1 - (IntKind.wrap .i64 ((a0.cap : Int) - (a0.len : Int))))) (S_api_Xattr.cells (S_api_Xattr.mk [] (S_api_Stamp.mk 0 0) [] false)) 56 fun v9 h10 =>
        SlSl v9 0 (a0.len : Int) 5 fun v12 =>
        K5 v12 h10
      ) (
        K5 a0 h3
      )
  ) fun K2 =>
  If (decide (a1 < (0 : Int))) (
    False
  ) (
    K2 () h
  )
def slices_Concat_api_Xattr_api_Xattr (a0 : Sl) (Q : Sl → Hp → Prop)  (h : Hp) : Prop :=
  LoopF (σ := Int × Int) (0, 0) h fun u1 h3 L2 =>
    If (decide (u1.2 < (a0.len : Int))) (
      J (fun (x5 : Int) h7 =>
          L2 (x5, IntKind.wrap .i64 (u1.2 + (1 : Int))) h7
      ) fun K6 =>
      Ix a0 u1.2 1 fun p8 =>
      Ld Sl.enc h3 p8 fun v10 =>
      If (decide ((IntKind.wrap .i64 (u1.1 + (v10.len : Int))) < (0 : Int))) (
        False
      ) (
        K6 (IntKind.wrap .i64 (u1.1 + (v10.len : Int))) h3
      )
    ) (
      slices_Grow_api_Xattr_api_Xattr Sl.nil u1.1 (fun r12 h13 =>
        LoopF (σ := Sl × Int) (r12, 0) h13 fun u14 h16 L15 =>
          If (decide (u14.2 < (a0.len : Int))) (
            Ix a0 u14.2 1 fun p18 =>
            Ld Sl.enc h16 p18 fun v20 =>
            AppS h16 u14.1 v20 5 56 fun v22 h23 =>
            L15 (v22, IntKind.wrap .i64 (u14.2 + (1 : Int))) h23
          ) (
            Q u14.1 h16
          )
      ) h3
    )
def slices_insertionSortCmpFunc_api_Xattr (a0 : Sl) (a1 : Int) (a2 : Int) (a3_f : S_api_Xattr → S_api_Xattr → (Int → Hp → Prop) → Hp → Prop) (Q : Unit → Hp → Prop)  (h : Hp) : Prop :=
  LoopF (σ := Int) (IntKind.wrap .i64 (a1 + (1 : Int))) h fun u1 h3 L2 =>
    If (decide (u1 < a2)) (
      LoopF (σ := Int) u1 h3 fun u5 h7 L6 =>
        J (fun (x9 : Bool) h11 =>
            If x9 (
              Ix a0 (IntKind.wrap .i64 (u5 - (1 : Int))) 5 fun p12 =>
              LdA S_api_Xattr.cells h11 p12 fun v14 =>
              Ix a0 u5 5 fun p16 =>
              LdA S_api_Xattr.cells h11 p16 fun v18 =>
              Ix a0 u5 5 fun p20 =>
              StA h11 p20 (S_api_Xattr.cells v14) fun h22 =>
              Ix a0 (IntKind.wrap .i64 (u5 - (1 : Int))) 5 fun p23 =>
              StA h22 p23 (S_api_Xattr.cells v18) fun h25 =>
              L6 (IntKind.wrap .i64 (u5 - (1 : Int))) h25
            ) (
              L2 (IntKind.wrap .i64 (u1 + (1 : Int))) h11
            )
        ) fun K10 =>
        If (decide (u5 > a1)) (
          Ix a0 u5 5 fun p27 =>
          LdA S_api_Xattr.cells h7 p27 fun v29 =>
          Ix a0 (IntKind.wrap .i64 (u5 - (1 : Int))) 5 fun p31 =>
          LdA S_api_Xattr.cells h7 p31 fun v33 =>
          a3_f v29 v33 (fun r35 h36 =>
            K10 (decide (r35 < (0 : Int))) h36
          ) h7
        ) (
          K10 false h7
        )
    ) (
      Q () h3
    )
def slices_swapRangeCmpFunc_api_Xattr (a0 : Sl) (a1 : Int) (a2 : Int) (a3 : Int) (a4_f : S_api_Xattr → S_api_Xattr → (Int → Hp → Prop) → Hp → Prop) (Q : Unit → Hp → Prop)  (h : Hp) : Prop :=
  LoopF (σ := Int) 0 h fun u1 h3 L2 =>
    If (decide (u1 < a3)) (
      Ix a0 (IntKind.wrap .i64 (a2 + u1)) 5 fun p5 =>
      LdA S_api_Xattr.cells h3 p5 fun v7 =>
      Ix a0 (IntKind.wrap .i64 (a1 + u1)) 5 fun p9 =>
      LdA S_api_Xattr.cells h3 p9 fun v11 =>
      Ix a0 (IntKind.wrap .i64 (a1 + u1)) 5 fun p13 =>
      StA h3 p13 (S_api_Xattr.cells v7) fun h15 =>
      Ix a0 (IntKind.wrap .i64 (a2 + u1)) 5 fun p16 =>
      StA h15 p16 (S_api_Xattr.cells v11) fun h18 =>
      L2 (IntKind.wrap .i64 (u1 + (1 : Int))) h18
    ) (
      Q () h3
    )
def slices_rotateCmpFunc_api_Xattr (a0 : Sl) (a1 : Int) (a2 : Int) (a3 : Int) (a4_f : S_api_Xattr → S_api_Xattr → (Int → Hp → Prop) → Hp → Prop) (Q : Unit → Hp → Prop)  (h : Hp) : Prop :=
  LoopF (σ := Int × Int) (IntKind.wrap .i64 (a2 - a1), IntKind.wrap .i64 (a3 - a2)) h fun u1 h3 L2 =>
    If (u1.1 != u1.2) (
      If (decide (u1.1 > u1.2)) (
        slices_swapRangeCmpFunc_api_Xattr a0 (IntKind.wrap .i64 (a2 - u1.1)) a2 u1.2 a4_f (fun r5 h6 =>
          L2 (IntKind.wrap .i64 (u1.1 - u1.2), u1.2) h6
        ) h3
      ) (
        slices_swapRangeCmpFunc_api_Xattr a0 (IntKind.wrap .i64 (a2 - u1.1)) (IntKind.wrap .i64 ((IntKind.wrap .i64 (a2 + u1.2)) - u1.1)) u1.1 a4_f (fun r7 h8 =>
          L2 (u1.1, IntKind.wrap .i64 (u1.2 - u1.1)) h8
        ) h3
      )
    ) (
      slices_swapRangeCmpFunc_api_Xattr a0 (IntKind.wrap .i64 (a2 - u1.1)) a2 u1.1 a4_f (fun r9 h10 =>
        Q () h10
      ) h3
    )
def slices_symMergeCmpFunc_api_Xattr : Nat → Sl → Int → Int → Int → (S_api_Xattr → S_api_Xattr → (Int → Hp → Prop) → Hp → Prop) → (Unit → Hp → Prop) → Hp → Prop
  | 0, _, _, _, _, _, _, _ => False
  | k + 1, a0, a1, a2, a3, a4_f, Q, h =>
    If ((IntKind.wrap .i64 (a2 - a1)) == (1 : Int)) (
      LoopF (σ := Int × Int) (a2, a3) h fun u1 h3 L2 =>
        If (decide (u1.1 < u1.2)) (
          Ix a0 (IntKind.wrap .i64 (iShr .u64 (IntKind.wrap .u64 (IntKind.wrap .i64 (u1.1 + u1.2))) (1 : Int))) 5 fun p5 =>
          LdA S_api_Xattr.cells h3 p5 fun v7 =>
          Ix a0 a1 5 fun p9 =>
          LdA S_api_Xattr.cells h3 p9 fun v11 =>
          a4_f v7 v11 (fun r13 h14 =>
            If (decide (r13 < (0 : Int))) (
              L2 (IntKind.wrap .i64 ((IntKind.wrap .i64 (iShr .u64 (IntKind.wrap .u64 (IntKind.wrap .i64 (u1.1 + u1.2))) (1 : Int))) + (1 : Int)), u1.2) h14
            ) (
              L2 (u1.1, IntKind.wrap .i64 (iShr .u64 (IntKind.wrap .u64 (IntKind.wrap .i64 (u1.1 + u1.2))) (1 : Int))) h14
            )
          ) h3
        ) (
          LoopF (σ := Int) a1 h3 fun u15 h17 L16 =>
            If (decide (u15 < (IntKind.wrap .i64 (u1.1 - (1 : Int))))) (
              Ix a0 (IntKind.wrap .i64 (u15 + (1 : Int))) 5 fun p19 =>
              LdA S_api_Xattr.cells h17 p19 fun v21 =>
              Ix a0 u15 5 fun p23 =>
              LdA S_api_Xattr.cells h17 p23 fun v25 =>
              Ix a0 u15 5 fun p27 =>
              StA h17 p27 (S_api_Xattr.cells v21) fun h29 =>
              Ix a0 (IntKind.wrap .i64 (u15 + (1 : Int))) 5 fun p30 =>
              StA h29 p30 (S_api_Xattr.cells v25) fun h32 =>
              L16 (IntKind.wrap .i64 (u15 + (1 : Int))) h32
            ) (
              Q () h17
            )
        )
    ) (
      If ((IntKind.wrap .i64 (a3 - a2)) == (1 : Int)) (
        LoopF (σ := Int × Int) (a1, a2) h fun u33 h35 L34 =>
          If (decide (u33.1 < u33.2)) (
            Ix a0 a2 5 fun p37 =>
            LdA S_api_Xattr.cells h35 p37 fun v39 =>
            Ix a0 (IntKind.wrap .i64 (iShr .u64 (IntKind.wrap .u64 (IntKind.wrap .i64 (u33.1 + u33.2))) (1 : Int))) 5 fun p41 =>
            LdA S_api_Xattr.cells h35 p41 fun v43 =>
            a4_f v39 v43 (fun r45 h46 =>
              If (!(decide (r45 < (0 : Int)))) (
                L34 (IntKind.wrap .i64 ((IntKind.wrap .i64 (iShr .u64 (IntKind.wrap .u64 (IntKind.wrap .i64 (u33.1 + u33.2))) (1 : Int))) + (1 : Int)), u33.2) h46
              ) (
                L34 (u33.1, IntKind.wrap .i64 (iShr .u64 (IntKind.wrap .u64 (IntKind.wrap .i64 (u33.1 + u33.2))) (1 : Int))) h46
              )
            ) h35
          ) (
            LoopF (σ := Int) a2 h35 fun u47 h49 L48 =>
              If (decide (u47 > u33.1)) (
                Ix a0 (IntKind.wrap .i64 (u47 - (1 : Int))) 5 fun p51 =>
                LdA S_api_Xattr.cells h49 p51 fun v53 =>
                Ix a0 u47 5 fun p55 =>
                LdA S_api_Xattr.cells h49 p55 fun v57 =>
                Ix a0 u47 5 fun p59 =>
                StA h49 p59 (S_api_Xattr.cells v53) fun h61 =>
                Ix a0 (IntKind.wrap .i64 (u47 - (1 : Int))) 5 fun p62 =>
                StA h61 p62 (S_api_Xattr.cells v57) fun h64 =>
                L48 (IntKind.wrap .i64 (u47 - (1 : Int))) h64
              ) (
                Q () h49
              )
          )
      ) (
        J (fun (x65 : Int × Int) h67 =>
            LoopF (σ := Int × Int) (x65.1, x65.2) h67 fun u68 h70 L69 =>
              If (decide (u68.1 < u68.2)) (
                Ix a0 (IntKind.wrap .i64 ((IntKind.wrap .i64 ((IntKind.wrap .i64 ((IntKind.wrap .i64 (iShr .u64 (IntKind.wrap .u64 (IntKind.wrap .i64 (a1 + a3))) (1 : Int))) + a2)) - (1 : Int))) - (IntKind.wrap .i64 (iShr .u64 (IntKind.wrap .u64 (IntKind.wrap .i64 (u68.1 + u68.2))) (1 : Int))))) 5 fun p72 =>
                LdA S_api_Xattr.cells h70 p72 fun v74 =>
                Ix a0 (IntKind.wrap .i64 (iShr .u64 (IntKind.wrap .u64 (IntKind.wrap .i64 (u68.1 + u68.2))) (1 : Int))) 5 fun p76 =>
                LdA S_api_Xattr.cells h70 p76 fun v78 =>
                a4_f v74 v78 (fun r80 h81 =>
                  If (!(decide (r80 < (0 : Int)))) (
                    L69 (IntKind.wrap .i64 ((IntKind.wrap .i64 (iShr .u64 (IntKind.wrap .u64 (IntKind.wrap .i64 (u68.1 + u68.2))) (1 : Int))) + (1 : Int)), u68.2) h81
                  ) (
                    L69 (u68.1, IntKind.wrap .i64 (iShr .u64 (IntKind.wrap .u64 (IntKind.wrap .i64 (u68.1 + u68.2))) (1 : Int))) h81
                  )
                ) h70
              ) (
                J (fun (x82 : Unit) h84 =>
                    J (fun (x85 : Unit) h87 =>
                        J (fun (x88 : Bool) h90 =>
                            If x88 (
                              slices_symMergeCmpFunc_api_Xattr k a0 (IntKind.wrap .i64 (iShr .u64 (IntKind.wrap .u64 (IntKind.wrap .i64 (a1 + a3))) (1 : Int))) (IntKind.wrap .i64 ((IntKind.wrap .i64 ((IntKind.wrap .i64 (iShr .u64 (IntKind.wrap .u64 (IntKind.wrap .i64 (a1 + a3))) (1 : Int))) + a2)) - u68.1)) a3 a4_f (fun r91 h92 =>
                                Q () h92
                              ) h90
                            ) (
                              Q () h90
                            )
                        ) fun K89 =>
                        If (decide ((IntKind.wrap .i64 (iShr .u64 (IntKind.wrap .u64 (IntKind.wrap .i64 (a1 + a3))) (1 : Int))) < (IntKind.wrap .i64 ((IntKind.wrap .i64 ((IntKind.wrap .i64 (iShr .u64 (IntKind.wrap .u64 (IntKind.wrap .i64 (a1 + a3))) (1 : Int))) + a2)) - u68.1)))) (
                          K89 (decide ((IntKind.wrap .i64 ((IntKind.wrap .i64 ((IntKind.wrap .i64 (iShr .u64 (IntKind.wrap .u64 (IntKind.wrap .i64 (a1 + a3))) (1 : Int))) + a2)) - u68.1)) < a3)) h87
                        ) (
                          K89 false h87
                        )
                    ) fun K86 =>
                    J (fun (x94 : Bool) h96 =>
                        If x94 (
                          slices_symMergeCmpFunc_api_Xattr k a0 a1 u68.1 (IntKind.wrap .i64 (iShr .u64 (IntKind.wrap .u64 (IntKind.wrap .i64 (a1 + a3))) (1 : Int))) a4_f (fun r97 h98 =>
                            K86 () h98
                          ) h96
                        ) (
                          K86 () h96
                        )
                    ) fun K95 =>
                    If (decide (a1 < u68.1)) (
                      K95 (decide (u68.1 < (IntKind.wrap .i64 (iShr .u64 (IntKind.wrap .u64 (IntKind.wrap .i64 (a1 + a3))) (1 : Int))))) h84
                    ) (
                      K95 false h84
                    )
                ) fun K83 =>
                J (fun (x100 : Bool) h102 =>
                    If x100 (
                      slices_rotateCmpFunc_api_Xattr a0 u68.1 a2 (IntKind.wrap .i64 ((IntKind.wrap .i64 ((IntKind.wrap .i64 (iShr .u64 (IntKind.wrap .u64 (IntKind.wrap .i64 (a1 + a3))) (1 : Int))) + a2)) - u68.1)) a4_f (fun r103 h104 =>
                        K83 () h104
                      ) h102
                    ) (
                      K83 () h102
                    )
                ) fun K101 =>
                If (decide (u68.1 < a2)) (
                  K101 (decide (a2 < (IntKind.wrap .i64 ((IntKind.wrap .i64 ((IntKind.wrap .i64 (iShr .u64 (IntKind.wrap .u64 (IntKind.wrap .i64 (a1 + a3))) (1 : Int))) + a2)) - u68.1)))) h70
                ) (
                  K101 false h70
                )
              )
        ) fun K66 =>
        If (decide (a2 > (IntKind.wrap .i64 (iShr .u64 (IntKind.wrap .u64 (IntKind.wrap .i64 (a1 + a3))) (1 : Int))))) (
          K66 (IntKind.wrap .i64 ((IntKind.wrap .i64 ((IntKind.wrap .i64 (iShr .u64 (IntKind.wrap .u64 (IntKind.wrap .i64 (a1 + a3))) (1 : Int))) + a2)) - a3), IntKind.wrap .i64 (iShr .u64 (IntKind.wrap .u64 (IntKind.wrap .i64 (a1 + a3))) (1 : Int))) h
        ) (
          K66 (a1, a2) h
        )
      )
    )
def slices_stableCmpFunc_api_Xattr (a0 : Sl) (a1 : Int) (a2_f : S_api_Xattr → S_api_Xattr → (Int → Hp → Prop) → Hp → Prop) (Q : Unit → Hp → Prop)  (h : Hp) : Prop :=
  LoopF (σ := Int × Int) (0, 20) h fun u1 h3 L2 =>
    If (decide (u1.2 ≤ a1)) (
      slices_insertionSortCmpFunc_api_Xattr a0 u1.1 u1.2 a2_f (fun r5 h6 =>
        L2 (u1.2, IntKind.wrap .i64 (u1.2 + (20 : Int))) h6
      ) h3
    ) (
      slices_insertionSortCmpFunc_api_Xattr a0 u1.1 a1 a2_f (fun r7 h8 =>
        LoopF (σ := Int) 20 h8 fun u9 h11 L10 =>
          If (decide (u9 < a1)) (
            LoopF (σ := Int × Int) (0, IntKind.wrap .i64 ((2 : Int) * u9)) h11 fun u13 h15 L14 =>
              If (decide (u13.2 ≤ a1)) (
                Rec fun k0 => slices_symMergeCmpFunc_api_Xattr k0 a0 u13.1 (IntKind.wrap .i64 (u13.1 + u9)) u13.2 a2_f (fun r17 h18 =>
                  L14 (u13.2, IntKind.wrap .i64 (u13.2 + (IntKind.wrap .i64 ((2 : Int) * u9)))) h18
                ) h15
              ) (
                J (fun (x19 : Unit) h21 =>
                    L10 (IntKind.wrap .i64 (u9 * (2 : Int))) h21
                ) fun K20 =>
                If (decide ((IntKind.wrap .i64 (u13.1 + u9)) < a1)) (
                  Rec fun k0 => slices_symMergeCmpFunc_api_Xattr k0 a0 u13.1 (IntKind.wrap .i64 (u13.1 + u9)) a1 a2_f (fun r22 h23 =>
                    K20 () h23
                  ) h15
                ) (
                  K20 () h15
                )
              )
          ) (
            Q () h11
          )
      ) h3
    )
def slices_SortStableFunc_api_Xattr_api_Xattr (a0 : Sl) (a1_f : S_api_Xattr → S_api_Xattr → (Int → Hp → Prop) → Hp → Prop) (Q : Unit → Hp → Prop)  (h : Hp) : Prop :=
  slices_stableCmpFunc_api_Xattr a0 (a0.len : Int) a1_f (fun r1 h2 =>
    Q () h2
  ) h
def join_merged_api_Xattr (a0 : Sl) (a1 : Sl) (a2_f : S_api_Xattr → S_api_Xattr → (Int → Hp → Prop) → Hp → Prop) (a3_f : S_api_Xattr → S_api_Xattr → (S_api_Xattr → Hp → Prop) → Hp → Prop) (Q : Sl → Hp → Prop)  (h : Hp) : Prop :=
  Al h [Sl.enc a0, Sl.enc a1] fun b1 h2 =>
  slices_Concat_api_Xattr_api_Xattr (Sl.mk (some b1) 2 2) (fun r3 h4 =>
    slices_SortStableFunc_api_Xattr_api_Xattr r3 a2_f (fun r5 h6 =>
      LoopF (σ := Sl × Int) (Sl.nil, 0) h6 fun u7 h9 L8 =>
        If (decide (u7.2 < (r3.len : Int))) (
          J (fun (x11 : Sl) h13 =>
              L8 (x11, IntKind.wrap .i64 (u7.2 + (1 : Int))) h13
          ) fun K12 =>
          Ix r3 u7.2 5 fun p14 =>
          LdA S_api_Xattr.cells h9 p14 fun v16 =>
          AlX h9 fun b18 h19 =>
          StX h19 b18 fun h20 =>
          J (fun (x21 : Bool) h23 =>
              If x21 (
                Ix u7.1 (IntKind.wrap .i64 ((u7.1.len : Int) - (1 : Int))) 5 fun p24 =>
                LdA S_api_Xattr.cells h23 p24 fun v26 =>
                a3_f v26 v16 (fun r28 h29 =>
                  Ix u7.1 (IntKind.wrap .i64 ((u7.1.len : Int) - (1 : Int))) 5 fun p30 =>
                  StA h29 p30 (S_api_Xattr.cells r28) fun h32 =>
                  K12 u7.1 h32
                ) h23
              ) (
                Al h23 (List.flatten [S_api_Xattr.cells v16]) fun b33 h34 =>
                AppS h34 u7.1 (Sl.mk (some b33) 1 1) 5 56 fun v35 h36 =>
                K12 v35 h36
              )
          ) fun K22 =>
          If (decide ((u7.1.len : Int) > (0 : Int))) (
            Ix u7.1 (IntKind.wrap .i64 ((u7.1.len : Int) - (1 : Int))) 5 fun p38 =>
            LdA S_api_Xattr.cells h20 p38 fun v40 =>
            a2_f v40 v16 (fun r42 h43 =>
              KpX h20 h43 [b18] <|
              K22 (r42 == (0 : Int)) h43
            ) h20
          ) (
            K22 false h20
          )
        ) (
          Q u7.1 h9
        )
    ) h4
  ) h2
def join_named_1 (a0 : S_api_Xattr) (a1 : S_api_Xattr) (Q : Int → Hp → Prop)  (h : Hp) : Prop :=
  AlX h fun b1 h2 =>
  AlX h2 fun b3 h4 =>
  cmp_Compare_string a0.Name a1.Name (fun r5 h6 =>
    Q r5 h6
  ) h4
def join_greater_api_Xattr (a0 : S_api_Xattr) (a1 : S_api_Xattr) (a2_f : S_api_Xattr → S_api_Xattr → (Int → Hp → Prop) → Hp → Prop) (Q : S_api_Xattr → Hp → Prop)  (h : Hp) : Prop :=
  AlX h fun b1 h2 =>
  AlX h2 fun b3 h4 =>
  AlX h4 fun b5 h6 =>
  a2_f a0 a1 (fun r7 h8 =>
    KpX h6 h8 [b5, b3, b1] <|
    If (decide (r7 < (0 : Int))) (
      StX h8 b5 fun h9 =>
      Q a1 h9
    ) (
      StX h8 b5 fun h10 =>
      Q a0 h10
    )
  ) h6
def join_flag (a0 : Bool) (Q : Int → Hp → Prop)  (h : Hp) : Prop :=
  If a0 (
    Q 1 h
  ) (
    Q 0 h
  )
def join_xattrs (a0 : S_api_Xattr) (a1 : S_api_Xattr) (Q : Int → Hp → Prop)  (h : Hp) : Prop :=
  AlX h fun b1 h2 =>
  AlX h2 fun b3 h4 =>
  join_stamps a0.At a1.At (fun r5 h6 =>
    KpX h4 h6 [b3, b1] <|
    join_flag a0.Gone (fun r7 h8 =>
      KpX h6 h8 [b3, b1] <|
      join_flag a1.Gone (fun r9 h10 =>
        KpX h8 h10 [b3, b1] <|
        cmp_Compare_int r7 r9 (fun r11 h12 =>
          KpX h10 h12 [b3, b1] <|
          cmp_Compare_string a0.Val a1.Val (fun r13 h14 =>
            Al h14 [.int .i64 r5, .int .i64 r11, .int .i64 r13] fun b15 h16 =>
            cmp_Or_int (Sl.mk (some b15) 3 3) (fun r17 h18 =>
              Q r17 h18
            ) h16
          ) h12
        ) h10
      ) h8
    ) h6
  ) h4
def join_named_2 (a0 : S_api_Xattr) (a1 : S_api_Xattr) (Q : S_api_Xattr → Hp → Prop)  (h : Hp) : Prop :=
  AlX h fun b1 h2 =>
  AlX h2 fun b3 h4 =>
  AlX h4 fun b5 h6 =>
  join_greater_api_Xattr a0 a1 (fun x0 x1 Q h => join_xattrs x0 x1  Q h) (fun r7 h8 =>
    KpX h6 h8 [b5] <|
    StX h8 b5 fun h9 =>
    Q r7 h9
  ) h6
def join_named (a0 : Sl) (Q : Sl → Hp → Prop)  (h : Hp) : Prop :=
  join_merged_api_Xattr a0 Sl.nil (fun x0 x1 Q h => join_named_1 x0 x1  Q h) (fun x0 x1 Q h => join_named_2 x0 x1  Q h) (fun r1 h2 =>
    Q r1 h2
  ) h
def join_greater_api_Attr (a0 : S_api_Attr) (a1 : S_api_Attr) (a2_f : S_api_Attr → S_api_Attr → (Int → Hp → Prop) → Hp → Prop) (Q : S_api_Attr → Hp → Prop)  (h : Hp) : Prop :=
  AlX h fun b1 h2 =>
  AlX h2 fun b3 h4 =>
  AlX h4 fun b5 h6 =>
  a2_f a0 a1 (fun r7 h8 =>
    KpX h6 h8 [b5, b3, b1] <|
    If (decide (r7 < (0 : Int))) (
      StX h8 b5 fun h9 =>
      Q a1 h9
    ) (
      StX h8 b5 fun h10 =>
      Q a0 h10
    )
  ) h6
def cmp_isNaN_uint64 (a0 : Int) (Q : Bool → Hp → Prop)  (h : Hp) : Prop :=
  Q (a0 != a0) h
def cmp_Compare_uint64 (a0 : Int) (a1 : Int) (Q : Int → Hp → Prop)  (h : Hp) : Prop :=
  cmp_isNaN_uint64 a0 (fun r1 h2 =>
    cmp_isNaN_uint64 a1 (fun r3 h4 =>
      If r1 (
        If r3 (
          Q 0 h4
        ) (
          Q (-1) h4
        )
      ) (
        If r3 (
          Q 1 h4
        ) (
          If (decide (a0 < a1)) (
            Q (-1) h4
          ) (
            If (decide (a0 > a1)) (
              Q 1 h4
            ) (
              Q 0 h4
            )
          )
        )
      )
    ) h2
  ) h
def join_attrs (a0 : S_api_Attr) (a1 : S_api_Attr) (Q : Int → Hp → Prop)  (h : Hp) : Prop :=
  AlX h fun b1 h2 =>
  AlX h2 fun b3 h4 =>
  join_stamps a0.At a1.At (fun r5 h6 =>
    KpX h4 h6 [b3, b1] <|
    cmp_Compare_int a0.Mode a1.Mode (fun r7 h8 =>
      KpX h6 h8 [b3, b1] <|
      cmp_Compare_uint64 a0.Time a1.Time (fun r9 h10 =>
        Al h10 [.int .i64 r5, .int .i64 r7, .int .i64 r9] fun b11 h12 =>
        cmp_Or_int (Sl.mk (some b11) 3 3) (fun r13 h14 =>
          Q r13 h14
        ) h12
      ) h8
    ) h6
  ) h4
def join_greater_api_Size (a0 : S_api_Size) (a1 : S_api_Size) (a2_f : S_api_Size → S_api_Size → (Int → Hp → Prop) → Hp → Prop) (Q : S_api_Size → Hp → Prop)  (h : Hp) : Prop :=
  AlX h fun b1 h2 =>
  AlX h2 fun b3 h4 =>
  AlX h4 fun b5 h6 =>
  a2_f a0 a1 (fun r7 h8 =>
    KpX h6 h8 [b5, b3, b1] <|
    If (decide (r7 < (0 : Int))) (
      StX h8 b5 fun h9 =>
      Q a1 h9
    ) (
      StX h8 b5 fun h10 =>
      Q a0 h10
    )
  ) h6
def join_sizes (a0 : S_api_Size) (a1 : S_api_Size) (Q : Int → Hp → Prop)  (h : Hp) : Prop :=
  AlX h fun b1 h2 =>
  AlX h2 fun b3 h4 =>
  join_stamps a0.At a1.At (fun r5 h6 =>
    KpX h4 h6 [b3, b1] <|
    cmp_Compare_int a0.N a1.N (fun r7 h8 =>
      Al h8 [.int .i64 r5, .int .i64 r7] fun b9 h10 =>
      cmp_Or_int (Sl.mk (some b9) 2 2) (fun r11 h12 =>
        Q r11 h12
      ) h10
    ) h6
  ) h4
def join_inode (a0 : S_api_Inode) (a1 : S_api_Inode) (Q : S_api_Inode → Hp → Prop)  (h : Hp) : Prop :=
  AlX h fun b1 h2 =>
  AlX h2 fun b3 h4 =>
  AlX h4 fun b5 h6 =>
  StX h6 b1 fun h7 =>
  StX h7 b1 fun h8 =>
  join_greater_api_Attr a0.Attr a1.Attr (fun x0 x1 Q h => join_attrs x0 x1  Q h) (fun r9 h10 =>
    KpX h8 h10 [b5, b3, b1] <|
    StX h10 b1 fun h11 =>
    join_greater_api_Size a0.Size a1.Size (fun x0 x1 Q h => join_sizes x0 x1  Q h) (fun r12 h13 =>
      KpX h11 h13 [b5, b3, b1] <|
      StX h13 b1 fun h14 =>
      Al h14 [Sl.enc a0.Pieces, Sl.enc a1.Pieces] fun b15 h16 =>
      KpX h14 h16 [b5, b3, b1] <|
      slices_Concat_api_Piece_api_Piece (Sl.mk (some b15) 2 2) (fun r17 h18 =>
        KpX h16 h18 [b5, b3, b1] <|
        join_listed r17 (fun r19 h20 =>
          KpX h18 h20 [b5, b3, b1] <|
          StX h20 b1 fun h21 =>
          Al h21 [Sl.enc a0.Xattrs, Sl.enc a1.Xattrs] fun b22 h23 =>
          KpX h21 h23 [b5, b1] <|
          slices_Concat_api_Xattr_api_Xattr (Sl.mk (some b22) 2 2) (fun r24 h25 =>
            KpX h23 h25 [b5, b1] <|
            join_named r24 (fun r26 h27 =>
              KpX h25 h27 [b5, b1] <|
              StX h27 b1 fun h28 =>
              StX h28 b5 fun h29 =>
              Q (S_api_Inode.mk a0.Id (iMax a0.Kind a1.Kind) (sMax a0.Text a1.Text) r9 r12 r19 r26) h29
            ) h25
          ) h23
        ) h18
      ) h16
    ) h11
  ) h8
def slices_Grow_api_Link_api_Link (a0 : Sl) (a1 : Int) (Q : Sl → Hp → Prop)  (h : Hp) : Prop :=
  J (fun (x1 : Unit) h3 =>
      J (fun (x4 : Sl) h6 =>
          Q x4 h6
      ) fun K5 =>
      If (decide ((IntKind.wrap .i64 (a1 - (IntKind.wrap .i64 ((a0.cap : Int) - (a0.len : Int))))) > (0 : Int))) (
        SlSl a0 0 (a0.cap : Int) 25 fun v8 =>
        AppZ h3 v8 (IntKind.wrap .i64 (a1 - (IntKind.wrap .i64 ((a0.cap : Int) - (a0.len : Int))))) (S_api_Link.cells (S_api_Link.mk (S_api_Stamp.mk 0 0) (S_api_Stamp.mk 0 0) (S_api_Stamp.mk 0 0) (S_api_Stamp.mk 0 0) [] (A8.mk 0 0 0 0 0 0 0 0) (A8.mk 0 0 0 0 0 0 0 0))) 208 fun v9 h10 =>
        SlSl v9 0 (a0.len : Int) 25 fun v12 =>
        K5 v12 h10
      ) (
        K5 a0 h3
      )
  ) fun K2 =>
  If (decide (a1 < (0 : Int))) (
    False
  ) (
    K2 () h
  )
def slices_Concat_api_Link_api_Link (a0 : Sl) (Q : Sl → Hp → Prop)  (h : Hp) : Prop :=
  LoopF (σ := Int × Int) (0, 0) h fun u1 h3 L2 =>
    If (decide (u1.2 < (a0.len : Int))) (
      J (fun (x5 : Int) h7 =>
          L2 (x5, IntKind.wrap .i64 (u1.2 + (1 : Int))) h7
      ) fun K6 =>
      Ix a0 u1.2 1 fun p8 =>
      Ld Sl.enc h3 p8 fun v10 =>
      If (decide ((IntKind.wrap .i64 (u1.1 + (v10.len : Int))) < (0 : Int))) (
        False
      ) (
        K6 (IntKind.wrap .i64 (u1.1 + (v10.len : Int))) h3
      )
    ) (
      slices_Grow_api_Link_api_Link Sl.nil u1.1 (fun r12 h13 =>
        LoopF (σ := Sl × Int) (r12, 0) h13 fun u14 h16 L15 =>
          If (decide (u14.2 < (a0.len : Int))) (
            Ix a0 u14.2 1 fun p18 =>
            Ld Sl.enc h16 p18 fun v20 =>
            AppS h16 u14.1 v20 25 208 fun v22 h23 =>
            L15 (v22, IntKind.wrap .i64 (u14.2 + (1 : Int))) h23
          ) (
            Q u14.1 h16
          )
      ) h3
    )
def slices_insertionSortCmpFunc_api_Link (a0 : Sl) (a1 : Int) (a2 : Int) (a3_f : S_api_Link → S_api_Link → (Int → Hp → Prop) → Hp → Prop) (Q : Unit → Hp → Prop)  (h : Hp) : Prop :=
  LoopF (σ := Int) (IntKind.wrap .i64 (a1 + (1 : Int))) h fun u1 h3 L2 =>
    If (decide (u1 < a2)) (
      LoopF (σ := Int) u1 h3 fun u5 h7 L6 =>
        J (fun (x9 : Bool) h11 =>
            If x9 (
              Ix a0 (IntKind.wrap .i64 (u5 - (1 : Int))) 25 fun p12 =>
              LdA S_api_Link.cells h11 p12 fun v14 =>
              Ix a0 u5 25 fun p16 =>
              LdA S_api_Link.cells h11 p16 fun v18 =>
              Ix a0 u5 25 fun p20 =>
              StA h11 p20 (S_api_Link.cells v14) fun h22 =>
              Ix a0 (IntKind.wrap .i64 (u5 - (1 : Int))) 25 fun p23 =>
              StA h22 p23 (S_api_Link.cells v18) fun h25 =>
              L6 (IntKind.wrap .i64 (u5 - (1 : Int))) h25
            ) (
              L2 (IntKind.wrap .i64 (u1 + (1 : Int))) h11
            )
        ) fun K10 =>
        If (decide (u5 > a1)) (
          Ix a0 u5 25 fun p27 =>
          LdA S_api_Link.cells h7 p27 fun v29 =>
          Ix a0 (IntKind.wrap .i64 (u5 - (1 : Int))) 25 fun p31 =>
          LdA S_api_Link.cells h7 p31 fun v33 =>
          a3_f v29 v33 (fun r35 h36 =>
            K10 (decide (r35 < (0 : Int))) h36
          ) h7
        ) (
          K10 false h7
        )
    ) (
      Q () h3
    )
def slices_swapRangeCmpFunc_api_Link (a0 : Sl) (a1 : Int) (a2 : Int) (a3 : Int) (a4_f : S_api_Link → S_api_Link → (Int → Hp → Prop) → Hp → Prop) (Q : Unit → Hp → Prop)  (h : Hp) : Prop :=
  LoopF (σ := Int) 0 h fun u1 h3 L2 =>
    If (decide (u1 < a3)) (
      Ix a0 (IntKind.wrap .i64 (a2 + u1)) 25 fun p5 =>
      LdA S_api_Link.cells h3 p5 fun v7 =>
      Ix a0 (IntKind.wrap .i64 (a1 + u1)) 25 fun p9 =>
      LdA S_api_Link.cells h3 p9 fun v11 =>
      Ix a0 (IntKind.wrap .i64 (a1 + u1)) 25 fun p13 =>
      StA h3 p13 (S_api_Link.cells v7) fun h15 =>
      Ix a0 (IntKind.wrap .i64 (a2 + u1)) 25 fun p16 =>
      StA h15 p16 (S_api_Link.cells v11) fun h18 =>
      L2 (IntKind.wrap .i64 (u1 + (1 : Int))) h18
    ) (
      Q () h3
    )
def slices_rotateCmpFunc_api_Link (a0 : Sl) (a1 : Int) (a2 : Int) (a3 : Int) (a4_f : S_api_Link → S_api_Link → (Int → Hp → Prop) → Hp → Prop) (Q : Unit → Hp → Prop)  (h : Hp) : Prop :=
  LoopF (σ := Int × Int) (IntKind.wrap .i64 (a2 - a1), IntKind.wrap .i64 (a3 - a2)) h fun u1 h3 L2 =>
    If (u1.1 != u1.2) (
      If (decide (u1.1 > u1.2)) (
        slices_swapRangeCmpFunc_api_Link a0 (IntKind.wrap .i64 (a2 - u1.1)) a2 u1.2 a4_f (fun r5 h6 =>
          L2 (IntKind.wrap .i64 (u1.1 - u1.2), u1.2) h6
        ) h3
      ) (
        slices_swapRangeCmpFunc_api_Link a0 (IntKind.wrap .i64 (a2 - u1.1)) (IntKind.wrap .i64 ((IntKind.wrap .i64 (a2 + u1.2)) - u1.1)) u1.1 a4_f (fun r7 h8 =>
          L2 (u1.1, IntKind.wrap .i64 (u1.2 - u1.1)) h8
        ) h3
      )
    ) (
      slices_swapRangeCmpFunc_api_Link a0 (IntKind.wrap .i64 (a2 - u1.1)) a2 u1.1 a4_f (fun r9 h10 =>
        Q () h10
      ) h3
    )
def slices_symMergeCmpFunc_api_Link : Nat → Sl → Int → Int → Int → (S_api_Link → S_api_Link → (Int → Hp → Prop) → Hp → Prop) → (Unit → Hp → Prop) → Hp → Prop
  | 0, _, _, _, _, _, _, _ => False
  | k + 1, a0, a1, a2, a3, a4_f, Q, h =>
    If ((IntKind.wrap .i64 (a2 - a1)) == (1 : Int)) (
      LoopF (σ := Int × Int) (a2, a3) h fun u1 h3 L2 =>
        If (decide (u1.1 < u1.2)) (
          Ix a0 (IntKind.wrap .i64 (iShr .u64 (IntKind.wrap .u64 (IntKind.wrap .i64 (u1.1 + u1.2))) (1 : Int))) 25 fun p5 =>
          LdA S_api_Link.cells h3 p5 fun v7 =>
          Ix a0 a1 25 fun p9 =>
          LdA S_api_Link.cells h3 p9 fun v11 =>
          a4_f v7 v11 (fun r13 h14 =>
            If (decide (r13 < (0 : Int))) (
              L2 (IntKind.wrap .i64 ((IntKind.wrap .i64 (iShr .u64 (IntKind.wrap .u64 (IntKind.wrap .i64 (u1.1 + u1.2))) (1 : Int))) + (1 : Int)), u1.2) h14
            ) (
              L2 (u1.1, IntKind.wrap .i64 (iShr .u64 (IntKind.wrap .u64 (IntKind.wrap .i64 (u1.1 + u1.2))) (1 : Int))) h14
            )
          ) h3
        ) (
          LoopF (σ := Int) a1 h3 fun u15 h17 L16 =>
            If (decide (u15 < (IntKind.wrap .i64 (u1.1 - (1 : Int))))) (
              Ix a0 (IntKind.wrap .i64 (u15 + (1 : Int))) 25 fun p19 =>
              LdA S_api_Link.cells h17 p19 fun v21 =>
              Ix a0 u15 25 fun p23 =>
              LdA S_api_Link.cells h17 p23 fun v25 =>
              Ix a0 u15 25 fun p27 =>
              StA h17 p27 (S_api_Link.cells v21) fun h29 =>
              Ix a0 (IntKind.wrap .i64 (u15 + (1 : Int))) 25 fun p30 =>
              StA h29 p30 (S_api_Link.cells v25) fun h32 =>
              L16 (IntKind.wrap .i64 (u15 + (1 : Int))) h32
            ) (
              Q () h17
            )
        )
    ) (
      If ((IntKind.wrap .i64 (a3 - a2)) == (1 : Int)) (
        LoopF (σ := Int × Int) (a1, a2) h fun u33 h35 L34 =>
          If (decide (u33.1 < u33.2)) (
            Ix a0 a2 25 fun p37 =>
            LdA S_api_Link.cells h35 p37 fun v39 =>
            Ix a0 (IntKind.wrap .i64 (iShr .u64 (IntKind.wrap .u64 (IntKind.wrap .i64 (u33.1 + u33.2))) (1 : Int))) 25 fun p41 =>
            LdA S_api_Link.cells h35 p41 fun v43 =>
            a4_f v39 v43 (fun r45 h46 =>
              If (!(decide (r45 < (0 : Int)))) (
                L34 (IntKind.wrap .i64 ((IntKind.wrap .i64 (iShr .u64 (IntKind.wrap .u64 (IntKind.wrap .i64 (u33.1 + u33.2))) (1 : Int))) + (1 : Int)), u33.2) h46
              ) (
                L34 (u33.1, IntKind.wrap .i64 (iShr .u64 (IntKind.wrap .u64 (IntKind.wrap .i64 (u33.1 + u33.2))) (1 : Int))) h46
              )
            ) h35
          ) (
            LoopF (σ := Int) a2 h35 fun u47 h49 L48 =>
              If (decide (u47 > u33.1)) (
                Ix a0 (IntKind.wrap .i64 (u47 - (1 : Int))) 25 fun p51 =>
                LdA S_api_Link.cells h49 p51 fun v53 =>
                Ix a0 u47 25 fun p55 =>
                LdA S_api_Link.cells h49 p55 fun v57 =>
                Ix a0 u47 25 fun p59 =>
                StA h49 p59 (S_api_Link.cells v53) fun h61 =>
                Ix a0 (IntKind.wrap .i64 (u47 - (1 : Int))) 25 fun p62 =>
                StA h61 p62 (S_api_Link.cells v57) fun h64 =>
                L48 (IntKind.wrap .i64 (u47 - (1 : Int))) h64
              ) (
                Q () h49
              )
          )
      ) (
        J (fun (x65 : Int × Int) h67 =>
            LoopF (σ := Int × Int) (x65.1, x65.2) h67 fun u68 h70 L69 =>
              If (decide (u68.1 < u68.2)) (
                Ix a0 (IntKind.wrap .i64 ((IntKind.wrap .i64 ((IntKind.wrap .i64 ((IntKind.wrap .i64 (iShr .u64 (IntKind.wrap .u64 (IntKind.wrap .i64 (a1 + a3))) (1 : Int))) + a2)) - (1 : Int))) - (IntKind.wrap .i64 (iShr .u64 (IntKind.wrap .u64 (IntKind.wrap .i64 (u68.1 + u68.2))) (1 : Int))))) 25 fun p72 =>
                LdA S_api_Link.cells h70 p72 fun v74 =>
                Ix a0 (IntKind.wrap .i64 (iShr .u64 (IntKind.wrap .u64 (IntKind.wrap .i64 (u68.1 + u68.2))) (1 : Int))) 25 fun p76 =>
                LdA S_api_Link.cells h70 p76 fun v78 =>
                a4_f v74 v78 (fun r80 h81 =>
                  If (!(decide (r80 < (0 : Int)))) (
                    L69 (IntKind.wrap .i64 ((IntKind.wrap .i64 (iShr .u64 (IntKind.wrap .u64 (IntKind.wrap .i64 (u68.1 + u68.2))) (1 : Int))) + (1 : Int)), u68.2) h81
                  ) (
                    L69 (u68.1, IntKind.wrap .i64 (iShr .u64 (IntKind.wrap .u64 (IntKind.wrap .i64 (u68.1 + u68.2))) (1 : Int))) h81
                  )
                ) h70
              ) (
                J (fun (x82 : Unit) h84 =>
                    J (fun (x85 : Unit) h87 =>
                        J (fun (x88 : Bool) h90 =>
                            If x88 (
                              slices_symMergeCmpFunc_api_Link k a0 (IntKind.wrap .i64 (iShr .u64 (IntKind.wrap .u64 (IntKind.wrap .i64 (a1 + a3))) (1 : Int))) (IntKind.wrap .i64 ((IntKind.wrap .i64 ((IntKind.wrap .i64 (iShr .u64 (IntKind.wrap .u64 (IntKind.wrap .i64 (a1 + a3))) (1 : Int))) + a2)) - u68.1)) a3 a4_f (fun r91 h92 =>
                                Q () h92
                              ) h90
                            ) (
                              Q () h90
                            )
                        ) fun K89 =>
                        If (decide ((IntKind.wrap .i64 (iShr .u64 (IntKind.wrap .u64 (IntKind.wrap .i64 (a1 + a3))) (1 : Int))) < (IntKind.wrap .i64 ((IntKind.wrap .i64 ((IntKind.wrap .i64 (iShr .u64 (IntKind.wrap .u64 (IntKind.wrap .i64 (a1 + a3))) (1 : Int))) + a2)) - u68.1)))) (
                          K89 (decide ((IntKind.wrap .i64 ((IntKind.wrap .i64 ((IntKind.wrap .i64 (iShr .u64 (IntKind.wrap .u64 (IntKind.wrap .i64 (a1 + a3))) (1 : Int))) + a2)) - u68.1)) < a3)) h87
                        ) (
                          K89 false h87
                        )
                    ) fun K86 =>
                    J (fun (x94 : Bool) h96 =>
                        If x94 (
                          slices_symMergeCmpFunc_api_Link k a0 a1 u68.1 (IntKind.wrap .i64 (iShr .u64 (IntKind.wrap .u64 (IntKind.wrap .i64 (a1 + a3))) (1 : Int))) a4_f (fun r97 h98 =>
                            K86 () h98
                          ) h96
                        ) (
                          K86 () h96
                        )
                    ) fun K95 =>
                    If (decide (a1 < u68.1)) (
                      K95 (decide (u68.1 < (IntKind.wrap .i64 (iShr .u64 (IntKind.wrap .u64 (IntKind.wrap .i64 (a1 + a3))) (1 : Int))))) h84
                    ) (
                      K95 false h84
                    )
                ) fun K83 =>
                J (fun (x100 : Bool) h102 =>
                    If x100 (
                      slices_rotateCmpFunc_api_Link a0 u68.1 a2 (IntKind.wrap .i64 ((IntKind.wrap .i64 ((IntKind.wrap .i64 (iShr .u64 (IntKind.wrap .u64 (IntKind.wrap .i64 (a1 + a3))) (1 : Int))) + a2)) - u68.1)) a4_f (fun r103 h104 =>
                        K83 () h104
                      ) h102
                    ) (
                      K83 () h102
                    )
                ) fun K101 =>
                If (decide (u68.1 < a2)) (
                  K101 (decide (a2 < (IntKind.wrap .i64 ((IntKind.wrap .i64 ((IntKind.wrap .i64 (iShr .u64 (IntKind.wrap .u64 (IntKind.wrap .i64 (a1 + a3))) (1 : Int))) + a2)) - u68.1)))) h70
                ) (
                  K101 false h70
                )
              )
        ) fun K66 =>
        If (decide (a2 > (IntKind.wrap .i64 (iShr .u64 (IntKind.wrap .u64 (IntKind.wrap .i64 (a1 + a3))) (1 : Int))))) (
          K66 (IntKind.wrap .i64 ((IntKind.wrap .i64 ((IntKind.wrap .i64 (iShr .u64 (IntKind.wrap .u64 (IntKind.wrap .i64 (a1 + a3))) (1 : Int))) + a2)) - a3), IntKind.wrap .i64 (iShr .u64 (IntKind.wrap .u64 (IntKind.wrap .i64 (a1 + a3))) (1 : Int))) h
        ) (
          K66 (a1, a2) h
        )
      )
    )
def slices_stableCmpFunc_api_Link (a0 : Sl) (a1 : Int) (a2_f : S_api_Link → S_api_Link → (Int → Hp → Prop) → Hp → Prop) (Q : Unit → Hp → Prop)  (h : Hp) : Prop :=
  LoopF (σ := Int × Int) (0, 20) h fun u1 h3 L2 =>
    If (decide (u1.2 ≤ a1)) (
      slices_insertionSortCmpFunc_api_Link a0 u1.1 u1.2 a2_f (fun r5 h6 =>
        L2 (u1.2, IntKind.wrap .i64 (u1.2 + (20 : Int))) h6
      ) h3
    ) (
      slices_insertionSortCmpFunc_api_Link a0 u1.1 a1 a2_f (fun r7 h8 =>
        LoopF (σ := Int) 20 h8 fun u9 h11 L10 =>
          If (decide (u9 < a1)) (
            LoopF (σ := Int × Int) (0, IntKind.wrap .i64 ((2 : Int) * u9)) h11 fun u13 h15 L14 =>
              If (decide (u13.2 ≤ a1)) (
                Rec fun k0 => slices_symMergeCmpFunc_api_Link k0 a0 u13.1 (IntKind.wrap .i64 (u13.1 + u9)) u13.2 a2_f (fun r17 h18 =>
                  L14 (u13.2, IntKind.wrap .i64 (u13.2 + (IntKind.wrap .i64 ((2 : Int) * u9)))) h18
                ) h15
              ) (
                J (fun (x19 : Unit) h21 =>
                    L10 (IntKind.wrap .i64 (u9 * (2 : Int))) h21
                ) fun K20 =>
                If (decide ((IntKind.wrap .i64 (u13.1 + u9)) < a1)) (
                  Rec fun k0 => slices_symMergeCmpFunc_api_Link k0 a0 u13.1 (IntKind.wrap .i64 (u13.1 + u9)) a1 a2_f (fun r22 h23 =>
                    K20 () h23
                  ) h15
                ) (
                  K20 () h15
                )
              )
          ) (
            Q () h11
          )
      ) h3
    )
def slices_SortStableFunc_api_Link_api_Link (a0 : Sl) (a1_f : S_api_Link → S_api_Link → (Int → Hp → Prop) → Hp → Prop) (Q : Unit → Hp → Prop)  (h : Hp) : Prop :=
  slices_stableCmpFunc_api_Link a0 (a0.len : Int) a1_f (fun r1 h2 =>
    Q () h2
  ) h
def join_merged_api_Link (a0 : Sl) (a1 : Sl) (a2_f : S_api_Link → S_api_Link → (Int → Hp → Prop) → Hp → Prop) (a3_f : S_api_Link → S_api_Link → (S_api_Link → Hp → Prop) → Hp → Prop) (Q : Sl → Hp → Prop)  (h : Hp) : Prop :=
  Al h [Sl.enc a0, Sl.enc a1] fun b1 h2 =>
  slices_Concat_api_Link_api_Link (Sl.mk (some b1) 2 2) (fun r3 h4 =>
    slices_SortStableFunc_api_Link_api_Link r3 a2_f (fun r5 h6 =>
      LoopF (σ := Sl × Int) (Sl.nil, 0) h6 fun u7 h9 L8 =>
        If (decide (u7.2 < (r3.len : Int))) (
          J (fun (x11 : Sl) h13 =>
              L8 (x11, IntKind.wrap .i64 (u7.2 + (1 : Int))) h13
          ) fun K12 =>
          Ix r3 u7.2 25 fun p14 =>
          LdA S_api_Link.cells h9 p14 fun v16 =>
          AlX h9 fun b18 h19 =>
          StX h19 b18 fun h20 =>
          J (fun (x21 : Bool) h23 =>
              If x21 (
                Ix u7.1 (IntKind.wrap .i64 ((u7.1.len : Int) - (1 : Int))) 25 fun p24 =>
                LdA S_api_Link.cells h23 p24 fun v26 =>
                a3_f v26 v16 (fun r28 h29 =>
                  Ix u7.1 (IntKind.wrap .i64 ((u7.1.len : Int) - (1 : Int))) 25 fun p30 =>
                  StA h29 p30 (S_api_Link.cells r28) fun h32 =>
                  K12 u7.1 h32
                ) h23
              ) (
                Al h23 (List.flatten [S_api_Link.cells v16]) fun b33 h34 =>
                AppS h34 u7.1 (Sl.mk (some b33) 1 1) 25 208 fun v35 h36 =>
                K12 v35 h36
              )
          ) fun K22 =>
          If (decide ((u7.1.len : Int) > (0 : Int))) (
            Ix u7.1 (IntKind.wrap .i64 ((u7.1.len : Int) - (1 : Int))) 25 fun p38 =>
            LdA S_api_Link.cells h20 p38 fun v40 =>
            a2_f v40 v16 (fun r42 h43 =>
              KpX h20 h43 [b18] <|
              K22 (r42 == (0 : Int)) h43
            ) h20
          ) (
            K22 false h20
          )
        ) (
          Q u7.1 h9
        )
    ) h4
  ) h2
def join_States_2 (a0 : S_api_Link) (a1 : S_api_Link) (Q : Int → Hp → Prop)  (h : Hp) : Prop :=
  AlX h fun b1 h2 =>
  AlX h2 fun b3 h4 =>
  join_stamps a0.Id a1.Id (fun r5 h6 =>
    Q r5 h6
  ) h4
def join_greater_api_Link (a0 : S_api_Link) (a1 : S_api_Link) (a2_f : S_api_Link → S_api_Link → (Int → Hp → Prop) → Hp → Prop) (Q : S_api_Link → Hp → Prop)  (h : Hp) : Prop :=
  AlX h fun b1 h2 =>
  AlX h2 fun b3 h4 =>
  AlX h4 fun b5 h6 =>
  a2_f a0 a1 (fun r7 h8 =>
    KpX h6 h8 [b5, b3, b1] <|
    If (decide (r7 < (0 : Int))) (
      StX h8 b5 fun h9 =>
      Q a1 h9
    ) (
      StX h8 b5 fun h10 =>
      Q a0 h10
    )
  ) h6
def join_places (a0 : S_api_Link) (a1 : S_api_Link) (Q : Int → Hp → Prop)  (h : Hp) : Prop :=
  AlX h fun b1 h2 =>
  AlX h2 fun b3 h4 =>
  join_stamps a0.At a1.At (fun r5 h6 =>
    KpX h4 h6 [b3, b1] <|
    join_stamps a0.Parent a1.Parent (fun r7 h8 =>
      KpX h6 h8 [b3, b1] <|
      cmp_Compare_string a0.Name a1.Name (fun r9 h10 =>
        Al h10 [.int .i64 r5, .int .i64 r7, .int .i64 r9] fun b11 h12 =>
        cmp_Or_int (Sl.mk (some b11) 3 3) (fun r13 h14 =>
          Q r13 h14
        ) h12
      ) h8
    ) h6
  ) h4
def join_greater_api_Stamp (a0 : S_api_Stamp) (a1 : S_api_Stamp) (a2_f : S_api_Stamp → S_api_Stamp → (Int → Hp → Prop) → Hp → Prop) (Q : S_api_Stamp → Hp → Prop)  (h : Hp) : Prop :=
  AlX h fun b1 h2 =>
  AlX h2 fun b3 h4 =>
  AlX h4 fun b5 h6 =>
  a2_f a0 a1 (fun r7 h8 =>
    KpX h6 h8 [b5, b3, b1] <|
    If (decide (r7 < (0 : Int))) (
      StX h8 b5 fun h9 =>
      Q a1 h9
    ) (
      StX h8 b5 fun h10 =>
      Q a0 h10
    )
  ) h6
def join_link (a0 : S_api_Link) (a1 : S_api_Link) (Q : S_api_Link → Hp → Prop)  (h : Hp) : Prop :=
  AlX h fun b1 h2 =>
  AlX h2 fun b3 h4 =>
  AlX h4 fun b5 h6 =>
  join_greater_api_Link a0 a1 (fun x0 x1 Q h => join_places x0 x1  Q h) (fun r7 h8 =>
    KpX h6 h8 [b5, b3, b1] <|
    AlX h8 fun b9 h10 =>
    StX h10 b9 fun h11 =>
    StX h11 b1 fun h12 =>
    StX h12 b1 fun h13 =>
    StX h13 b1 fun h14 =>
    join_greater_api_Stamp a0.Node a1.Node (fun x0 x1 Q h => join_stamps x0 x1  Q h) (fun r15 h16 =>
      KpX h14 h16 [b5, b3, b1] <|
      StX h16 b1 fun h17 =>
      vector_Join a0.Alive a1.Alive (fun r18 h19 =>
        KpX h17 h19 [b5, b3, b1] <|
        vector_Join a0.Dead a1.Dead (fun r20 h21 =>
          KpX h19 h21 [b5, b1] <|
          StX h21 b1 fun h22 =>
          StX h22 b1 fun h23 =>
          StX h23 b5 fun h24 =>
          Q (S_api_Link.mk a0.Id r15 r7.At r7.Parent r7.Name r18 r20) h24
        ) h19
      ) h17
    ) h14
  ) h6
def join_States (a0 : S_api_State) (a1 : S_api_State) (Q : S_api_State → Hp → Prop)  (h : Hp) : Prop :=
  AlX h fun b1 h2 =>
  AlX h2 fun b3 h4 =>
  AlX h4 fun b5 h6 =>
  vector_Join a0.Seen a1.Seen (fun r7 h8 =>
    KpX h6 h8 [b5, b3, b1] <|
    AlX h8 fun b9 h10 =>
    StX h10 b9 fun h11 =>
    join_merged_api_Inode a0.Nodes a1.Nodes (fun x0 x1 Q h => join_States_1 x0 x1  Q h) (fun x0 x1 Q h => join_inode x0 x1  Q h) (fun r12 h13 =>
      KpX h11 h13 [b9, b5, b3, b1] <|
      StX h13 b9 fun h14 =>
      join_merged_api_Link a0.Links a1.Links (fun x0 x1 Q h => join_States_2 x0 x1  Q h) (fun x0 x1 Q h => join_link x0 x1  Q h) (fun r15 h16 =>
        KpX h14 h16 [b9, b5] <|
        StX h16 b9 fun h17 =>
        LoopF (σ := Int) 0 h17 fun u18 h20 L19 =>
          If (decide (u18 < (r12.len : Int))) (
            Ix r12 u18 13 fun p22 =>
            LdA S_api_Inode.cells h20 p22 fun v24 =>
            AlX h20 fun b26 h27 =>
            StX h27 b26 fun h28 =>
            join_listed v24.Pieces (fun r29 h30 =>
              KpX h28 h30 [b26, b9, b5] <|
              join_named v24.Xattrs (fun r31 h32 =>
                KpX h30 h32 [b9, b5] <|
                Ix r12 u18 13 fun p33 =>
                St h32 (p33.add 11) (Sl.enc r29) fun h35 =>
                KpX h32 h35 [b9, b5] <|
                Ix r12 u18 13 fun p36 =>
                St h35 (p36.add 12) (Sl.enc r31) fun h38 =>
                KpX h35 h38 [b9, b5] <|
                L19 (IntKind.wrap .i64 (u18 + (1 : Int))) h38
              ) h30
            ) h28
          ) (
            StX h20 b5 fun h39 =>
            Q (S_api_State.mk ((S_api_State.mk r7 Sl.nil Sl.nil).Seen) r12 r15) h39
          )
      ) h14
    ) h11
  ) h6
def model_Fold (a0 : Sl) (Q : S_api_State → Hp → Prop)  (h : Hp) : Prop :=
  AlX h fun b1 h2 =>
  facts_Empty  (fun r3 h4 =>
    KpX h2 h4 [b1] <|
    AlX h4 fun b5 h6 =>
    StX h6 b5 fun h7 =>
    LoopF (σ := Int × S_api_State) (0, r3) h7 fun u8 h10 L9 =>
      If (decide (u8.1 < (a0.len : Int))) (
        Ix a0 u8.1 21 fun p12 =>
        LdA S_api_Event.cells h10 p12 fun v14 =>
        AlX h10 fun b16 h17 =>
        StX h17 b16 fun h18 =>
        join_States u8.2 v14.Delta (fun r19 h20 =>
          KpX h18 h20 [b5, b1] <|
          StX h20 b5 fun h21 =>
          L9 (IntKind.wrap .i64 (u8.1 + (1 : Int)), r19) h21
        ) h18
      ) (
        StX h10 b1 fun h22 =>
        Q u8.2 h22
      )
  ) h2
def slices_IndexFunc_api_Event_api_Event (a0 : Sl) (a1_f : S_api_Event → (Bool → Hp → Prop) → Hp → Prop) (Q : Int → Hp → Prop)  (h : Hp) : Prop :=
  LoopF (σ := Int) 0 h fun u1 h3 L2 =>
    If (decide (u1 < (a0.len : Int))) (
      Ix a0 u1 21 fun p5 =>
      LdA S_api_Event.cells h3 p5 fun v7 =>
      a1_f v7 (fun r9 h10 =>
        If r9 (
          Q u1 h10
        ) (
          L2 (IntKind.wrap .i64 (u1 + (1 : Int))) h10
        )
      ) h3
    ) (
      Q (-1) h3
    )
def slices_ContainsFunc_api_Event_api_Event (a0 : Sl) (a1_f : S_api_Event → (Bool → Hp → Prop) → Hp → Prop) (Q : Bool → Hp → Prop)  (h : Hp) : Prop :=
  slices_IndexFunc_api_Event_api_Event a0 a1_f (fun r1 h2 =>
    Q (decide (r1 ≥ (0 : Int))) h2
  ) h
def vector_Is (a0 : S_api_Stamp) (Q : Bool → Hp → Prop)  (h : Hp) : Prop :=
  AlX h fun b1 h2 =>
  J (fun (x3 : Bool) h5 =>
      Q x3 h5
  ) fun K4 =>
  If (decide (a0.Time ≥ (1 : Int))) (
    If (decide (a0.Time ≤ (1099511627776 : Int))) (
      If (decide (a0.Who ≥ (0 : Int))) (
        K4 (decide (a0.Who < (8 : Int))) h2
      ) (
        K4 false h2
      )
    ) (
      K4 false h2
    )
  ) (
    K4 false h2
  )
def vector_Has (a0 : A8 Int) (a1 : S_api_Stamp) (Q : Bool → Hp → Prop)  (h : Hp) : Prop :=
  AlX h fun b1 h2 =>
  AlX h2 fun b3 h4 =>
  J (fun (x5 : Bool) h7 =>
      Q x5 h7
  ) fun K6 =>
  vector_Is a1 (fun r8 h9 =>
    KpX h4 h9 [b3, b1] <|
    If r8 (
      Ob (0 ≤ a1.Who ∧ a1.Who < 8) <|
      K6 (decide ((A8.at_ a0 a1.Who) ≥ a1.Time)) h9
    ) (
      K6 false h9
    )
  ) h4
def model_Before (a0 : S_api_Event) (a1 : S_api_Event) (Q : Bool → Hp → Prop)  (h : Hp) : Prop :=
  AlX h fun b1 h2 =>
  AlX h2 fun b3 h4 =>
  vector_Has a1.Knew a0.At (fun r5 h6 =>
    Q r5 h6
  ) h4
def model_Last_1 (a0 : S_api_Event) (c0 : Addr) (Q : Bool → Hp → Prop)  (h : Hp) : Prop :=
  AlX h fun b1 h2 =>
  J (fun (x3 : Bool) h5 =>
      Q x3 h5
  ) fun K4 =>
  LdA S_api_Stamp.cells h2 (c0.add 0) fun v6 =>
  If (!S_api_Stamp.eqb a0.At v6) (
    LdA S_api_Event.cells h2 c0 fun v9 =>
    model_Before a0 v9 (fun r11 h12 =>
      K4 (!r11) h12
    ) h2
  ) (
    K4 false h2
  )
def model_Last (a0 : Sl) (Q : (S_api_Event × Bool) → Hp → Prop)  (h : Hp) : Prop :=
  AlX h fun b1 h2 =>
  LoopF (σ := Int × S_api_Event) (0, (S_api_Event.mk (S_api_Stamp.mk 0 0) 0 (A8.mk 0 0 0 0 0 0 0 0) (S_api_State.mk (A8.mk 0 0 0 0 0 0 0 0) Sl.nil Sl.nil))) h2 fun u3 h5 L4 =>
    If (decide (u3.1 < (a0.len : Int))) (
      Ix a0 u3.1 21 fun p7 =>
      LdA S_api_Event.cells h5 p7 fun v9 =>
      Al h5 (S_api_Event.cells (S_api_Event.mk (S_api_Stamp.mk 0 0) 0 (A8.mk 0 0 0 0 0 0 0 0) (S_api_State.mk (A8.mk 0 0 0 0 0 0 0 0) Sl.nil Sl.nil))) fun b11 h12 =>
      KpX h5 h12 [b1] <|
      StA h12 b11 (S_api_Event.cells v9) fun h13 =>
      KpX h12 h13 [b1] <|
      slices_ContainsFunc_api_Event_api_Event a0 (fun x0 Q h => model_Last_1 x0 b11 Q h) (fun r14 h15 =>
        KpX h13 h15 [b1] <|
        If (!r14) (
          LdA S_api_Event.cells h15 b11 fun v16 =>
          StX h15 b1 fun h18 =>
          Q (v16, true) h18
        ) (
          L4 (IntKind.wrap .i64 (u3.1 + (1 : Int)), u3.2) h15
        )
      ) h13
    ) (
      StX h5 b1 fun h19 =>
      Q ((S_api_Event.mk (S_api_Stamp.mk 0 0) 0 (A8.mk 0 0 0 0 0 0 0 0) (S_api_State.mk (A8.mk 0 0 0 0 0 0 0 0) Sl.nil Sl.nil)), false) h19
    )
def slices_Equal_api_Link_api_Link (a0 : Sl) (a1 : Sl) (Q : Bool → Hp → Prop)  (h : Hp) : Prop :=
  If ((a0.len : Int) != (a1.len : Int)) (
    Q false h
  ) (
    LoopF (σ := Int) 0 h fun u1 h3 L2 =>
      If (decide (u1 < (a0.len : Int))) (
        Ix a0 u1 25 fun p5 =>
        LdA S_api_Link.cells h3 p5 fun v7 =>
        Ix a1 u1 25 fun p9 =>
        LdA S_api_Link.cells h3 p9 fun v11 =>
        If (!S_api_Link.eqb v7 v11) (
          Q false h3
        ) (
          L2 (IntKind.wrap .i64 (u1 + (1 : Int))) h3
        )
      ) (
        Q true h3
      )
  )
def slices_EqualFunc_api_Inode_api_Inode_api_Inode_api_Inode (a0 : Sl) (a1 : Sl) (a2_f : S_api_Inode → S_api_Inode → (Bool → Hp → Prop) → Hp → Prop) (Q : Bool → Hp → Prop)  (h : Hp) : Prop :=
  If ((a0.len : Int) != (a1.len : Int)) (
    Q false h
  ) (
    LoopF (σ := Int) 0 h fun u1 h3 L2 =>
      If (decide (u1 < (a0.len : Int))) (
        Ix a0 u1 13 fun p5 =>
        LdA S_api_Inode.cells h3 p5 fun v7 =>
        AlX h3 fun b9 h10 =>
        StX h10 b9 fun h11 =>
        Ix a1 u1 13 fun p12 =>
        LdA S_api_Inode.cells h11 p12 fun v14 =>
        AlX h11 fun b16 h17 =>
        StX h17 b16 fun h18 =>
        a2_f v7 v14 (fun r19 h20 =>
          If (!r19) (
            Q false h20
          ) (
            L2 (IntKind.wrap .i64 (u1 + (1 : Int))) h20
          )
        ) h18
      ) (
        Q true h3
      )
  )
def slices_Equal_api_Piece_api_Piece (a0 : Sl) (a1 : Sl) (Q : Bool → Hp → Prop)  (h : Hp) : Prop :=
  If ((a0.len : Int) != (a1.len : Int)) (
    Q false h
  ) (
    LoopF (σ := Int) 0 h fun u1 h3 L2 =>
      If (decide (u1 < (a0.len : Int))) (
        Ix a0 u1 4 fun p5 =>
        LdA S_api_Piece.cells h3 p5 fun v7 =>
        Ix a1 u1 4 fun p9 =>
        LdA S_api_Piece.cells h3 p9 fun v11 =>
        If (!S_api_Piece.eqb v7 v11) (
          Q false h3
        ) (
          L2 (IntKind.wrap .i64 (u1 + (1 : Int))) h3
        )
      ) (
        Q true h3
      )
  )
def slices_Equal_api_Xattr_api_Xattr (a0 : Sl) (a1 : Sl) (Q : Bool → Hp → Prop)  (h : Hp) : Prop :=
  If ((a0.len : Int) != (a1.len : Int)) (
    Q false h
  ) (
    LoopF (σ := Int) 0 h fun u1 h3 L2 =>
      If (decide (u1 < (a0.len : Int))) (
        Ix a0 u1 5 fun p5 =>
        LdA S_api_Xattr.cells h3 p5 fun v7 =>
        Ix a1 u1 5 fun p9 =>
        LdA S_api_Xattr.cells h3 p9 fun v11 =>
        If (!S_api_Xattr.eqb v7 v11) (
          Q false h3
        ) (
          L2 (IntKind.wrap .i64 (u1 + (1 : Int))) h3
        )
      ) (
        Q true h3
      )
  )
def facts_Same_1 (a0 : S_api_Inode) (a1 : S_api_Inode) (Q : Bool → Hp → Prop)  (h : Hp) : Prop :=
  AlX h fun b1 h2 =>
  AlX h2 fun b3 h4 =>
  J (fun (x5 : Bool) h7 =>
      Q x5 h7
  ) fun K6 =>
  If (S_api_Stamp.eqb a0.Id a1.Id) (
    If (a0.Kind == a1.Kind) (
      If (a0.Text == a1.Text) (
        If (S_api_Attr.eqb a0.Attr a1.Attr) (
          If (S_api_Size.eqb a0.Size a1.Size) (
            slices_Equal_api_Piece_api_Piece a0.Pieces a1.Pieces (fun r13 h14 =>
              KpX h4 h14 [b3, b1] <|
              If r13 (
                slices_Equal_api_Xattr_api_Xattr a0.Xattrs a1.Xattrs (fun r16 h17 =>
                  K6 r16 h17
                ) h14
              ) (
                K6 false h14
              )
            ) h4
          ) (
            K6 false h4
          )
        ) (
          K6 false h4
        )
      ) (
        K6 false h4
      )
    ) (
      K6 false h4
    )
  ) (
    K6 false h4
  )
def facts_Same (a0 : S_api_State) (a1 : S_api_State) (Q : Bool → Hp → Prop)  (h : Hp) : Prop :=
  AlX h fun b1 h2 =>
  AlX h2 fun b3 h4 =>
  J (fun (x5 : Bool) h7 =>
      Q x5 h7
  ) fun K6 =>
  If (A8.eqb a0.Seen a1.Seen) (
    slices_Equal_api_Link_api_Link a0.Links a1.Links (fun r9 h10 =>
      KpX h4 h10 [b3, b1] <|
      If r9 (
        slices_EqualFunc_api_Inode_api_Inode_api_Inode_api_Inode a0.Nodes a1.Nodes (fun x0 x1 Q h => facts_Same_1 x0 x1  Q h) (fun r12 h13 =>
          K6 r12 h13
        ) h10
      ) (
        K6 false h10
      )
    ) h4
  ) (
    K6 false h4
  )
def crannoglaw22_awake  (Q : Bool → Hp → Prop)  (h : Hp) : Prop :=
  AlX h fun b1 h2 =>
  StX h2 b1 fun h3 =>
  AlX h3 fun b4 h5 =>
  StX h5 b4 fun h6 =>
  Al h6 (List.flatten [S_api_Event.cells (S_api_Event.mk (S_api_Stamp.mk 1 0) 0 (A8.mk 0 0 0 0 0 0 0 0) (S_api_State.mk (A8.mk 0 0 0 0 0 0 0 0) Sl.nil Sl.nil)), S_api_Event.cells (S_api_Event.mk (S_api_Stamp.mk 2 1) 0 (A8.mk 1 0 0 0 0 0 0 0) (S_api_State.mk (A8.mk 0 0 0 0 0 0 0 0) Sl.nil Sl.nil))]) fun b7 h8 =>
  KpX h6 h8 [b4, b1] <|
  model_Last (Sl.mk (some b7) 2 2) (fun r9 h10 =>
    KpX h8 h10 [b4, b1] <|
    AlX h10 fun b11 h12 =>
    StX h12 b11 fun h13 =>
    J (fun (x14 : Bool) h16 =>
        Q x14 h16
    ) fun K15 =>
    model_Fold Sl.nil (fun r17 h18 =>
      KpX h13 h18 [b11, b4, b1] <|
      facts_Empty  (fun r19 h20 =>
        KpX h18 h20 [b11, b4, b1] <|
        facts_Same r17 r19 (fun r21 h22 =>
          KpX h20 h22 [b11, b4, b1] <|
          If r21 (
            model_Before (S_api_Event.mk (S_api_Stamp.mk 1 0) 0 (A8.mk 0 0 0 0 0 0 0 0) (S_api_State.mk (A8.mk 0 0 0 0 0 0 0 0) Sl.nil Sl.nil)) (S_api_Event.mk (S_api_Stamp.mk 2 1) 0 (A8.mk 1 0 0 0 0 0 0 0) (S_api_State.mk (A8.mk 0 0 0 0 0 0 0 0) Sl.nil Sl.nil)) (fun r24 h25 =>
              KpX h22 h25 [b11, b4, b1] <|
              If r24 (
                model_Before (S_api_Event.mk (S_api_Stamp.mk 2 1) 0 (A8.mk 1 0 0 0 0 0 0 0) (S_api_State.mk (A8.mk 0 0 0 0 0 0 0 0) Sl.nil Sl.nil)) (S_api_Event.mk (S_api_Stamp.mk 1 0) 0 (A8.mk 0 0 0 0 0 0 0 0) (S_api_State.mk (A8.mk 0 0 0 0 0 0 0 0) Sl.nil Sl.nil)) (fun r27 h28 =>
                  KpX h25 h28 [b11, b4] <|
                  If (!r27) (
                    If r9.2 (
                      K15 (S_api_Stamp.eqb r9.1.At ((S_api_Event.mk (S_api_Stamp.mk 2 1) 0 (A8.mk 1 0 0 0 0 0 0 0) (S_api_State.mk (A8.mk 0 0 0 0 0 0 0 0) Sl.nil Sl.nil)).At)) h28
                    ) (
                      K15 false h28
                    )
                  ) (
                    K15 false h28
                  )
                ) h25
              ) (
                K15 false h25
              )
            ) h22
          ) (
            K15 false h22
          )
        ) h20
      ) h18
    ) h13
  ) h8
def crannogref10_SameNode (a0 : S_api_Inode) (a1 : S_api_Inode) (Q : Bool → Hp → Prop)  (h : Hp) : Prop :=
  AlX h fun b1 h2 =>
  AlX h2 fun b3 h4 =>
  J (fun (x5 : Bool) h7 =>
      If x5 (
        Q false h7
      ) (
        LoopF (σ := Int) 0 h7 fun u8 h10 L9 =>
          If (decide (u8 < (a0.Pieces.len : Int))) (
            Ix a0.Pieces u8 4 fun p12 =>
            LdA S_api_Piece.cells h10 p12 fun v14 =>
            Ix a1.Pieces u8 4 fun p16 =>
            LdA S_api_Piece.cells h10 p16 fun v18 =>
            If (!S_api_Piece.eqb v14 v18) (
              Q false h10
            ) (
              L9 (IntKind.wrap .i64 (u8 + (1 : Int))) h10
            )
          ) (
            LoopF (σ := Int) 0 h10 fun u20 h22 L21 =>
              If (decide (u20 < (a0.Xattrs.len : Int))) (
                Ix a0.Xattrs u20 5 fun p24 =>
                LdA S_api_Xattr.cells h22 p24 fun v26 =>
                Ix a1.Xattrs u20 5 fun p28 =>
                LdA S_api_Xattr.cells h22 p28 fun v30 =>
                If (!S_api_Xattr.eqb v26 v30) (
                  Q false h22
                ) (
                  L21 (IntKind.wrap .i64 (u20 + (1 : Int))) h22
                )
              ) (
                Q true h22
              )
          )
      )
  ) fun K6 =>
  If (!S_api_Stamp.eqb a0.Id a1.Id) (
    K6 true h4
  ) (
    If (a0.Kind != a1.Kind) (
      K6 true h4
    ) (
      If (a0.Text != a1.Text) (
        K6 true h4
      ) (
        If (!S_api_Attr.eqb a0.Attr a1.Attr) (
          K6 true h4
        ) (
          If (!S_api_Size.eqb a0.Size a1.Size) (
            K6 true h4
          ) (
            If ((a0.Pieces.len : Int) != (a1.Pieces.len : Int)) (
              K6 true h4
            ) (
              K6 ((a0.Xattrs.len : Int) != (a1.Xattrs.len : Int)) h4
            )
          )
        )
      )
    )
  )
def crannogref10_Same (a0 : S_api_State) (a1 : S_api_State) (Q : Bool → Hp → Prop)  (h : Hp) : Prop :=
  AlX h fun b1 h2 =>
  AlX h2 fun b3 h4 =>
  J (fun (x5 : Bool) h7 =>
      If x5 (
        Q false h7
      ) (
        LoopF (σ := Int) 0 h7 fun u8 h10 L9 =>
          If (decide (u8 < (a0.Nodes.len : Int))) (
            Ix a0.Nodes u8 13 fun p12 =>
            LdA S_api_Inode.cells h10 p12 fun v14 =>
            Ix a1.Nodes u8 13 fun p16 =>
            LdA S_api_Inode.cells h10 p16 fun v18 =>
            crannogref10_SameNode v14 v18 (fun r20 h21 =>
              KpX h10 h21 [b3, b1] <|
              If (!r20) (
                Q false h21
              ) (
                L9 (IntKind.wrap .i64 (u8 + (1 : Int))) h21
              )
            ) h10
          ) (
            LoopF (σ := Int) 0 h10 fun u22 h24 L23 =>
              If (decide (u22 < (a0.Links.len : Int))) (
                Ix a0.Links u22 25 fun p26 =>
                LdA S_api_Link.cells h24 p26 fun v28 =>
                Ix a1.Links u22 25 fun p30 =>
                LdA S_api_Link.cells h24 p30 fun v32 =>
                If (!S_api_Link.eqb v28 v32) (
                  Q false h24
                ) (
                  L23 (IntKind.wrap .i64 (u22 + (1 : Int))) h24
                )
              ) (
                Q true h24
              )
          )
      )
  ) fun K6 =>
  If (!A8.eqb a0.Seen a1.Seen) (
    K6 true h4
  ) (
    If ((a0.Nodes.len : Int) != (a1.Nodes.len : Int)) (
      K6 true h4
    ) (
      K6 ((a0.Links.len : Int) != (a1.Links.len : Int)) h4
    )
  )
def crannoglaw22_ModelOrder (a0 : Sl) (a1 : Sl) (Q : Bool → Hp → Prop)  (h : Hp) : Prop :=
  J (fun (x1 : Bool) h3 =>
      If x1 (
        crannoglaw22_awake  (fun r4 h5 =>
          Q r4 h5
        ) h3
      ) (
        LoopF (σ := Sl × Int) (Sl.nil, 0) h3 fun u6 h8 L7 =>
          If (decide (u6.2 < (a1.len : Int))) (
            J (fun (x10 : Sl) h12 =>
                L7 (x10, IntKind.wrap .i64 (u6.2 + (1 : Int))) h12
            ) fun K11 =>
            Ix a1 u6.2 1 fun p13 =>
            Ld (Value.int .i64) h8 p13 fun v15 =>
            If (decide ((a0.len : Int) > (0 : Int))) (
              Ob ((IntKind.wrap .u64 (a0.len : Int)) ≠ 0) <|
              Ix a0 (IntKind.wrap .i64 (Int.tmod (IntKind.wrap .u64 v15) (IntKind.wrap .u64 (a0.len : Int)))) 21 fun p18 =>
              LdA S_api_Event.cells h8 p18 fun v20 =>
              Al h8 (List.flatten [S_api_Event.cells v20]) fun b22 h23 =>
              AppS h23 u6.1 (Sl.mk (some b22) 1 1) 21 200 fun v24 h25 =>
              K11 v24 h25
            ) (
              K11 u6.1 h8
            )
          ) (
            Al h8 [Sl.enc u6.1] fun b26 h27 =>
            crannoglaw22_small (Sl.mk (some b26) 1 1) (fun r28 h29 =>
              If (!r28) (
                crannoglaw22_awake  (fun r30 h31 =>
                  Q r30 h31
                ) h29
              ) (
                LoopF (σ := Sl × Int) (u6.1, IntKind.wrap .i64 ((a0.len : Int) - (1 : Int))) h29 fun u32 h34 L33 =>
                  If (decide (u32.2 ≥ (0 : Int))) (
                    Ix a0 u32.2 21 fun p36 =>
                    LdA S_api_Event.cells h34 p36 fun v38 =>
                    Al h34 (List.flatten [S_api_Event.cells v38]) fun b40 h41 =>
                    AppS h41 u32.1 (Sl.mk (some b40) 1 1) 21 200 fun v42 h43 =>
                    L33 (v42, IntKind.wrap .i64 (u32.2 - (1 : Int))) h43
                  ) (
                    J (fun (x44 : Bool) h46 =>
                        Q x44 h46
                    ) fun K45 =>
                    model_Fold u32.1 (fun r47 h48 =>
                      model_Fold a0 (fun r49 h50 =>
                        crannogref10_Same r47 r49 (fun r51 h52 =>
                          If r51 (
                            crannoglaw22_awake  (fun r54 h55 =>
                              K45 r54 h55
                            ) h52
                          ) (
                            K45 false h52
                          )
                        ) h50
                      ) h48
                    ) h34
                  )
              )
            ) h27
          )
      )
  ) fun K2 =>
  Al h [Sl.enc a0] fun b56 h57 =>
  crannoglaw22_small (Sl.mk (some b56) 1 1) (fun r58 h59 =>
    If (!r58) (
      K2 true h59
    ) (
      K2 (decide ((a1.len : Int) > (100 : Int))) h59
    )
  ) h57
end Go.Crn
