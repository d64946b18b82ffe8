/- The normal forms of functions of the layer, printed by a program of this work. -/
import Derived.Test.YtodhphapbemjmaaDoorPartRx1
import Derived.Shelf.Strings.Builder1
import Derived.Shelf.Strings.Builder2
import Derived.Shelf.Strings.OnBuilder
import Derived.Shelf.Small.Strs
import Derived.Shelf.Strconv.Itoa0
import Derived.Shelf.Strconv.Itoa1
import Derived.Shelf.LaysM
import Derived.Shelf.Strconv.Itoa2
import Derived.Shelf.Strconv.Itoa3
import Derived.Shelf.Strings.Search1
import Derived.Test.YtodhphapbemjmaaDoorProg
namespace Go.Ab
open Go.Proofs
/-! codesearch/regex.class -/
theorem class_e (G : Req → R) (c0 : Int) : runB (cfg [k_IndexByte]) G (.enter 83 [(.lf (.int IntKind.u8 (c0)))] []) =
  (cond (ltI c0 32)
   (some [(.int IntKind.i64 (2))])
   (cond (ltI 126 c0)
    (some [(.int IntKind.i64 (2))])
    (cond (leI 0 (Lib.indexByte (bl (mk [92, 46, 42, 43, 63, 40, 41, 91, 93, 123, 125, 124, 94, 36])) (u8 c0)))
     (some [(.int IntKind.i64 (1))])
     (some [(.int IntKind.i64 (0))])))) := by kernel_rfl

/-! codesearch/regex.visible -/
theorem visible_e (G : Req → R) (c0 : Int) : runB (cfg [k_class]) G (.enter 65 [(.lf (.int IntKind.u8 (c0)))] []) =
  (cond (okB c0)
   (cond (classB (u8 c0) != 2)
    (some [(.bool (true))])
    (cond (c0 == 9)
     (some [(.bool (true))])
     (some [(.bool (c0 == 10))])))
   none) := by kernel_rfl

/-! codesearch/regex.written -/
theorem written_e (G : Req → R) (c0 : Int) (marks1 : ByteArray) : runB (cfg [k_IndexByte]) G (.enter 66 [(.lf (.int IntKind.u8 (c0))), (.lf (.str (marks1)))] []) =
  (cond (c0 == 9)
   (some [(.str (mk [92, 116]))])
   (cond (c0 == 10)
    (some [(.str (mk [92, 110]))])
    (cond (leI 0 (Lib.indexByte (bl marks1) (u8 c0)))
     (some [(.str (mk [92] ++ ByteArray.mk (List.toArray (List.map (fun c => UInt8.ofNat (Int.toNat (cI 0 c))) [[L.int IntKind.u8 c0]]))))])
     (some [(.str (ByteArray.mk (List.toArray (List.map (fun c => UInt8.ofNat (Int.toNat (cI 0 c))) [[L.int IntKind.u8 c0]]))))])))) := by kernel_rfl

/-! codesearch/regex.inside -/
noncomputable def inside_q3 (l0 : List (List L)) (s4 : ByteArray) (x7 : List (List L)) (x8 : Int) (x9 : Int) : Req := .point 68 [] (todoAt Tryd.prog 68 3) ⟨[(.lf (.lst 48 l0)), an, an, an, (.lf (.str s4)), an, an, (.lf (.lst 48 x7)), (.lf (.int IntKind.i64 x8)), (.lf (.int IntKind.i64 x9)), an, an, an, an, an, an, an, an, an, an, an, an, an, an, an, an, an, an, an, an, an, an, an, an, an, an, an, an, an, an, an, an, an, an], []⟩
theorem inside_e (G : Req → R) (l0 : List (List L)) : runB (cfg [k_visible, k_written]) G (.enter 68 [(.lf (.lst 48 l0))] []) =
  (G (inside_q3 l0 (mk []) l0 ((↑(List.length l0) : Int)) 0)) := by kernel_rfl
theorem inside_p3 (G : Req → R) (l0 : List (List L)) (s4 : ByteArray) (x7 : List (List L)) (x8 : Int) (x9 : Int) : runB (cfg [k_visible, k_written]) G (inside_q3 l0 s4 x7 x8 x9) =
  (cond (ltI x9 x8)
   (cond (leI 0 x9 && ltI x9 (↑(List.length x7) : Int))
    (cond (okB (cI 0 (atL x7 x9)))
     (cond (!visB (u8 (cI 0 (atL x7 x9))))
      (some [(.str (mk [])), (.bool (false))])
      (cond (okB (cI 1 (atL x7 x9)))
       (cond (!visB (u8 (cI 1 (atL x7 x9))))
        (some [(.str (mk [])), (.bool (false))])
        (cond (okB (cI 0 (atL x7 x9)))
         (cond (leI (↑(ByteArray.size s4 + ByteArray.size (mk (wrB (u8 (cI 0 (atL x7 x9))) (bl (mk [92, 91, 93, 94, 45]))))) : Int) (IntKind.max IntKind.i64))
          (cond (ltI (cI 0 (atL x7 x9)) (cI 1 (atL x7 x9)))
           (cond (okB (cI 1 (atL x7 x9)))
            (cond (leI (↑(1 + ByteArray.size (mk (wrB (u8 (cI 1 (atL x7 x9))) (bl (mk [92, 91, 93, 94, 45]))))) : Int) (IntKind.max IntKind.i64))
             (cond (leI (↑(ByteArray.size (s4 ++ mk (wrB (u8 (cI 0 (atL x7 x9))) (bl (mk [92, 91, 93, 94, 45])))) + ByteArray.size (mk [45] ++ mk (wrB (u8 (cI 1 (atL x7 x9))) (bl (mk [92, 91, 93, 94, 45]))))) : Int) (IntKind.max IntKind.i64))
              (G (inside_q3 l0 (s4 ++ mk (wrB (u8 (cI 0 (atL x7 x9))) (bl (mk [92, 91, 93, 94, 45]))) ++ (mk [45] ++ mk (wrB (u8 (cI 1 (atL x7 x9))) (bl (mk [92, 91, 93, 94, 45]))))) x7 x8 (wrapI IntKind.i64 (x9 + 1))))
              none)
             none)
            none)
           (G (inside_q3 l0 (s4 ++ mk (wrB (u8 (cI 0 (atL x7 x9))) (bl (mk [92, 91, 93, 94, 45])))) x7 x8 (wrapI IntKind.i64 (x9 + 1)))))
          none)
         none))
       none))
     none)
    none)
   (some [(.str (s4)), (.bool (ltI 0 (↑(List.length l0) : Int)))])) := by kernel_rfl

/-! (codesearch/regex.bytes).invert -/
noncomputable def invert_q2 (x4 : Int) (h0 : Nat → Bool) (h1 : Nat → Bool) : Req := .point 67 [] (todoAt Tryd.prog 67 2) ⟨[an, (.lf (.ptr 0 0)), (.lf (.ptr 1 0)), an, (.lf (.int IntKind.i64 x4)), an, an, an, an, an, an, an, an, an, an], [(.box (List.replicate 256 .bool) (arrB h0 256)), (.box (List.replicate 256 .bool) (arrB h1 256))]⟩
theorem invert_e (G : Req → R) (f : Nat → Bool) : runB (cfg []) G (.enter 67 [(.agg (arrB (fun j => f j) 256))] []) =
  (G (invert_q2 0 (fun j => f j) (fun j => false))) := by kernel_rfl
theorem invert_p2 (G : Req → R) (x4 : Int) (h0 : Nat → Bool) (h1 : Nat → Bool) : runB (cfg []) G (invert_q2 x4 h0 h1) =
  (cond (ltI x4 256)
   (cond (leI 0 x4 && ltI x4 (↑256 : Int))
    (cond (leI 0 x4 && ltI x4 (↑256 : Int))
     (G (invert_q2 (wrapI IntKind.i64 (x4 + 1)) (fun j => bif Nat.beq j (Int.toNat x4) then !L.toBool (arrGet (fun j => h0 j) 256 (0 + Int.toNat x4)) else h0 j) (fun j => h1 j)))
     none)
    none)
   (some (arrB (fun j => h0 j) 256))) := by kernel_rfl

/-! codesearch/regex.bounds -/
theorem bounds_e (G : Req → R) (re0_0 : Int) (re0_1 : List (List L)) (re0_2 : Int) (re0_3 : Int) (re0_4 : List (List L)) : runB (cfg [k_Itoa]) G (.enter 56 [(.agg [(.int IntKind.i64 (re0_0)), (.lst 48 re0_1), (.int IntKind.i64 (re0_2)), (.int IntKind.i64 (re0_3)), (.lst 25 re0_4)])] []) =
  (cond (re0_2 == 0)
   (cond (re0_3 == -1)
    (some [(.str (mk [42]))])
    (cond (re0_2 == 1)
     (cond (re0_3 == -1)
      (some [(.str (mk [43]))])
      (cond (re0_2 == 0)
       (cond (re0_3 == 1)
        (some [(.str (mk [63]))])
        (cond (re0_2 == re0_3)
         (cond (leI 0 re0_2 && leI re0_2 99)
          (cond (leI (↑(1 + ByteArray.size (mk (decN re0_2))) : Int) (IntKind.max IntKind.i64))
           (cond (leI (↑(ByteArray.size (mk [123] ++ mk (decN re0_2)) + 1) : Int) (IntKind.max IntKind.i64))
            (some [(.str (mk [123] ++ mk (decN re0_2) ++ mk [125]))])
            none)
           none)
          none)
         (cond (re0_3 == -1)
          (cond (leI 0 re0_2 && leI re0_2 99)
           (cond (leI (↑(1 + ByteArray.size (mk (decN re0_2))) : Int) (IntKind.max IntKind.i64))
            (cond (leI (↑(ByteArray.size (mk [123] ++ mk (decN re0_2)) + 2) : Int) (IntKind.max IntKind.i64))
             (some [(.str (mk [123] ++ mk (decN re0_2) ++ mk [44, 125]))])
             none)
            none)
           none)
          (dupN 1
           (cond (leI 0 re0_2 && leI re0_2 99)
            (cond (leI (↑(1 + ByteArray.size (mk (decN re0_2))) : Int) (IntKind.max IntKind.i64))
             (cond (leI (↑(ByteArray.size (mk [123] ++ mk (decN re0_2)) + 1) : Int) (IntKind.max IntKind.i64))
              (cond (leI 0 re0_3 && leI re0_3 99)
               (cond (leI (↑(ByteArray.size (mk [123] ++ mk (decN re0_2) ++ mk [44]) + ByteArray.size (mk (decN re0_3))) : Int) (IntKind.max IntKind.i64))
                (cond (leI (↑(ByteArray.size (mk [123] ++ mk (decN re0_2) ++ mk [44] ++ mk (decN re0_3)) + 1) : Int) (IntKind.max IntKind.i64))
                 (some [(.str (mk [123] ++ mk (decN re0_2) ++ mk [44] ++ mk (decN re0_3) ++ mk [125]))])
                 none)
                none)
               none)
              none)
             none)
            none)))))
       (cond (re0_2 == re0_3)
        (cond (leI 0 re0_2 && leI re0_2 99)
         (cond (leI (↑(1 + ByteArray.size (mk (decN re0_2))) : Int) (IntKind.max IntKind.i64))
          (cond (leI (↑(ByteArray.size (mk [123] ++ mk (decN re0_2)) + 1) : Int) (IntKind.max IntKind.i64))
           (some [(.str (mk [123] ++ mk (decN re0_2) ++ mk [125]))])
           none)
          none)
         none)
        (cond (re0_3 == -1)
         (cond (leI 0 re0_2 && leI re0_2 99)
          (cond (leI (↑(1 + ByteArray.size (mk (decN re0_2))) : Int) (IntKind.max IntKind.i64))
           (cond (leI (↑(ByteArray.size (mk [123] ++ mk (decN re0_2)) + 2) : Int) (IntKind.max IntKind.i64))
            (some [(.str (mk [123] ++ mk (decN re0_2) ++ mk [44, 125]))])
            none)
           none)
          none)
         (dupN 1
          (cond (leI 0 re0_2 && leI re0_2 99)
           (cond (leI (↑(1 + ByteArray.size (mk (decN re0_2))) : Int) (IntKind.max IntKind.i64))
            (cond (leI (↑(ByteArray.size (mk [123] ++ mk (decN re0_2)) + 1) : Int) (IntKind.max IntKind.i64))
             (cond (leI 0 re0_3 && leI re0_3 99)
              (cond (leI (↑(ByteArray.size (mk [123] ++ mk (decN re0_2) ++ mk [44]) + ByteArray.size (mk (decN re0_3))) : Int) (IntKind.max IntKind.i64))
               (cond (leI (↑(ByteArray.size (mk [123] ++ mk (decN re0_2) ++ mk [44] ++ mk (decN re0_3)) + 1) : Int) (IntKind.max IntKind.i64))
                (some [(.str (mk [123] ++ mk (decN re0_2) ++ mk [44] ++ mk (decN re0_3) ++ mk [125]))])
                none)
               none)
              none)
             none)
            none)
           none))))))
     (cond (re0_2 == 0)
      (cond (re0_3 == 1)
       (some [(.str (mk [63]))])
       (cond (re0_2 == re0_3)
        (cond (leI 0 re0_2 && leI re0_2 99)
         (cond (leI (↑(1 + ByteArray.size (mk (decN re0_2))) : Int) (IntKind.max IntKind.i64))
          (cond (leI (↑(ByteArray.size (mk [123] ++ mk (decN re0_2)) + 1) : Int) (IntKind.max IntKind.i64))
           (some [(.str (mk [123] ++ mk (decN re0_2) ++ mk [125]))])
           none)
          none)
         none)
        (cond (re0_3 == -1)
         (cond (leI 0 re0_2 && leI re0_2 99)
          (cond (leI (↑(1 + ByteArray.size (mk (decN re0_2))) : Int) (IntKind.max IntKind.i64))
           (cond (leI (↑(ByteArray.size (mk [123] ++ mk (decN re0_2)) + 2) : Int) (IntKind.max IntKind.i64))
            (some [(.str (mk [123] ++ mk (decN re0_2) ++ mk [44, 125]))])
            none)
           none)
          none)
         (dupN 1
          (cond (leI 0 re0_2 && leI re0_2 99)
           (cond (leI (↑(1 + ByteArray.size (mk (decN re0_2))) : Int) (IntKind.max IntKind.i64))
            (cond (leI (↑(ByteArray.size (mk [123] ++ mk (decN re0_2)) + 1) : Int) (IntKind.max IntKind.i64))
             (cond (leI 0 re0_3 && leI re0_3 99)
              (cond (leI (↑(ByteArray.size (mk [123] ++ mk (decN re0_2) ++ mk [44]) + ByteArray.size (mk (decN re0_3))) : Int) (IntKind.max IntKind.i64))
               (cond (leI (↑(ByteArray.size (mk [123] ++ mk (decN re0_2) ++ mk [44] ++ mk (decN re0_3)) + 1) : Int) (IntKind.max IntKind.i64))
                (some [(.str (mk [123] ++ mk (decN re0_2) ++ mk [44] ++ mk (decN re0_3) ++ mk [125]))])
                none)
               none)
              none)
             none)
            none)
           none)))))
      (cond (re0_2 == re0_3)
       (cond (leI 0 re0_2 && leI re0_2 99)
        (cond (leI (↑(1 + ByteArray.size (mk (decN re0_2))) : Int) (IntKind.max IntKind.i64))
         (cond (leI (↑(ByteArray.size (mk [123] ++ mk (decN re0_2)) + 1) : Int) (IntKind.max IntKind.i64))
          (some [(.str (mk [123] ++ mk (decN re0_2) ++ mk [125]))])
          none)
         none)
        none)
       (cond (re0_3 == -1)
        (cond (leI 0 re0_2 && leI re0_2 99)
         (cond (leI (↑(1 + ByteArray.size (mk (decN re0_2))) : Int) (IntKind.max IntKind.i64))
          (cond (leI (↑(ByteArray.size (mk [123] ++ mk (decN re0_2)) + 2) : Int) (IntKind.max IntKind.i64))
           (some [(.str (mk [123] ++ mk (decN re0_2) ++ mk [44, 125]))])
           none)
          none)
         none)
        (dupN 1
         (cond (leI 0 re0_2 && leI re0_2 99)
          (cond (leI (↑(1 + ByteArray.size (mk (decN re0_2))) : Int) (IntKind.max IntKind.i64))
           (cond (leI (↑(ByteArray.size (mk [123] ++ mk (decN re0_2)) + 1) : Int) (IntKind.max IntKind.i64))
            (cond (leI 0 re0_3 && leI re0_3 99)
             (cond (leI (↑(ByteArray.size (mk [123] ++ mk (decN re0_2) ++ mk [44]) + ByteArray.size (mk (decN re0_3))) : Int) (IntKind.max IntKind.i64))
              (cond (leI (↑(ByteArray.size (mk [123] ++ mk (decN re0_2) ++ mk [44] ++ mk (decN re0_3)) + 1) : Int) (IntKind.max IntKind.i64))
               (some [(.str (mk [123] ++ mk (decN re0_2) ++ mk [44] ++ mk (decN re0_3) ++ mk [125]))])
               none)
              none)
             none)
            none)
           none)
          none)))))))
   (cond (re0_2 == 1)
    (cond (re0_3 == -1)
     (some [(.str (mk [43]))])
     (cond (re0_2 == 0)
      (cond (re0_3 == 1)
       (some [(.str (mk [63]))])
       (cond (re0_2 == re0_3)
        (cond (leI 0 re0_2 && leI re0_2 99)
         (cond (leI (↑(1 + ByteArray.size (mk (decN re0_2))) : Int) (IntKind.max IntKind.i64))
          (cond (leI (↑(ByteArray.size (mk [123] ++ mk (decN re0_2)) + 1) : Int) (IntKind.max IntKind.i64))
           (some [(.str (mk [123] ++ mk (decN re0_2) ++ mk [125]))])
           none)
          none)
         none)
        (cond (re0_3 == -1)
         (cond (leI 0 re0_2 && leI re0_2 99)
          (cond (leI (↑(1 + ByteArray.size (mk (decN re0_2))) : Int) (IntKind.max IntKind.i64))
           (cond (leI (↑(ByteArray.size (mk [123] ++ mk (decN re0_2)) + 2) : Int) (IntKind.max IntKind.i64))
            (some [(.str (mk [123] ++ mk (decN re0_2) ++ mk [44, 125]))])
            none)
           none)
          none)
         (dupN 1
          (cond (leI 0 re0_2 && leI re0_2 99)
           (cond (leI (↑(1 + ByteArray.size (mk (decN re0_2))) : Int) (IntKind.max IntKind.i64))
            (cond (leI (↑(ByteArray.size (mk [123] ++ mk (decN re0_2)) + 1) : Int) (IntKind.max IntKind.i64))
             (cond (leI 0 re0_3 && leI re0_3 99)
              (cond (leI (↑(ByteArray.size (mk [123] ++ mk (decN re0_2) ++ mk [44]) + ByteArray.size (mk (decN re0_3))) : Int) (IntKind.max IntKind.i64))
               (cond (leI (↑(ByteArray.size (mk [123] ++ mk (decN re0_2) ++ mk [44] ++ mk (decN re0_3)) + 1) : Int) (IntKind.max IntKind.i64))
                (some [(.str (mk [123] ++ mk (decN re0_2) ++ mk [44] ++ mk (decN re0_3) ++ mk [125]))])
                none)
               none)
              none)
             none)
            none)
           none)))))
      (cond (re0_2 == re0_3)
       (cond (leI 0 re0_2 && leI re0_2 99)
        (cond (leI (↑(1 + ByteArray.size (mk (decN re0_2))) : Int) (IntKind.max IntKind.i64))
         (cond (leI (↑(ByteArray.size (mk [123] ++ mk (decN re0_2)) + 1) : Int) (IntKind.max IntKind.i64))
          (some [(.str (mk [123] ++ mk (decN re0_2) ++ mk [125]))])
          none)
         none)
        none)
       (cond (re0_3 == -1)
        (cond (leI 0 re0_2 && leI re0_2 99)
         (cond (leI (↑(1 + ByteArray.size (mk (decN re0_2))) : Int) (IntKind.max IntKind.i64))
          (cond (leI (↑(ByteArray.size (mk [123] ++ mk (decN re0_2)) + 2) : Int) (IntKind.max IntKind.i64))
           (some [(.str (mk [123] ++ mk (decN re0_2) ++ mk [44, 125]))])
           none)
          none)
         none)
        (dupN 1
         (cond (leI 0 re0_2 && leI re0_2 99)
          (cond (leI (↑(1 + ByteArray.size (mk (decN re0_2))) : Int) (IntKind.max IntKind.i64))
           (cond (leI (↑(ByteArray.size (mk [123] ++ mk (decN re0_2)) + 1) : Int) (IntKind.max IntKind.i64))
            (cond (leI 0 re0_3 && leI re0_3 99)
             (cond (leI (↑(ByteArray.size (mk [123] ++ mk (decN re0_2) ++ mk [44]) + ByteArray.size (mk (decN re0_3))) : Int) (IntKind.max IntKind.i64))
              (cond (leI (↑(ByteArray.size (mk [123] ++ mk (decN re0_2) ++ mk [44] ++ mk (decN re0_3)) + 1) : Int) (IntKind.max IntKind.i64))
               (some [(.str (mk [123] ++ mk (decN re0_2) ++ mk [44] ++ mk (decN re0_3) ++ mk [125]))])
               none)
              none)
             none)
            none)
           none)
          none))))))
    (cond (re0_2 == 0)
     (cond (re0_3 == 1)
      (some [(.str (mk [63]))])
      (cond (re0_2 == re0_3)
       (cond (leI 0 re0_2 && leI re0_2 99)
        (cond (leI (↑(1 + ByteArray.size (mk (decN re0_2))) : Int) (IntKind.max IntKind.i64))
         (cond (leI (↑(ByteArray.size (mk [123] ++ mk (decN re0_2)) + 1) : Int) (IntKind.max IntKind.i64))
          (some [(.str (mk [123] ++ mk (decN re0_2) ++ mk [125]))])
          none)
         none)
        none)
       (cond (re0_3 == -1)
        (cond (leI 0 re0_2 && leI re0_2 99)
         (cond (leI (↑(1 + ByteArray.size (mk (decN re0_2))) : Int) (IntKind.max IntKind.i64))
          (cond (leI (↑(ByteArray.size (mk [123] ++ mk (decN re0_2)) + 2) : Int) (IntKind.max IntKind.i64))
           (some [(.str (mk [123] ++ mk (decN re0_2) ++ mk [44, 125]))])
           none)
          none)
         none)
        (dupN 1
         (cond (leI 0 re0_2 && leI re0_2 99)
          (cond (leI (↑(1 + ByteArray.size (mk (decN re0_2))) : Int) (IntKind.max IntKind.i64))
           (cond (leI (↑(ByteArray.size (mk [123] ++ mk (decN re0_2)) + 1) : Int) (IntKind.max IntKind.i64))
            (cond (leI 0 re0_3 && leI re0_3 99)
             (cond (leI (↑(ByteArray.size (mk [123] ++ mk (decN re0_2) ++ mk [44]) + ByteArray.size (mk (decN re0_3))) : Int) (IntKind.max IntKind.i64))
              (cond (leI (↑(ByteArray.size (mk [123] ++ mk (decN re0_2) ++ mk [44] ++ mk (decN re0_3)) + 1) : Int) (IntKind.max IntKind.i64))
               (some [(.str (mk [123] ++ mk (decN re0_2) ++ mk [44] ++ mk (decN re0_3) ++ mk [125]))])
               none)
              none)
             none)
            none)
           none)
          none)))))
     (cond (re0_2 == re0_3)
      (cond (leI 0 re0_2 && leI re0_2 99)
       (cond (leI (↑(1 + ByteArray.size (mk (decN re0_2))) : Int) (IntKind.max IntKind.i64))
        (cond (leI (↑(ByteArray.size (mk [123] ++ mk (decN re0_2)) + 1) : Int) (IntKind.max IntKind.i64))
         (some [(.str (mk [123] ++ mk (decN re0_2) ++ mk [125]))])
         none)
        none)
       none)
      (cond (re0_3 == -1)
       (cond (leI 0 re0_2 && leI re0_2 99)
        (cond (leI (↑(1 + ByteArray.size (mk (decN re0_2))) : Int) (IntKind.max IntKind.i64))
         (cond (leI (↑(ByteArray.size (mk [123] ++ mk (decN re0_2)) + 2) : Int) (IntKind.max IntKind.i64))
          (some [(.str (mk [123] ++ mk (decN re0_2) ++ mk [44, 125]))])
          none)
         none)
        none)
       (dupN 1
        (cond (leI 0 re0_2 && leI re0_2 99)
         (cond (leI (↑(1 + ByteArray.size (mk (decN re0_2))) : Int) (IntKind.max IntKind.i64))
          (cond (leI (↑(ByteArray.size (mk [123] ++ mk (decN re0_2)) + 1) : Int) (IntKind.max IntKind.i64))
           (cond (leI 0 re0_3 && leI re0_3 99)
            (cond (leI (↑(ByteArray.size (mk [123] ++ mk (decN re0_2) ++ mk [44]) + ByteArray.size (mk (decN re0_3))) : Int) (IntKind.max IntKind.i64))
             (cond (leI (↑(ByteArray.size (mk [123] ++ mk (decN re0_2) ++ mk [44] ++ mk (decN re0_3)) + 1) : Int) (IntKind.max IntKind.i64))
              (some [(.str (mk [123] ++ mk (decN re0_2) ++ mk [44] ++ mk (decN re0_3) ++ mk [125]))])
              none)
             none)
            none)
           none)
          none)
         none))))))) := by kernel_rfl

/-! slices.Index[[]int,int] -/
noncomputable def IdxI_q2 (s0 : List (List L)) (v1 : Int) (x7 : Int) (x8 : Int) : Req := .point 85 [] (todoAt Tryd.prog 85 2) ⟨[(.lf (.lst 3 s0)), (.lf (.int IntKind.i64 v1)), an, an, an, an, an, (.lf (.int IntKind.i64 x7)), (.lf (.int IntKind.i64 x8)), an, an, an, an, an, an, an, an, an, an], []⟩
theorem IdxI_e (G : Req → R) (s0 : List (List L)) (v1 : Int) : runB (cfg []) G (.enter 85 [(.lf (.lst 3 s0)), (.lf (.int IntKind.i64 (v1)))] []) =
  (G (IdxI_q2 s0 v1 ((↑(List.length s0) : Int)) 0)) := by kernel_rfl
theorem IdxI_p2 (G : Req → R) (s0 : List (List L)) (v1 : Int) (x7 : Int) (x8 : Int) : runB (cfg []) G (IdxI_q2 s0 v1 x7 x8) =
  (cond (ltI x8 x7)
   (cond (leI 0 x8 && ltI x8 (↑(List.length s0) : Int))
    (cond (v1 == cI 0 (atL s0 x8))
     (some [(.int IntKind.i64 (x8))])
     (G (IdxI_q2 s0 v1 x7 (wrapI IntKind.i64 (x8 + 1)))))
    none)
   (some [(.int IntKind.i64 (-1))])) := by kernel_rfl

/-! slices.Contains[[]int,int] -/
theorem ContI_e (G : Req → R) (s0 : List (List L)) (v1 : Int) : runB (cfg [k_IdxI]) G (.enter 69 [(.lf (.lst 3 s0)), (.lf (.int IntKind.i64 (v1)))] []) =
  (cond (Nat.ble (List.length s0) 1000)
   (some [(.bool (leI 0 (ixI (List.map (cI 0) s0) v1 0)))])
   none) := by kernel_rfl

/-! codesearch/regex.parts -/
noncomputable def parts_q3 (kinds1 : List (List L)) (x11 : List (List L)) (x12 : Int) (x13 : Int) (h0 : List (List L)) : Req := .point 54 [] (todoAt Tryd.prog 54 3) ⟨[an, (.lf (.lst 3 kinds1)), an, an, an, an, (.lf (.row 0)), an, an, an, an, (.lf (.lst 25 x11)), (.lf (.int IntKind.i64 x12)), (.lf (.int IntKind.i64 x13)), an, an, an, an, an, an, an, an, an, an, an, an, an, an, an, an, an, an, an, an, an, an, an], [(.row 9 h0 true)]⟩
theorem parts_e (G : Req → R) (m : Nat) (l0 : List (List L)) (kinds1 : List (List L)) : runB (cfg [(k_text m), k_ContI]) G (.enter 54 [(.lf (.lst 25 l0)), (.lf (.lst 3 kinds1))] []) =
  (G (parts_q3 kinds1 l0 ((↑(List.length l0) : Int)) 0 [])) := by kernel_rfl
theorem parts_p3 (G : Req → R) (m : Nat) (kinds1 : List (List L)) (x11 : List (List L)) (x12 : Int) (x13 : Int) (h0 : List (List L)) : runB (cfg [(k_text m), k_ContI]) G (parts_q3 kinds1 x11 x12 x13 h0) =
  (cond (ltI x13 x12)
   (cond (leI 0 x13 && ltI x13 (↑(List.length x11) : Int))
    (cond (isX [L.int IntKind.i64 (cI 0 (atL x11 x13)), L.lst 48 (cX 1 (atL x11 x13)), L.int IntKind.i64 (cI 2 (atL x11 x13)), L.int IntKind.i64 (cI 3 (atL x11 x13)), L.lst 25 (cX 4 (atL x11 x13))] m && (nodeS (decX [L.int IntKind.i64 (cI 0 (atL x11 x13)), L.lst 48 (cX 1 (atL x11 x13)), L.int IntKind.i64 (cI 2 (atL x11 x13)), L.int IntKind.i64 (cI 3 (atL x11 x13)), L.lst 25 (cX 4 (atL x11 x13))]) == 0 && Nat.ble (Rx.nodes (decX [L.int IntKind.i64 (cI 0 (atL x11 x13)), L.lst 48 (cX 1 (atL x11 x13)), L.int IntKind.i64 (cI 2 (atL x11 x13)), L.int IntKind.i64 (cI 3 (atL x11 x13)), L.lst 25 (cX 4 (atL x11 x13))])) 1000))
     (cond (!Prod.snd (textP (decX [L.int IntKind.i64 (cI 0 (atL x11 x13)), L.lst 48 (cX 1 (atL x11 x13)), L.int IntKind.i64 (cI 2 (atL x11 x13)), L.int IntKind.i64 (cI 3 (atL x11 x13)), L.lst 25 (cX 4 (atL x11 x13))])))
      (some [(.lst 9 []), (.bool (false))])
      (cond (Nat.ble (List.length kinds1) 1000)
       (cond (decide (cI 0 (atL x11 x13) ∈ List.map (cI 0) kinds1))
        (cond (leI (↑(1 + ByteArray.size (mk (Prod.fst (textP (decX [L.int IntKind.i64 (cI 0 (atL x11 x13)), L.lst 48 (cX 1 (atL x11 x13)), L.int IntKind.i64 (cI 2 (atL x11 x13)), L.int IntKind.i64 (cI 3 (atL x11 x13)), L.lst 25 (cX 4 (atL x11 x13))]))))) : Int) (IntKind.max IntKind.i64))
         (cond (leI (↑(ByteArray.size (mk [40] ++ mk (Prod.fst (textP (decX [L.int IntKind.i64 (cI 0 (atL x11 x13)), L.lst 48 (cX 1 (atL x11 x13)), L.int IntKind.i64 (cI 2 (atL x11 x13)), L.int IntKind.i64 (cI 3 (atL x11 x13)), L.lst 25 (cX 4 (atL x11 x13))])))) + 1) : Int) (IntKind.max IntKind.i64))
          (cond (roomN (List.length h0 + 1) 16)
           (G (parts_q3 kinds1 x11 x12 (wrapI IntKind.i64 (x13 + 1)) (h0 ++ [[L.str (mk [40] ++ mk (Prod.fst (textP (decX [L.int IntKind.i64 (cI 0 (atL x11 x13)), L.lst 48 (cX 1 (atL x11 x13)), L.int IntKind.i64 (cI 2 (atL x11 x13)), L.int IntKind.i64 (cI 3 (atL x11 x13)), L.lst 25 (cX 4 (atL x11 x13))]))) ++ mk [41])]])))
           none)
          none)
         none)
        (cond (roomN (List.length h0 + 1) 16)
         (G (parts_q3 kinds1 x11 x12 (wrapI IntKind.i64 (x13 + 1)) (h0 ++ [[L.str (mk (Prod.fst (textP (decX [L.int IntKind.i64 (cI 0 (atL x11 x13)), L.lst 48 (cX 1 (atL x11 x13)), L.int IntKind.i64 (cI 2 (atL x11 x13)), L.int IntKind.i64 (cI 3 (atL x11 x13)), L.lst 25 (cX 4 (atL x11 x13))]))))]])))
         none))
       none))
     none)
    none)
   (some [(.lst 9 h0), (.bool (true))])) := by kernel_rfl

/-! codesearch/regex.text -/
theorem text_e (G : Req → R) (m : Nat) (re0_0 : Int) (re0_1 : List (List L)) (re0_2 : Int) (re0_3 : Int) (re0_4 : List (List L)) : runB (cfg [k_printSet, (k_parts m), k_Join, k_bounds]) G (.enter 41 [(.agg [(.int IntKind.i64 (re0_0)), (.lst 48 re0_1), (.int IntKind.i64 (re0_2)), (.int IntKind.i64 (re0_3)), (.lst 25 re0_4)])] []) =
  (cond (re0_0 == 1)
   (cond (isRs re0_1)
    (some [(.str (mk (Prod.fst (setP (decRs re0_1))))), (.bool (Prod.snd (setP (decRs re0_1))))])
    none)
   (cond (re0_0 == 2)
    (cond (isXt re0_4 m && Nat.ble 2 1000)
     (cond (Nat.ble (List.length (encS (Option.getD (textL (List.map (cI 0) [[L.int IntKind.i64 2], [L.int IntKind.i64 3]]) (decXs re0_4)) []))) 140737488355328 && Nat.ble (List.length (joinB (List.map (fun e => bl (cT 0 e)) (encS (Option.getD (textL (List.map (cI 0) [[L.int IntKind.i64 2], [L.int IntKind.i64 3]]) (decXs re0_4)) []))) (bl (mk [])))) 140737488355328)
      (cond (Option.isSome (textL (List.map (cI 0) [[L.int IntKind.i64 2], [L.int IntKind.i64 3]]) (decXs re0_4)))
       (some [(.str (mk (joinB (List.map (fun e => bl (cT 0 e)) (encS (Option.getD (textL (List.map (cI 0) [[L.int IntKind.i64 2], [L.int IntKind.i64 3]]) (decXs re0_4)) []))) (bl (mk []))))), (.bool ((↑(List.length (encS (Option.getD (textL (List.map (cI 0) [[L.int IntKind.i64 2], [L.int IntKind.i64 3]]) (decXs re0_4)) []))) : Int) != 1))])
       (some [(.str (mk (joinB (List.map (fun e => bl (cT 0 e)) (encS (Option.getD (textL (List.map (cI 0) [[L.int IntKind.i64 2], [L.int IntKind.i64 3]]) (decXs re0_4)) []))) (bl (mk []))))), (.bool (false))]))
      none)
     none)
    (cond (re0_0 == 3)
     (cond (isXt re0_4 m && Nat.ble 1 1000)
      (cond (Nat.ble (List.length (encS (Option.getD (textL (List.map (cI 0) [[L.int IntKind.i64 3]]) (decXs re0_4)) []))) 140737488355328 && Nat.ble (List.length (joinB (List.map (fun e => bl (cT 0 e)) (encS (Option.getD (textL (List.map (cI 0) [[L.int IntKind.i64 3]]) (decXs re0_4)) []))) (bl (mk [124])))) 140737488355328)
       (some [(.str (mk (joinB (List.map (fun e => bl (cT 0 e)) (encS (Option.getD (textL (List.map (cI 0) [[L.int IntKind.i64 3]]) (decXs re0_4)) []))) (bl (mk [124]))))), (.bool (Option.isSome (textL (List.map (cI 0) [[L.int IntKind.i64 3]]) (decXs re0_4))))])
       none)
      none)
     (cond (re0_0 == 4)
      (cond (isXt re0_4 m && Nat.ble 3 1000)
       (dupN 1
        (cond (Nat.ble (List.length (encS (Option.getD (textL (List.map (cI 0) [[L.int IntKind.i64 2], [L.int IntKind.i64 3], [L.int IntKind.i64 4]]) (decXs re0_4)) []))) 140737488355328 && Nat.ble (List.length (joinB (List.map (fun e => bl (cT 0 e)) (encS (Option.getD (textL (List.map (cI 0) [[L.int IntKind.i64 2], [L.int IntKind.i64 3], [L.int IntKind.i64 4]]) (decXs re0_4)) []))) (bl (mk [])))) 140737488355328)
         (cond (leI 0 re0_2 && leI re0_2 99 && (leI (-1) re0_3 && leI re0_3 99))
          (cond (leI (↑(ByteArray.size (mk (joinB (List.map (fun e => bl (cT 0 e)) (encS (Option.getD (textL (List.map (cI 0) [[L.int IntKind.i64 2], [L.int IntKind.i64 3], [L.int IntKind.i64 4]]) (decXs re0_4)) []))) (bl (mk [])))) + ByteArray.size (mk (sufP re0_2 re0_3))) : Int) (IntKind.max IntKind.i64))
           (some [(.str (mk (joinB (List.map (fun e => bl (cT 0 e)) (encS (Option.getD (textL (List.map (cI 0) [[L.int IntKind.i64 2], [L.int IntKind.i64 3], [L.int IntKind.i64 4]]) (decXs re0_4)) []))) (bl (mk []))) ++ mk (sufP re0_2 re0_3))), (.bool (Option.isSome (textL (List.map (cI 0) [[L.int IntKind.i64 2], [L.int IntKind.i64 3], [L.int IntKind.i64 4]]) (decXs re0_4))))])
           none)
          none)
         none))
       none)
      (cond (re0_0 == 5)
       (some [(.str (mk [94])), (.bool (true))])
       (cond (re0_0 == 6)
        (some [(.str (mk [36])), (.bool (true))])
        (some [(.str (mk [92, 98])), (.bool (true))]))))))) := by kernel_rfl

/-! codesearch/regex.Print -/
theorem Print_e (G : Req → R) (re0_0 : Int) (re0_1 : List (List L)) (re0_2 : Int) (re0_3 : Int) (re0_4 : List (List L)) : runB (cfg [k_Right, (k_text 12)]) G (.enter 18 [(.agg [(.int IntKind.i64 (re0_0)), (.lst 48 re0_1), (.int IntKind.i64 (re0_2)), (.int IntKind.i64 (re0_3)), (.lst 25 re0_4)])] []) =
  (cond (isX [L.int IntKind.i64 re0_0, L.lst 48 re0_1, L.int IntKind.i64 re0_2, L.int IntKind.i64 re0_3, L.lst 25 re0_4] 1000000000000)
   (cond (rightS (decX [L.int IntKind.i64 re0_0, L.lst 48 re0_1, L.int IntKind.i64 re0_2, L.int IntKind.i64 re0_3, L.lst 25 re0_4]) != 0)
    (some [(.str (mk [])), (.int IntKind.i64 (rightS (decX [L.int IntKind.i64 re0_0, L.lst 48 re0_1, L.int IntKind.i64 re0_2, L.int IntKind.i64 re0_3, L.lst 25 re0_4])))])
    (cond (isX [L.int IntKind.i64 re0_0, L.lst 48 re0_1, L.int IntKind.i64 re0_2, L.int IntKind.i64 re0_3, L.lst 25 re0_4] 12 && (nodeS (decX [L.int IntKind.i64 re0_0, L.lst 48 re0_1, L.int IntKind.i64 re0_2, L.int IntKind.i64 re0_3, L.lst 25 re0_4]) == 0 && Nat.ble (Rx.nodes (decX [L.int IntKind.i64 re0_0, L.lst 48 re0_1, L.int IntKind.i64 re0_2, L.int IntKind.i64 re0_3, L.lst 25 re0_4])) 1000))
     (cond (!Prod.snd (textP (decX [L.int IntKind.i64 re0_0, L.lst 48 re0_1, L.int IntKind.i64 re0_2, L.int IntKind.i64 re0_3, L.lst 25 re0_4])))
      (some [(.str (mk [])), (.int IntKind.i64 (3))])
      (cond (ltI 300 (↑(ByteArray.size (mk (Prod.fst (textP (decX [L.int IntKind.i64 re0_0, L.lst 48 re0_1, L.int IntKind.i64 re0_2, L.int IntKind.i64 re0_3, L.lst 25 re0_4]))))) : Int))
       (some [(.str (mk [])), (.int IntKind.i64 (3))])
       (some [(.str (mk (Prod.fst (textP (decX [L.int IntKind.i64 re0_0, L.lst 48 re0_1, L.int IntKind.i64 re0_2, L.int IntKind.i64 re0_3, L.lst 25 re0_4]))))), (.int IntKind.i64 (0))])))
     none))
   none) := by kernel_rfl

end Go.Ab
namespace Go.Proofs
open Go.Shelf
def Tryd.lays169_ren : Go.Shelf.Ren := ⟨fun | 169 => 72 | n => n, fun | 70 => 82 | 9 => 9 | 0 => 0 | 72 => 85 | 37 => 83 | 127 => 100 | 3 => 3 | 5 => 5 | n => n, fun | n => n⟩
theorem Tryd.lays169 : Go.Proofs.Lays.n169 Tryd.prog Tryd.lays169_ren := {
  mixed := by kernel_rfl
  f169 := Tryd.func72.trans (congrArg some (by kernel_rfl))
  t0 := Tryd.underlying0
  a0 := Tryd.isAgg0
  z0 := Tryd.sizeOf0
  v0 := Tryd.zeroValue0
  t3 := Tryd.underlying3
  a3 := Tryd.isAgg3
  z3 := Tryd.sizeOf3
  v3 := Tryd.zeroValue3
  t9 := Tryd.underlying9
  a9 := Tryd.isAgg9
  z9 := Tryd.sizeOf9
  v9 := Tryd.zeroValue9
  t37 := Tryd.underlying83
  a37 := Tryd.isAgg83
  z37 := Tryd.sizeOf83
  v37 := Tryd.zeroValue83
  t70 := Tryd.underlying82
  a70 := Tryd.isAgg82
  z70 := Tryd.sizeOf82
  v70 := Tryd.zeroValue82
  t72 := Tryd.underlying85
  a72 := Tryd.isAgg85
  z72 := Tryd.sizeOf85
  v72 := Tryd.zeroValue85
  t127 := Tryd.underlying100
  a127 := Tryd.isAgg100
  z127 := Tryd.sizeOf100
  v127 := Tryd.zeroValue100 }
theorem Tryd.Builder_Extra_169 : Builder.Extra Tryd.prog Tryd.lays169_ren := {
  sizeBuilder := by kernel_rfl
  liesBuilder := by kernel_rfl
  t5 := Tryd.underlying5
  a5 := Tryd.isAgg5
  z5 := Tryd.sizeOf5
  v5 := Tryd.zeroValue5
  infoByte := by kernel_rfl
  cellsByte := by kernel_rfl
  sizeByte := by kernel_rfl
  neB5 := by decide }
open Go.RowKit in
/-- (*strings.Builder).String: "String returns the accumulated string.": OF A BUILDER THAT HOLDS AT LEAST ONE BYTE. ✋ THE MODEL FREEZES THOSE BYTES IN THE BUFFER (unsafe.String): a later write INTO them ends the model's run without an answer; a later append BEHIND them goes on. The statement's order of evaluation is drawn: one draw. (LAID: no (repeat' (refine RunsF.cond (fun _ => ?_) (fun _ => ?_))): one application.) -/
theorem Tryd.Builder_String (B b : Nat) (l : List UInt8) (w : World) (h : Lib.IsBuilder 85 5 B b (Lib.byteCells l) w) (h0 : l ≠ []) :
    Calls Tryd.prog 72 #[.pointer (some ⟨b, 0, none⟩)] w fun e w' => e = .returned (.string ⟨l.toArray⟩) ∧ Below B w w' := Any.Builder_String Tryd.lays169 Tryd.Builder_Extra_169 B b l w h h0
open Go.RowKit in
/-- (*strings.Builder).String OF A BUILDER THAT HOLDS NO BYTE: the empty string. (Its buffer is nil, or a row of which it has taken nothing yet; where that row has NO capacity the model lays one new block for unsafe.SliceData's 'some address'.) One draw. (LAID: no (repeat' (refine RunsF.cond (fun _ => ?_) (fun _ => ?_))): one application.) -/
theorem Tryd.Builder_String_empty (B b : Nat) (w : World) (h : Lib.IsBuilder 85 5 B b [] w) (hBw : B ≤ w.heap.size) :
    Calls Tryd.prog 72 #[.pointer (some ⟨b, 0, none⟩)] w fun e w' => e = .returned (.string ⟨#[]⟩) ∧ Below B w w' := Any.Builder_String_empty Tryd.lays169 Tryd.Builder_Extra_169 B b w h hBw
open Go.RowKit in
/-- (*strings.Builder).String: "String returns the accumulated string.": WHATEVER THE BUILDER HOLDS. (LAID: no (repeat' (refine RunsF.cond (fun _ => ?_) (fun _ => ?_))): one application.) -/
theorem Tryd.Builder_String_any (B b : Nat) (l : List UInt8) (w : World) (h : Lib.IsBuilder 85 5 B b (Lib.byteCells l) w) (hBw : B ≤ w.heap.size) :
    Calls Tryd.prog 72 #[.pointer (some ⟨b, 0, none⟩)] w fun e w' => e = .returned (.string ⟨l.toArray⟩) ∧ Below B w w' := Any.Builder_String_any Tryd.lays169 Tryd.Builder_Extra_169 B b l w h hBw
def Tryd.lays241_ren : Go.Shelf.Ren := ⟨fun | 241 => 87 | 277 => 98 | n => n, fun | 70 => 82 | 3 => 3 | 0 => 0 | 72 => 85 | 37 => 83 | 5 => 5 | n => n, fun | n => n⟩
theorem Tryd.lays241 : Go.Proofs.Lays.n241 Tryd.prog Tryd.lays241_ren := {
  mixed := by kernel_rfl
  f241 := Tryd.func87.trans (congrArg some (by kernel_rfl))
  f277 := Tryd.func98.trans (congrArg some (by kernel_rfl))
  t0 := Tryd.underlying0
  a0 := Tryd.isAgg0
  z0 := Tryd.sizeOf0
  v0 := Tryd.zeroValue0
  t3 := Tryd.underlying3
  a3 := Tryd.isAgg3
  z3 := Tryd.sizeOf3
  v3 := Tryd.zeroValue3
  t37 := Tryd.underlying83
  a37 := Tryd.isAgg83
  z37 := Tryd.sizeOf83
  v37 := Tryd.zeroValue83
  t70 := Tryd.underlying82
  a70 := Tryd.isAgg82
  z70 := Tryd.sizeOf82
  v70 := Tryd.zeroValue82
  t72 := Tryd.underlying85
  a72 := Tryd.isAgg85
  z72 := Tryd.sizeOf85
  v72 := Tryd.zeroValue85 }
theorem Tryd.Builder_Extra_241 : Builder.Extra Tryd.prog Tryd.lays241_ren := {
  sizeBuilder := by kernel_rfl
  liesBuilder := by kernel_rfl
  t5 := Tryd.underlying5
  a5 := Tryd.isAgg5
  z5 := Tryd.sizeOf5
  v5 := Tryd.zeroValue5
  infoByte := by kernel_rfl
  cellsByte := by kernel_rfl
  sizeByte := by kernel_rfl
  neB5 := by decide }
open Go.RowKit in
/-- (*strings.Builder).grow (no doc but "grow copies the buffer to a new, larger buffer so that there are at least n bytes of capacity beyond len(b.buf)."): AT A BUILDER WITHOUT A BUFFER: a new row of whatever bytes for its buffer, none of them its own yet. Three draws. (LAID: no (repeat' (refine RunsF.cond (fun _ => ?_) (fun _ => ?_))): one application.) -/
theorem Tryd.Builder_grow_fresh (B b n : Nat) (w : World) (hB : B ≤ b) (hbk : w.heap[b]? = some (.cells #[.pointer (some ⟨b, 0, none⟩), .slice none 0 0] 85 (0, 0))) (hBw : B ≤ w.heap.size) (hn : n ≤ 281474976710656) :
    Calls Tryd.prog 87 #[.pointer (some ⟨b, 0, none⟩), .int .i64 n] w fun e w' => e = .returned (.tuple #[]) ∧ (Lib.BuilderAt 85 5 B b (.pointer (some ⟨b, 0, none⟩)) [] w' ∧ Below B w w') := Any.Builder_grow_fresh Tryd.lays241 Tryd.Builder_Extra_241 B b n w hB hbk hBw hn
def Tryd.lays165_ren : Go.Shelf.Ren := ⟨fun | 165 => 70 | 240 => 86 | 241 => 87 | 276 => 97 | 277 => 98 | n => n, fun | 70 => 82 | 3 => 3 | 0 => 0 | 4 => 4 | 9 => 9 | 20 => 20 | 72 => 85 | 37 => 83 | 164 => 107 | 5 => 5 | n => n, fun | n => n⟩
theorem Tryd.lays165 : Go.Proofs.Lays.n165 Tryd.prog Tryd.lays165_ren := {
  mixed := by kernel_rfl
  f165 := Tryd.func70.trans (congrArg some (by kernel_rfl))
  f240 := Tryd.func86.trans (congrArg some (by kernel_rfl))
  f241 := Tryd.func87.trans (congrArg some (by kernel_rfl))
  f276 := Tryd.func97.trans (congrArg some (by kernel_rfl))
  f277 := Tryd.func98.trans (congrArg some (by kernel_rfl))
  t0 := Tryd.underlying0
  a0 := Tryd.isAgg0
  z0 := Tryd.sizeOf0
  v0 := Tryd.zeroValue0
  t3 := Tryd.underlying3
  a3 := Tryd.isAgg3
  z3 := Tryd.sizeOf3
  v3 := Tryd.zeroValue3
  t4 := Tryd.underlying4
  a4 := Tryd.isAgg4
  z4 := Tryd.sizeOf4
  v4 := Tryd.zeroValue4
  t9 := Tryd.underlying9
  a9 := Tryd.isAgg9
  z9 := Tryd.sizeOf9
  v9 := Tryd.zeroValue9
  t20 := Tryd.underlying20
  a20 := Tryd.isAgg20
  z20 := Tryd.sizeOf20
  v20 := Tryd.zeroValue20
  t37 := Tryd.underlying83
  a37 := Tryd.isAgg83
  z37 := Tryd.sizeOf83
  v37 := Tryd.zeroValue83
  t70 := Tryd.underlying82
  a70 := Tryd.isAgg82
  z70 := Tryd.sizeOf82
  v70 := Tryd.zeroValue82
  t72 := Tryd.underlying85
  a72 := Tryd.isAgg85
  z72 := Tryd.sizeOf85
  v72 := Tryd.zeroValue85
  t164 := Tryd.underlying107
  a164 := Tryd.isAgg107
  z164 := Tryd.sizeOf107
  v164 := Tryd.zeroValue107 }
theorem Tryd.Builder_Extra_165 : Builder.Extra Tryd.prog Tryd.lays165_ren := {
  sizeBuilder := by kernel_rfl
  liesBuilder := by kernel_rfl
  t5 := Tryd.underlying5
  a5 := Tryd.isAgg5
  z5 := Tryd.sizeOf5
  v5 := Tryd.zeroValue5
  infoByte := by kernel_rfl
  cellsByte := by kernel_rfl
  sizeByte := by kernel_rfl
  neB5 := by decide }
open Go.RowKit in
/-- (*strings.Builder).Grow AT A BUILDER THAT HAS NOT BEEN WRITTEN ('var b strings.Builder; b.Grow(n)'): "Grow grows b's capacity, if necessary, to guarantee space for another n bytes.": it holds no byte behind it as before it. (LAID: no (repeat' (refine RunsF.cond (fun _ => ?_) (fun _ => ?_))): one application.) -/
theorem Tryd.Builder_Grow_fresh (B b n : Nat) (w : World) (hB : B ≤ b) (hbk : w.heap[b]? = some (.cells #[.pointer none, .slice none 0 0] 85 (0, 0))) (hBw : B ≤ w.heap.size) (hn : n ≤ 281474976710656) :
    Calls Tryd.prog 70 #[.pointer (some ⟨b, 0, none⟩), .int .i64 n] w fun e w' => e = .returned (.tuple #[]) ∧ (Lib.BuilderAt 85 5 B b (.pointer (some ⟨b, 0, none⟩)) [] w' ∧ Below B w w') := Any.Builder_Grow_fresh Tryd.lays165 Tryd.Builder_Extra_165 B b n w hB hbk hBw hn
def Tryd.lays156_ren : Go.Shelf.Ren := ⟨fun | 156 => 55 | 165 => 70 | 166 => 71 | 169 => 72 | 240 => 86 | 241 => 87 | 276 => 97 | 277 => 98 | n => n, fun | 31 => 67 | 9 => 9 | 3 => 3 | 4 => 4 | 0 => 0 | 20 => 20 | 72 => 85 | 76 => 89 | 70 => 82 | 37 => 83 | 75 => 88 | 127 => 100 | 164 => 107 | 5 => 5 | 80 => 91 | n => n, fun | n => n⟩
theorem Tryd.lays156 : Go.Proofs.Lays.n156 Tryd.prog Tryd.lays156_ren := {
  mixed := by kernel_rfl
  f156 := Tryd.func55.trans (congrArg some (by kernel_rfl))
  f165 := Tryd.func70.trans (congrArg some (by kernel_rfl))
  f166 := Tryd.func71.trans (congrArg some (by kernel_rfl))
  f169 := Tryd.func72.trans (congrArg some (by kernel_rfl))
  f240 := Tryd.func86.trans (congrArg some (by kernel_rfl))
  f241 := Tryd.func87.trans (congrArg some (by kernel_rfl))
  f276 := Tryd.func97.trans (congrArg some (by kernel_rfl))
  f277 := Tryd.func98.trans (congrArg some (by kernel_rfl))
  t0 := Tryd.underlying0
  a0 := Tryd.isAgg0
  z0 := Tryd.sizeOf0
  v0 := Tryd.zeroValue0
  t3 := Tryd.underlying3
  a3 := Tryd.isAgg3
  z3 := Tryd.sizeOf3
  v3 := Tryd.zeroValue3
  t4 := Tryd.underlying4
  a4 := Tryd.isAgg4
  z4 := Tryd.sizeOf4
  v4 := Tryd.zeroValue4
  t9 := Tryd.underlying9
  a9 := Tryd.isAgg9
  z9 := Tryd.sizeOf9
  v9 := Tryd.zeroValue9
  t20 := Tryd.underlying20
  a20 := Tryd.isAgg20
  z20 := Tryd.sizeOf20
  v20 := Tryd.zeroValue20
  t31 := Tryd.underlying67
  a31 := Tryd.isAgg67
  z31 := Tryd.sizeOf67
  v31 := Tryd.zeroValue67
  t37 := Tryd.underlying83
  a37 := Tryd.isAgg83
  z37 := Tryd.sizeOf83
  v37 := Tryd.zeroValue83
  t70 := Tryd.underlying82
  a70 := Tryd.isAgg82
  z70 := Tryd.sizeOf82
  v70 := Tryd.zeroValue82
  t72 := Tryd.underlying85
  a72 := Tryd.isAgg85
  z72 := Tryd.sizeOf85
  v72 := Tryd.zeroValue85
  t75 := Tryd.underlying88
  a75 := Tryd.isAgg88
  z75 := Tryd.sizeOf88
  v75 := Tryd.zeroValue88
  t76 := Tryd.underlying89
  a76 := Tryd.isAgg89
  z76 := Tryd.sizeOf89
  v76 := Tryd.zeroValue89
  t127 := Tryd.underlying100
  a127 := Tryd.isAgg100
  z127 := Tryd.sizeOf100
  v127 := Tryd.zeroValue100
  t164 := Tryd.underlying107
  a164 := Tryd.isAgg107
  z164 := Tryd.sizeOf107
  v164 := Tryd.zeroValue107 }
theorem Tryd.Builder_Extra_156 : Builder.Extra Tryd.prog Tryd.lays156_ren := {
  sizeBuilder := by kernel_rfl
  liesBuilder := by kernel_rfl
  t5 := Tryd.underlying5
  a5 := Tryd.isAgg5
  z5 := Tryd.sizeOf5
  v5 := Tryd.zeroValue5
  infoByte := by kernel_rfl
  cellsByte := by kernel_rfl
  sizeByte := by kernel_rfl
  neB5 := by decide }
open Go.RowKit in
/-- No element: the empty string; the world is as it was. (Whatever the slice's address and capacity: a nil slice too.) (LAID: no (repeat' (refine RunsF.cond (fun _ => ?_) (fun _ => ?_))): one application.) -/
theorem Tryd.strings_Join_none (a : Option Addr) (c : Nat) (sep : ByteArray) (w : World) :
    Calls Tryd.prog 55 #[.slice a 0 c, .string sep] w fun e w' => e = .returned (.string ⟨#[]⟩) ∧ w' = w := Any.strings_Join_none Tryd.lays156 Tryd.Builder_Extra_156 a c sep w
open Go.RowKit in
/-- strings.Join: "Join concatenates the elements of its first argument to create a single string. The separator string sep is placed between elements in the resulting string.": HOWEVER MANY ELEMENTS. Below the heap's end the world is as it was. (LAID: no (repeat' (refine RunsF.cond (fun _ => ?_) (fun _ => ?_))): one application.) -/
theorem Tryd.strings_Join (bk o c : Nat) (xs : List ByteArray) (sep : ByteArray) (w : World) (hcells : ∀ (j : Nat) x, xs[j]? = some x → w.cell? ⟨bk, o + j, none⟩ = some (.string x)) (hbk : bk < w.heap.size) (hN : xs.length ≤ 140737488355328) (hcap : xs.length ≤ c) (hlen : (Lib.join (xs.map (·.data.toList)) sep.data.toList).length ≤ 140737488355328) :
    Calls Tryd.prog 55 #[.slice (some ⟨bk, o, none⟩) xs.length c, .string sep] w fun e w' => e = .returned (.string ⟨(Lib.join (xs.map (·.data.toList)) sep.data.toList).toArray⟩) ∧ Below w.heap.size w w' := Any.strings_Join Tryd.lays156 Tryd.Builder_Extra_156 bk o c xs sep w hcells hbk hN hcap hlen
def Tryd.lays137_ren : Go.Shelf.Ren := ⟨fun | 137 => 84 | 217 => 96 | 266 => 103 | n => n, fun | 9 => 9 | 5 => 5 | 3 => 3 | n => n, fun | n => n⟩
theorem Tryd.lays137 : Go.Proofs.Lays.n137 Tryd.prog Tryd.lays137_ren := {
  mixed := by kernel_rfl
  f137 := Tryd.func84.trans (congrArg some (by kernel_rfl))
  f217 := Tryd.func96.trans (congrArg some (by kernel_rfl))
  f266 := Tryd.func103.trans (congrArg some (by kernel_rfl))
  t3 := Tryd.underlying3
  a3 := Tryd.isAgg3
  z3 := Tryd.sizeOf3
  v3 := Tryd.zeroValue3
  t5 := Tryd.underlying5
  a5 := Tryd.isAgg5
  z5 := Tryd.sizeOf5
  v5 := Tryd.zeroValue5
  t9 := Tryd.underlying9
  a9 := Tryd.isAgg9
  z9 := Tryd.sizeOf9
  v9 := Tryd.zeroValue9 }
open Go.RowKit in
/-- strings.IndexByte: "IndexByte returns the index of the first instance of c in s, or -1 if c is not present in s.": IT RETURNS 'Lib.indexByte s c'; the world is as it was. (LAID: no (repeat' (refine RunsF.cond (fun _ => ?_) (fun _ => ?_))): one application.) -/
theorem Tryd.strings_IndexByte (s : ByteArray) (c : Int) (w : World) :
    Calls Tryd.prog 84 #[.string s, .int .u8 c] w fun e w' => e = .returned (.int .i64 (Lib.indexByte s.data.toList c.toNat.toUInt8)) ∧ w' = w := Any.strings_IndexByte Tryd.lays137 s c w
def Tryd.lays129_ren : Go.Shelf.Ren := ⟨fun | 129 => 109 | n => n, fun | 53 => 117 | 3 => 3 | 4 => 4 | 46 => 128 | 5 => 5 | 9 => 9 | n => n, fun | n => n⟩
theorem Tryd.lays129 : Go.Proofs.Lays.n129 Tryd.prog Tryd.lays129_ren := {
  mixed := by kernel_rfl
  f129 := Tryd.func109.trans (congrArg some (by kernel_rfl))
  t3 := Tryd.underlying3
  a3 := Tryd.isAgg3
  z3 := Tryd.sizeOf3
  v3 := Tryd.zeroValue3
  t4 := Tryd.underlying4
  a4 := Tryd.isAgg4
  z4 := Tryd.sizeOf4
  v4 := Tryd.zeroValue4
  t5 := Tryd.underlying5
  a5 := Tryd.isAgg5
  z5 := Tryd.sizeOf5
  v5 := Tryd.zeroValue5
  t9 := Tryd.underlying9
  a9 := Tryd.isAgg9
  z9 := Tryd.sizeOf9
  v9 := Tryd.zeroValue9
  t46 := Tryd.underlying128
  a46 := Tryd.isAgg128
  z46 := Tryd.sizeOf128
  v46 := Tryd.zeroValue128
  t53 := Tryd.underlying117
  a53 := Tryd.isAgg117
  z53 := Tryd.sizeOf117
  v53 := Tryd.zeroValue117 }
/-- bits.Len64: "Len64 returns the minimum number of bits required to represent x; the result is 0 for x == 0.": IT RETURNS 'Lib.bitLen x'; the world is as it was. ('h0', 'h1': x is a uint64.) (LAID: no (repeat' (refine RunsF.cond (fun _ => ?_) (fun _ => ?_))): one application.) -/
theorem Tryd.bits_Len64 (x : Int) (w : World) (h0 : 0 ≤ x) (h1 : x ≤ 18446744073709551615) :
    Calls Tryd.prog 109 #[.int .u64 x] w fun e w' => e = .returned (.int .i64 (Lib.bitLen x.toNat)) ∧ w' = w := Any.bits_Len64 Tryd.lays129 x w h0 h1
def Tryd.lays317_ren : Go.Shelf.Ren := ⟨fun | 317 => 108 | n => n, fun | 3 => 3 | 46 => 128 | n => n, fun | n => n⟩
theorem Tryd.lays317 : Go.Proofs.Lays.n317 Tryd.prog Tryd.lays317_ren := {
  mixed := by kernel_rfl
  f317 := Tryd.func108.trans (congrArg some (by kernel_rfl))
  t3 := Tryd.underlying3
  a3 := Tryd.isAgg3
  z3 := Tryd.sizeOf3
  v3 := Tryd.zeroValue3
  t46 := Tryd.underlying128
  a46 := Tryd.isAgg128
  z46 := Tryd.sizeOf128
  v46 := Tryd.zeroValue128 }
open Go.Lib in
/-- internal/strconv.log10Pow2: "log10Pow2(x) returns ⌊log₁₀ 2**x⌋ = ⌊x * log₁₀ 2⌋.": '(x * 78913) >> 18', at an x up to 64 (a length in bits). The world is as it was. (LAID: no (repeat' (refine RunsF.cond (fun _ => ?_) (fun _ => ?_))): one application.) -/
theorem Tryd.internal_strconv_log10Pow2 (x : Nat) (h : x ≤ 64) (w : World) :
    Calls Tryd.prog 108 #[.int .i64 x] w fun e w' => e = .returned (.int .i64 (Lib.l10 x)) ∧ w' = w := Any.internal_strconv_log10Pow2 Tryd.lays317 x h w
def Tryd.lays318_ren : Go.Shelf.Ren := ⟨fun | 318 => 110 | n => n, fun | 3 => 3 | 4 => 4 | n => n, fun | n => n⟩
theorem Tryd.lays318 : Go.Proofs.Lays.n318 Tryd.prog Tryd.lays318_ren := {
  mixed := by kernel_rfl
  f318 := Tryd.func110.trans (congrArg some (by kernel_rfl))
  t3 := Tryd.underlying3
  a3 := Tryd.isAgg3
  z3 := Tryd.sizeOf3
  v3 := Tryd.zeroValue3
  t4 := Tryd.underlying4
  a4 := Tryd.isAgg4
  z4 := Tryd.sizeOf4
  v4 := Tryd.zeroValue4 }
open Go.Lib in
/-- internal/strconv.bool2: "bool2 converts b to an integer: 1 for true, 0 for false." The world is as it was. (LAID: no (repeat' (refine RunsF.cond (fun _ => ?_) (fun _ => ?_))): one application.) -/
theorem Tryd.internal_strconv_bool2_int (b : Bool) (w : World) :
    Calls Tryd.prog 110 #[.bool b] w fun e w' => e = .returned (.int .i64 (if b then 1 else 0)) ∧ w' = w := Any.internal_strconv_bool2_int Tryd.lays318 b w
def Tryd.lays283_ren : Go.Shelf.Ren := ⟨fun | 283 => 104 | n => n, fun | 3 => 3 | 9 => 9 | 4 => 4 | n => n, fun | n => n⟩
theorem Tryd.lays283 : Go.Proofs.Lays.n283 Tryd.prog Tryd.lays283_ren := {
  mixed := by kernel_rfl
  f283 := Tryd.func104.trans (congrArg some (by kernel_rfl))
  t3 := Tryd.underlying3
  a3 := Tryd.isAgg3
  z3 := Tryd.sizeOf3
  v3 := Tryd.zeroValue3
  t4 := Tryd.underlying4
  a4 := Tryd.isAgg4
  z4 := Tryd.sizeOf4
  v4 := Tryd.zeroValue4
  t9 := Tryd.underlying9
  a9 := Tryd.isAgg9
  z9 := Tryd.sizeOf9
  v9 := Tryd.zeroValue9 }
open Go.Lib in
/-- internal/strconv.small: "small returns the string for an i with 0 <= i < nSmalls.": i's decimal numeral. The world is as it was. (LAID: no (repeat' (refine RunsF.cond (fun _ => ?_) (fun _ => ?_))): one application.) -/
theorem Tryd.internal_strconv_small (i : Nat) (h : i < 100) (w : World) :
    Calls Tryd.prog 104 #[.int .i64 i] w fun e w' => e = .returned (.string ⟨(Lib.decDigits i).toArray⟩) ∧ w' = w := Any.internal_strconv_small Tryd.lays283 i h w
def Tryd.laysM284_ren : Go.Shelf.Ren := ⟨fun | 284 => 105 | 129 => 109 | 317 => 108 | 318 => 110 | n => n, fun | 53 => 117 | 3 => 3 | 212 => 124 | 0 => 0 | 4 => 4 | 46 => 128 | 5 => 5 | 9 => 9 | n => n, fun | 17 => 1 | n => n⟩
theorem Tryd.laysM284 : Go.Proofs.LaysM.n284 Tryd.prog Tryd.laysM284_ren := {
  mixed := by kernel_rfl
  f129 := Tryd.func109.trans (congrArg some (by kernel_rfl))
  f284 := Tryd.func105.trans (congrArg some (by kernel_rfl))
  f317 := Tryd.func108.trans (congrArg some (by kernel_rfl))
  f318 := Tryd.func110.trans (congrArg some (by kernel_rfl))
  t0 := Tryd.underlying0
  a0 := Tryd.isAgg0
  z0 := Tryd.sizeOf0
  v0 := Tryd.zeroValue0
  t3 := Tryd.underlying3
  a3 := Tryd.isAgg3
  z3 := Tryd.sizeOf3
  v3 := Tryd.zeroValue3
  t4 := Tryd.underlying4
  a4 := Tryd.isAgg4
  z4 := Tryd.sizeOf4
  v4 := Tryd.zeroValue4
  t5 := Tryd.underlying5
  a5 := Tryd.isAgg5
  z5 := Tryd.sizeOf5
  v5 := Tryd.zeroValue5
  t9 := Tryd.underlying9
  a9 := Tryd.isAgg9
  z9 := Tryd.sizeOf9
  v9 := Tryd.zeroValue9
  t46 := Tryd.underlying128
  a46 := Tryd.isAgg128
  z46 := Tryd.sizeOf128
  v46 := Tryd.zeroValue128
  t53 := Tryd.underlying117
  a53 := Tryd.isAgg117
  z53 := Tryd.sizeOf117
  v53 := Tryd.zeroValue117
  t212 := Tryd.underlying124
  a212 := Tryd.isAgg124
  z212 := Tryd.sizeOf124
  v212 := Tryd.zeroValue124
  g17 := by kernel_rfl
  i0 := by kernel_rfl
  i3 := by kernel_rfl
  i4 := by kernel_rfl
  i5 := by kernel_rfl
  i9 := by kernel_rfl
  i46 := by kernel_rfl
  i53 := by kernel_rfl
  i212 := by kernel_rfl
  m17 := by kernel_rfl }
open Go.Lib in
/-- internal/strconv.numDigits, at a d that is not 0: THE NUMBER OF d's DECIMAL DIGITS. The world is as it was. (LAID: no (repeat' (refine RunsF.cond (fun _ => ?_) (fun _ => ?_))): one application.) -/
theorem Tryd.internal_strconv_numDigits (u : Nat) (h1 : 1 ≤ u) (h2 : u < 18446744073709551616) (w : World) (htab : Lib.TabIs Tryd.prog w "internal/strconv.uint64pow10" .u64 Lib.pow10Tab) :
    Calls Tryd.prog 105 #[.int .u64 u] w fun e w' => e = .returned (.int .i64 (Lib.nDigits u)) ∧ w' = w := Any.internal_strconv_numDigits Tryd.laysM284 u h1 h2 w htab
def Tryd.lays285_ren : Go.Shelf.Ren := ⟨fun | 285 => 106 | n => n, fun | 37 => 83 | 53 => 117 | 3 => 3 | 4 => 4 | 51 => 125 | 9 => 9 | 5 => 5 | 0 => 0 | n => n, fun | n => n⟩
theorem Tryd.lays285 : Go.Proofs.Lays.n285 Tryd.prog Tryd.lays285_ren := {
  mixed := by kernel_rfl
  f285 := Tryd.func106.trans (congrArg some (by kernel_rfl))
  t0 := Tryd.underlying0
  a0 := Tryd.isAgg0
  z0 := Tryd.sizeOf0
  v0 := Tryd.zeroValue0
  t3 := Tryd.underlying3
  a3 := Tryd.isAgg3
  z3 := Tryd.sizeOf3
  v3 := Tryd.zeroValue3
  t4 := Tryd.underlying4
  a4 := Tryd.isAgg4
  z4 := Tryd.sizeOf4
  v4 := Tryd.zeroValue4
  t5 := Tryd.underlying5
  a5 := Tryd.isAgg5
  z5 := Tryd.sizeOf5
  v5 := Tryd.zeroValue5
  t9 := Tryd.underlying9
  a9 := Tryd.isAgg9
  z9 := Tryd.sizeOf9
  v9 := Tryd.zeroValue9
  t37 := Tryd.underlying83
  a37 := Tryd.isAgg83
  z37 := Tryd.sizeOf83
  v37 := Tryd.zeroValue83
  t51 := Tryd.underlying125
  a51 := Tryd.isAgg125
  z51 := Tryd.sizeOf125
  v51 := Tryd.zeroValue125
  t53 := Tryd.underlying117
  a53 := Tryd.isAgg117
  z53 := Tryd.sizeOf117
  v53 := Tryd.zeroValue117 }
open Go.RowKit Go.Sort Go.Lib in
/-- internal/strconv.formatBase10: "formatBase10 formats the decimal representation of u into a. The caller is responsible for ensuring that a is big enough to hold u. If a is too big, leading zeros will be filled in as needed.": THE ROW HOLDS u's DIGITS ('FmtInv .. 0 ..': every place t holds 'dg u (len - 1 - t)'); all else is as it was but for the count of draws. (LAID: no (repeat' (refine RunsF.cond (fun _ => ?_) (fun _ => ?_))): one application.) -/
theorem Tryd.internal_strconv_formatBase10 (blk off cap : Nat) (u : Nat) (d : Array UInt8) (w : World) (hH : Holds (fun (b : UInt8) => Value.int .u8 (b.toNat : Int)) w blk off d) (hu : u < 10 ^ d.size) (hu64 : u < 18446744073709551616) (hsz : d.size < 4611686018427387904) :
    Calls Tryd.prog 106 #[.slice (some ⟨blk, off, none⟩) d.size cap, .int .u64 u] w fun e w' =>
      e = .returned (.tuple #[]) ∧ ∃ (n v' : Nat) (dk : Array UInt8), w' = (putRow (fun (b : UInt8) => Value.int .u8 (b.toNat : Int)) w blk off dk).drewN n ∧ FmtInv d.size u 0 v' dk := Any.internal_strconv_formatBase10 Tryd.lays285 blk off cap u d w hH hu hu64 hsz
def Tryd.laysM246_ren : Go.Shelf.Ren := ⟨fun | 246 => 99 | 283 => 104 | 284 => 105 | 285 => 106 | 286 => 107 | 129 => 109 | 317 => 108 | 318 => 110 | 319 => 111 | 320 => 112 | 337 => 113 | 338 => 114 | n => n, fun | 2 => 2 | 3 => 3 | 9 => 9 | 4 => 4 | 171 => 116 | 0 => 0 | 53 => 117 | 37 => 83 | 5 => 5 | 173 => 120 | 212 => 124 | 51 => 125 | 20 => 20 | 213 => 126 | 46 => 128 | 232 => 131 | 233 => 132 | n => n, fun | 17 => 1 | 18 => 2 | 19 => 3 | n => n⟩
theorem Tryd.laysM246 : Go.Proofs.LaysM.n246 Tryd.prog Tryd.laysM246_ren := {
  mixed := by kernel_rfl
  f129 := Tryd.func109.trans (congrArg some (by kernel_rfl))
  f246 := Tryd.func99.trans (congrArg some (by kernel_rfl))
  f283 := Tryd.func104.trans (congrArg some (by kernel_rfl))
  f284 := Tryd.func105.trans (congrArg some (by kernel_rfl))
  f285 := Tryd.func106.trans (congrArg some (by kernel_rfl))
  f286 := Tryd.func107.trans (congrArg some (by kernel_rfl))
  f317 := Tryd.func108.trans (congrArg some (by kernel_rfl))
  f318 := Tryd.func110.trans (congrArg some (by kernel_rfl))
  f319 := Tryd.func111.trans (congrArg some (by kernel_rfl))
  f320 := Tryd.func112.trans (congrArg some (by kernel_rfl))
  f337 := Tryd.func113.trans (congrArg some (by kernel_rfl))
  f338 := Tryd.func114.trans (congrArg some (by kernel_rfl))
  t0 := Tryd.underlying0
  a0 := Tryd.isAgg0
  z0 := Tryd.sizeOf0
  v0 := Tryd.zeroValue0
  t2 := Tryd.underlying2
  a2 := Tryd.isAgg2
  z2 := Tryd.sizeOf2
  v2 := Tryd.zeroValue2
  t3 := Tryd.underlying3
  a3 := Tryd.isAgg3
  z3 := Tryd.sizeOf3
  v3 := Tryd.zeroValue3
  t4 := Tryd.underlying4
  a4 := Tryd.isAgg4
  z4 := Tryd.sizeOf4
  v4 := Tryd.zeroValue4
  t5 := Tryd.underlying5
  a5 := Tryd.isAgg5
  z5 := Tryd.sizeOf5
  v5 := Tryd.zeroValue5
  t9 := Tryd.underlying9
  a9 := Tryd.isAgg9
  z9 := Tryd.sizeOf9
  v9 := Tryd.zeroValue9
  t20 := Tryd.underlying20
  a20 := Tryd.isAgg20
  z20 := Tryd.sizeOf20
  v20 := Tryd.zeroValue20
  t37 := Tryd.underlying83
  a37 := Tryd.isAgg83
  z37 := Tryd.sizeOf83
  v37 := Tryd.zeroValue83
  t46 := Tryd.underlying128
  a46 := Tryd.isAgg128
  z46 := Tryd.sizeOf128
  v46 := Tryd.zeroValue128
  t51 := Tryd.underlying125
  a51 := Tryd.isAgg125
  z51 := Tryd.sizeOf125
  v51 := Tryd.zeroValue125
  t53 := Tryd.underlying117
  a53 := Tryd.isAgg117
  z53 := Tryd.sizeOf117
  v53 := Tryd.zeroValue117
  t171 := Tryd.underlying116
  a171 := Tryd.isAgg116
  z171 := Tryd.sizeOf116
  v171 := Tryd.zeroValue116
  t173 := Tryd.underlying120
  a173 := Tryd.isAgg120
  z173 := Tryd.sizeOf120
  v173 := Tryd.zeroValue120
  t212 := Tryd.underlying124
  a212 := Tryd.isAgg124
  z212 := Tryd.sizeOf124
  v212 := Tryd.zeroValue124
  t213 := Tryd.underlying126
  a213 := Tryd.isAgg126
  z213 := Tryd.sizeOf126
  t232 := Tryd.underlying131
  a232 := Tryd.isAgg131
  z232 := Tryd.sizeOf131
  v232 := Tryd.zeroValue131
  t233 := Tryd.underlying132
  a233 := Tryd.isAgg132
  z233 := Tryd.sizeOf132
  v233 := Tryd.zeroValue132
  g17 := by kernel_rfl
  g18 := by kernel_rfl
  g19 := by kernel_rfl
  i0 := by kernel_rfl
  i2 := by kernel_rfl
  i3 := by kernel_rfl
  i4 := by kernel_rfl
  i5 := by kernel_rfl
  i9 := by kernel_rfl
  i20 := by kernel_rfl
  i37 := by kernel_rfl
  i46 := by kernel_rfl
  i51 := by kernel_rfl
  i53 := by kernel_rfl
  i171 := by kernel_rfl
  i173 := by kernel_rfl
  i212 := by kernel_rfl
  i232 := by kernel_rfl
  i233 := by kernel_rfl
  m17 := by kernel_rfl
  m18 := by kernel_rfl
  m19 := by kernel_rfl }
open Go.RowKit Go.Sort Go.Lib in
/-- internal/strconv.FormatInt: "FormatInt returns the string representation of i in the given base": AT BASE 10: i's decimal numeral, for every int64. The world behind the call: the world before it, new blocks behind the heap, draws. (LAID: no (repeat' (refine RunsF.cond (fun _ => ?_) (fun _ => ?_))): one application.) -/
theorem Tryd.internal_strconv_FormatInt_10 (n : Int) (h0 : -9223372036854775808 ≤ n) (h1 : n ≤ 9223372036854775807) (w : World) (htab : Lib.TabIs Tryd.prog w "internal/strconv.uint64pow10" .u64 Lib.pow10Tab) :
    Calls Tryd.prog 99 #[.int .i64 n, .int .i64 10] w fun e w' => e = .returned (.string ⟨(Lib.itoa n).toArray⟩) ∧ ∃ k os, w' = grow (w.drewN k) os := Any.internal_strconv_FormatInt_10 Tryd.laysM246 n h0 h1 w htab
def Tryd.lays246_ren : Go.Shelf.Ren := ⟨fun | 246 => 99 | 283 => 104 | 284 => 105 | 285 => 106 | 286 => 107 | 129 => 109 | 317 => 108 | 318 => 110 | 319 => 111 | 320 => 112 | 337 => 113 | 338 => 114 | n => n, fun | 2 => 2 | 3 => 3 | 9 => 9 | 4 => 4 | 171 => 116 | 0 => 0 | 53 => 117 | 37 => 83 | 5 => 5 | 173 => 120 | 212 => 124 | 51 => 125 | 20 => 20 | 213 => 126 | 46 => 128 | 232 => 131 | 233 => 132 | n => n, fun | 17 => 1 | 18 => 2 | 19 => 3 | n => n⟩
theorem Tryd.lays246 : Go.Proofs.Lays.n246 Tryd.prog Tryd.lays246_ren := {
  mixed := by kernel_rfl
  f129 := Tryd.func109.trans (congrArg some (by kernel_rfl))
  f246 := Tryd.func99.trans (congrArg some (by kernel_rfl))
  f283 := Tryd.func104.trans (congrArg some (by kernel_rfl))
  f284 := Tryd.func105.trans (congrArg some (by kernel_rfl))
  f285 := Tryd.func106.trans (congrArg some (by kernel_rfl))
  f286 := Tryd.func107.trans (congrArg some (by kernel_rfl))
  f317 := Tryd.func108.trans (congrArg some (by kernel_rfl))
  f318 := Tryd.func110.trans (congrArg some (by kernel_rfl))
  f319 := Tryd.func111.trans (congrArg some (by kernel_rfl))
  f320 := Tryd.func112.trans (congrArg some (by kernel_rfl))
  f337 := Tryd.func113.trans (congrArg some (by kernel_rfl))
  f338 := Tryd.func114.trans (congrArg some (by kernel_rfl))
  t0 := Tryd.underlying0
  a0 := Tryd.isAgg0
  z0 := Tryd.sizeOf0
  v0 := Tryd.zeroValue0
  t2 := Tryd.underlying2
  a2 := Tryd.isAgg2
  z2 := Tryd.sizeOf2
  v2 := Tryd.zeroValue2
  t3 := Tryd.underlying3
  a3 := Tryd.isAgg3
  z3 := Tryd.sizeOf3
  v3 := Tryd.zeroValue3
  t4 := Tryd.underlying4
  a4 := Tryd.isAgg4
  z4 := Tryd.sizeOf4
  v4 := Tryd.zeroValue4
  t5 := Tryd.underlying5
  a5 := Tryd.isAgg5
  z5 := Tryd.sizeOf5
  v5 := Tryd.zeroValue5
  t9 := Tryd.underlying9
  a9 := Tryd.isAgg9
  z9 := Tryd.sizeOf9
  v9 := Tryd.zeroValue9
  t20 := Tryd.underlying20
  a20 := Tryd.isAgg20
  z20 := Tryd.sizeOf20
  v20 := Tryd.zeroValue20
  t37 := Tryd.underlying83
  a37 := Tryd.isAgg83
  z37 := Tryd.sizeOf83
  v37 := Tryd.zeroValue83
  t46 := Tryd.underlying128
  a46 := Tryd.isAgg128
  z46 := Tryd.sizeOf128
  v46 := Tryd.zeroValue128
  t51 := Tryd.underlying125
  a51 := Tryd.isAgg125
  z51 := Tryd.sizeOf125
  v51 := Tryd.zeroValue125
  t53 := Tryd.underlying117
  a53 := Tryd.isAgg117
  z53 := Tryd.sizeOf117
  v53 := Tryd.zeroValue117
  t171 := Tryd.underlying116
  a171 := Tryd.isAgg116
  z171 := Tryd.sizeOf116
  v171 := Tryd.zeroValue116
  t173 := Tryd.underlying120
  a173 := Tryd.isAgg120
  z173 := Tryd.sizeOf120
  v173 := Tryd.zeroValue120
  t212 := Tryd.underlying124
  a212 := Tryd.isAgg124
  z212 := Tryd.sizeOf124
  v212 := Tryd.zeroValue124
  t213 := Tryd.underlying126
  a213 := Tryd.isAgg126
  z213 := Tryd.sizeOf126
  t232 := Tryd.underlying131
  a232 := Tryd.isAgg131
  z232 := Tryd.sizeOf131
  v232 := Tryd.zeroValue131
  t233 := Tryd.underlying132
  a233 := Tryd.isAgg132
  z233 := Tryd.sizeOf132
  v233 := Tryd.zeroValue132
  g17 := by kernel_rfl
  g18 := by kernel_rfl
  g19 := by kernel_rfl }
open Go.RowKit Go.Sort Go.Lib in
/-- THE ROAD WITHOUT THE TABLE: 0 <= i < 100: two constants are read, nothing is laid: no premise on the world, and the world is as it was. (LAID: no (repeat' (refine RunsF.cond (fun _ => ?_) (fun _ => ?_))): one application.) -/
theorem Tryd.internal_strconv_FormatInt_10_small (i : Nat) (hi : i < 100) (w : World) :
    Calls Tryd.prog 99 #[.int .i64 i, .int .i64 10] w fun e w' => e = .returned (.string ⟨(Lib.decDigits i).toArray⟩) ∧ w' = w := Any.internal_strconv_FormatInt_10_small Tryd.lays246 i hi w
def Tryd.laysM243_ren : Go.Shelf.Ren := ⟨fun | 243 => 88 | 246 => 99 | 283 => 104 | 284 => 105 | 285 => 106 | 286 => 107 | 129 => 109 | 317 => 108 | 318 => 110 | 319 => 111 | 320 => 112 | 337 => 113 | 338 => 114 | n => n, fun | 3 => 3 | 9 => 9 | 2 => 2 | 4 => 4 | 171 => 116 | 0 => 0 | 53 => 117 | 37 => 83 | 5 => 5 | 173 => 120 | 212 => 124 | 51 => 125 | 20 => 20 | 213 => 126 | 46 => 128 | 232 => 131 | 233 => 132 | n => n, fun | 17 => 1 | 18 => 2 | 19 => 3 | n => n⟩
theorem Tryd.laysM243 : Go.Proofs.LaysM.n243 Tryd.prog Tryd.laysM243_ren := {
  mixed := by kernel_rfl
  f129 := Tryd.func109.trans (congrArg some (by kernel_rfl))
  f243 := Tryd.func88.trans (congrArg some (by kernel_rfl))
  f246 := Tryd.func99.trans (congrArg some (by kernel_rfl))
  f283 := Tryd.func104.trans (congrArg some (by kernel_rfl))
  f284 := Tryd.func105.trans (congrArg some (by kernel_rfl))
  f285 := Tryd.func106.trans (congrArg some (by kernel_rfl))
  f286 := Tryd.func107.trans (congrArg some (by kernel_rfl))
  f317 := Tryd.func108.trans (congrArg some (by kernel_rfl))
  f318 := Tryd.func110.trans (congrArg some (by kernel_rfl))
  f319 := Tryd.func111.trans (congrArg some (by kernel_rfl))
  f320 := Tryd.func112.trans (congrArg some (by kernel_rfl))
  f337 := Tryd.func113.trans (congrArg some (by kernel_rfl))
  f338 := Tryd.func114.trans (congrArg some (by kernel_rfl))
  t0 := Tryd.underlying0
  a0 := Tryd.isAgg0
  z0 := Tryd.sizeOf0
  v0 := Tryd.zeroValue0
  t2 := Tryd.underlying2
  a2 := Tryd.isAgg2
  z2 := Tryd.sizeOf2
  v2 := Tryd.zeroValue2
  t3 := Tryd.underlying3
  a3 := Tryd.isAgg3
  z3 := Tryd.sizeOf3
  v3 := Tryd.zeroValue3
  t4 := Tryd.underlying4
  a4 := Tryd.isAgg4
  z4 := Tryd.sizeOf4
  v4 := Tryd.zeroValue4
  t5 := Tryd.underlying5
  a5 := Tryd.isAgg5
  z5 := Tryd.sizeOf5
  v5 := Tryd.zeroValue5
  t9 := Tryd.underlying9
  a9 := Tryd.isAgg9
  z9 := Tryd.sizeOf9
  v9 := Tryd.zeroValue9
  t20 := Tryd.underlying20
  a20 := Tryd.isAgg20
  z20 := Tryd.sizeOf20
  v20 := Tryd.zeroValue20
  t37 := Tryd.underlying83
  a37 := Tryd.isAgg83
  z37 := Tryd.sizeOf83
  v37 := Tryd.zeroValue83
  t46 := Tryd.underlying128
  a46 := Tryd.isAgg128
  z46 := Tryd.sizeOf128
  v46 := Tryd.zeroValue128
  t51 := Tryd.underlying125
  a51 := Tryd.isAgg125
  z51 := Tryd.sizeOf125
  v51 := Tryd.zeroValue125
  t53 := Tryd.underlying117
  a53 := Tryd.isAgg117
  z53 := Tryd.sizeOf117
  v53 := Tryd.zeroValue117
  t171 := Tryd.underlying116
  a171 := Tryd.isAgg116
  z171 := Tryd.sizeOf116
  v171 := Tryd.zeroValue116
  t173 := Tryd.underlying120
  a173 := Tryd.isAgg120
  z173 := Tryd.sizeOf120
  v173 := Tryd.zeroValue120
  t212 := Tryd.underlying124
  a212 := Tryd.isAgg124
  z212 := Tryd.sizeOf124
  v212 := Tryd.zeroValue124
  t213 := Tryd.underlying126
  a213 := Tryd.isAgg126
  z213 := Tryd.sizeOf126
  t232 := Tryd.underlying131
  a232 := Tryd.isAgg131
  z232 := Tryd.sizeOf131
  v232 := Tryd.zeroValue131
  t233 := Tryd.underlying132
  a233 := Tryd.isAgg132
  z233 := Tryd.sizeOf132
  v233 := Tryd.zeroValue132
  g17 := by kernel_rfl
  g18 := by kernel_rfl
  g19 := by kernel_rfl
  i0 := by kernel_rfl
  i2 := by kernel_rfl
  i3 := by kernel_rfl
  i4 := by kernel_rfl
  i5 := by kernel_rfl
  i9 := by kernel_rfl
  i20 := by kernel_rfl
  i37 := by kernel_rfl
  i46 := by kernel_rfl
  i51 := by kernel_rfl
  i53 := by kernel_rfl
  i171 := by kernel_rfl
  i173 := by kernel_rfl
  i212 := by kernel_rfl
  i232 := by kernel_rfl
  i233 := by kernel_rfl
  m17 := by kernel_rfl
  m18 := by kernel_rfl
  m19 := by kernel_rfl }
open Go.RowKit Go.Sort Go.Lib in
/-- internal/strconv.Itoa: "Itoa is equivalent to FormatInt(int64(i), 10).": i's decimal numeral, for every int. (LAID: no (repeat' (refine RunsF.cond (fun _ => ?_) (fun _ => ?_))): one application.) -/
theorem Tryd.internal_strconv_Itoa (n : Int) (h0 : -9223372036854775808 ≤ n) (h1 : n ≤ 9223372036854775807) (w : World) (htab : Lib.TabIs Tryd.prog w "internal/strconv.uint64pow10" .u64 Lib.pow10Tab) :
    Calls Tryd.prog 88 #[.int .i64 n] w fun e w' => e = .returned (.string ⟨(Lib.itoa n).toArray⟩) ∧ ∃ k os, w' = grow (w.drewN k) os := Any.internal_strconv_Itoa Tryd.laysM243 n h0 h1 w htab
def Tryd.lays243_ren : Go.Shelf.Ren := ⟨fun | 243 => 88 | 246 => 99 | 283 => 104 | 284 => 105 | 285 => 106 | 286 => 107 | 129 => 109 | 317 => 108 | 318 => 110 | 319 => 111 | 320 => 112 | 337 => 113 | 338 => 114 | n => n, fun | 3 => 3 | 9 => 9 | 2 => 2 | 4 => 4 | 171 => 116 | 0 => 0 | 53 => 117 | 37 => 83 | 5 => 5 | 173 => 120 | 212 => 124 | 51 => 125 | 20 => 20 | 213 => 126 | 46 => 128 | 232 => 131 | 233 => 132 | n => n, fun | 17 => 1 | 18 => 2 | 19 => 3 | n => n⟩
theorem Tryd.lays243 : Go.Proofs.Lays.n243 Tryd.prog Tryd.lays243_ren := {
  mixed := by kernel_rfl
  f129 := Tryd.func109.trans (congrArg some (by kernel_rfl))
  f243 := Tryd.func88.trans (congrArg some (by kernel_rfl))
  f246 := Tryd.func99.trans (congrArg some (by kernel_rfl))
  f283 := Tryd.func104.trans (congrArg some (by kernel_rfl))
  f284 := Tryd.func105.trans (congrArg some (by kernel_rfl))
  f285 := Tryd.func106.trans (congrArg some (by kernel_rfl))
  f286 := Tryd.func107.trans (congrArg some (by kernel_rfl))
  f317 := Tryd.func108.trans (congrArg some (by kernel_rfl))
  f318 := Tryd.func110.trans (congrArg some (by kernel_rfl))
  f319 := Tryd.func111.trans (congrArg some (by kernel_rfl))
  f320 := Tryd.func112.trans (congrArg some (by kernel_rfl))
  f337 := Tryd.func113.trans (congrArg some (by kernel_rfl))
  f338 := Tryd.func114.trans (congrArg some (by kernel_rfl))
  t0 := Tryd.underlying0
  a0 := Tryd.isAgg0
  z0 := Tryd.sizeOf0
  v0 := Tryd.zeroValue0
  t2 := Tryd.underlying2
  a2 := Tryd.isAgg2
  z2 := Tryd.sizeOf2
  v2 := Tryd.zeroValue2
  t3 := Tryd.underlying3
  a3 := Tryd.isAgg3
  z3 := Tryd.sizeOf3
  v3 := Tryd.zeroValue3
  t4 := Tryd.underlying4
  a4 := Tryd.isAgg4
  z4 := Tryd.sizeOf4
  v4 := Tryd.zeroValue4
  t5 := Tryd.underlying5
  a5 := Tryd.isAgg5
  z5 := Tryd.sizeOf5
  v5 := Tryd.zeroValue5
  t9 := Tryd.underlying9
  a9 := Tryd.isAgg9
  z9 := Tryd.sizeOf9
  v9 := Tryd.zeroValue9
  t20 := Tryd.underlying20
  a20 := Tryd.isAgg20
  z20 := Tryd.sizeOf20
  v20 := Tryd.zeroValue20
  t37 := Tryd.underlying83
  a37 := Tryd.isAgg83
  z37 := Tryd.sizeOf83
  v37 := Tryd.zeroValue83
  t46 := Tryd.underlying128
  a46 := Tryd.isAgg128
  z46 := Tryd.sizeOf128
  v46 := Tryd.zeroValue128
  t51 := Tryd.underlying125
  a51 := Tryd.isAgg125
  z51 := Tryd.sizeOf125
  v51 := Tryd.zeroValue125
  t53 := Tryd.underlying117
  a53 := Tryd.isAgg117
  z53 := Tryd.sizeOf117
  v53 := Tryd.zeroValue117
  t171 := Tryd.underlying116
  a171 := Tryd.isAgg116
  z171 := Tryd.sizeOf116
  v171 := Tryd.zeroValue116
  t173 := Tryd.underlying120
  a173 := Tryd.isAgg120
  z173 := Tryd.sizeOf120
  v173 := Tryd.zeroValue120
  t212 := Tryd.underlying124
  a212 := Tryd.isAgg124
  z212 := Tryd.sizeOf124
  v212 := Tryd.zeroValue124
  t213 := Tryd.underlying126
  a213 := Tryd.isAgg126
  z213 := Tryd.sizeOf126
  t232 := Tryd.underlying131
  a232 := Tryd.isAgg131
  z232 := Tryd.sizeOf131
  v232 := Tryd.zeroValue131
  t233 := Tryd.underlying132
  a233 := Tryd.isAgg132
  z233 := Tryd.sizeOf132
  v233 := Tryd.zeroValue132
  g17 := by kernel_rfl
  g18 := by kernel_rfl
  g19 := by kernel_rfl }
open Go.RowKit Go.Sort Go.Lib in
/-- THE ROAD WITHOUT THE TABLE: 0 <= i < 100. (LAID: no (repeat' (refine RunsF.cond (fun _ => ?_) (fun _ => ?_))): one application.) -/
theorem Tryd.internal_strconv_Itoa_small (i : Nat) (hi : i < 100) (w : World) :
    Calls Tryd.prog 88 #[.int .i64 i] w fun e w' => e = .returned (.string ⟨(Lib.decDigits i).toArray⟩) ∧ w' = w := Any.internal_strconv_Itoa_small Tryd.lays243 i hi w
def Tryd.laysM171_ren : Go.Shelf.Ren := ⟨fun | 171 => 73 | 243 => 88 | 246 => 99 | 283 => 104 | 284 => 105 | 285 => 106 | 286 => 107 | 129 => 109 | 317 => 108 | 318 => 110 | 319 => 111 | 320 => 112 | 337 => 113 | 338 => 114 | n => n, fun | 3 => 3 | 9 => 9 | 2 => 2 | 4 => 4 | 171 => 116 | 0 => 0 | 53 => 117 | 37 => 83 | 5 => 5 | 173 => 120 | 212 => 124 | 51 => 125 | 20 => 20 | 213 => 126 | 46 => 128 | 232 => 131 | 233 => 132 | n => n, fun | 17 => 1 | 18 => 2 | 19 => 3 | n => n⟩
theorem Tryd.laysM171 : Go.Proofs.LaysM.n171 Tryd.prog Tryd.laysM171_ren := {
  mixed := by kernel_rfl
  f129 := Tryd.func109.trans (congrArg some (by kernel_rfl))
  f171 := Tryd.func73.trans (congrArg some (by kernel_rfl))
  f243 := Tryd.func88.trans (congrArg some (by kernel_rfl))
  f246 := Tryd.func99.trans (congrArg some (by kernel_rfl))
  f283 := Tryd.func104.trans (congrArg some (by kernel_rfl))
  f284 := Tryd.func105.trans (congrArg some (by kernel_rfl))
  f285 := Tryd.func106.trans (congrArg some (by kernel_rfl))
  f286 := Tryd.func107.trans (congrArg some (by kernel_rfl))
  f317 := Tryd.func108.trans (congrArg some (by kernel_rfl))
  f318 := Tryd.func110.trans (congrArg some (by kernel_rfl))
  f319 := Tryd.func111.trans (congrArg some (by kernel_rfl))
  f320 := Tryd.func112.trans (congrArg some (by kernel_rfl))
  f337 := Tryd.func113.trans (congrArg some (by kernel_rfl))
  f338 := Tryd.func114.trans (congrArg some (by kernel_rfl))
  t0 := Tryd.underlying0
  a0 := Tryd.isAgg0
  z0 := Tryd.sizeOf0
  v0 := Tryd.zeroValue0
  t2 := Tryd.underlying2
  a2 := Tryd.isAgg2
  z2 := Tryd.sizeOf2
  v2 := Tryd.zeroValue2
  t3 := Tryd.underlying3
  a3 := Tryd.isAgg3
  z3 := Tryd.sizeOf3
  v3 := Tryd.zeroValue3
  t4 := Tryd.underlying4
  a4 := Tryd.isAgg4
  z4 := Tryd.sizeOf4
  v4 := Tryd.zeroValue4
  t5 := Tryd.underlying5
  a5 := Tryd.isAgg5
  z5 := Tryd.sizeOf5
  v5 := Tryd.zeroValue5
  t9 := Tryd.underlying9
  a9 := Tryd.isAgg9
  z9 := Tryd.sizeOf9
  v9 := Tryd.zeroValue9
  t20 := Tryd.underlying20
  a20 := Tryd.isAgg20
  z20 := Tryd.sizeOf20
  v20 := Tryd.zeroValue20
  t37 := Tryd.underlying83
  a37 := Tryd.isAgg83
  z37 := Tryd.sizeOf83
  v37 := Tryd.zeroValue83
  t46 := Tryd.underlying128
  a46 := Tryd.isAgg128
  z46 := Tryd.sizeOf128
  v46 := Tryd.zeroValue128
  t51 := Tryd.underlying125
  a51 := Tryd.isAgg125
  z51 := Tryd.sizeOf125
  v51 := Tryd.zeroValue125
  t53 := Tryd.underlying117
  a53 := Tryd.isAgg117
  z53 := Tryd.sizeOf117
  v53 := Tryd.zeroValue117
  t171 := Tryd.underlying116
  a171 := Tryd.isAgg116
  z171 := Tryd.sizeOf116
  v171 := Tryd.zeroValue116
  t173 := Tryd.underlying120
  a173 := Tryd.isAgg120
  z173 := Tryd.sizeOf120
  v173 := Tryd.zeroValue120
  t212 := Tryd.underlying124
  a212 := Tryd.isAgg124
  z212 := Tryd.sizeOf124
  v212 := Tryd.zeroValue124
  t213 := Tryd.underlying126
  a213 := Tryd.isAgg126
  z213 := Tryd.sizeOf126
  t232 := Tryd.underlying131
  a232 := Tryd.isAgg131
  z232 := Tryd.sizeOf131
  v232 := Tryd.zeroValue131
  t233 := Tryd.underlying132
  a233 := Tryd.isAgg132
  z233 := Tryd.sizeOf132
  v233 := Tryd.zeroValue132
  g17 := by kernel_rfl
  g18 := by kernel_rfl
  g19 := by kernel_rfl
  i0 := by kernel_rfl
  i2 := by kernel_rfl
  i3 := by kernel_rfl
  i4 := by kernel_rfl
  i5 := by kernel_rfl
  i9 := by kernel_rfl
  i20 := by kernel_rfl
  i37 := by kernel_rfl
  i46 := by kernel_rfl
  i51 := by kernel_rfl
  i53 := by kernel_rfl
  i171 := by kernel_rfl
  i173 := by kernel_rfl
  i212 := by kernel_rfl
  i232 := by kernel_rfl
  i233 := by kernel_rfl
  m17 := by kernel_rfl
  m18 := by kernel_rfl
  m19 := by kernel_rfl }
open Go.RowKit Go.Sort Go.Lib in
/-- strconv.Itoa: "Itoa is equivalent to FormatInt(int64(i), 10).": i's DECIMAL NUMERAL ('Lib.itoa': a '-' where i is negative, then the digits), FOR EVERY int. The world behind the call: the world before it, new blocks behind the heap (the library's 'var a [24]byte'), draws. (LAID: no (repeat' (refine RunsF.cond (fun _ => ?_) (fun _ => ?_))): one application.) -/
theorem Tryd.strconv_Itoa (n : Int) (h0 : -9223372036854775808 ≤ n) (h1 : n ≤ 9223372036854775807) (w : World) (htab : Lib.TabIs Tryd.prog w "internal/strconv.uint64pow10" .u64 Lib.pow10Tab) :
    Calls Tryd.prog 73 #[.int .i64 n] w fun e w' => e = .returned (.string ⟨(Lib.itoa n).toArray⟩) ∧ ∃ k os, w' = grow (w.drewN k) os := Any.strconv_Itoa Tryd.laysM171 n h0 h1 w htab
def Tryd.lays171_ren : Go.Shelf.Ren := ⟨fun | 171 => 73 | 243 => 88 | 246 => 99 | 283 => 104 | 284 => 105 | 285 => 106 | 286 => 107 | 129 => 109 | 317 => 108 | 318 => 110 | 319 => 111 | 320 => 112 | 337 => 113 | 338 => 114 | n => n, fun | 3 => 3 | 9 => 9 | 2 => 2 | 4 => 4 | 171 => 116 | 0 => 0 | 53 => 117 | 37 => 83 | 5 => 5 | 173 => 120 | 212 => 124 | 51 => 125 | 20 => 20 | 213 => 126 | 46 => 128 | 232 => 131 | 233 => 132 | n => n, fun | 17 => 1 | 18 => 2 | 19 => 3 | n => n⟩
theorem Tryd.lays171 : Go.Proofs.Lays.n171 Tryd.prog Tryd.lays171_ren := {
  mixed := by kernel_rfl
  f129 := Tryd.func109.trans (congrArg some (by kernel_rfl))
  f171 := Tryd.func73.trans (congrArg some (by kernel_rfl))
  f243 := Tryd.func88.trans (congrArg some (by kernel_rfl))
  f246 := Tryd.func99.trans (congrArg some (by kernel_rfl))
  f283 := Tryd.func104.trans (congrArg some (by kernel_rfl))
  f284 := Tryd.func105.trans (congrArg some (by kernel_rfl))
  f285 := Tryd.func106.trans (congrArg some (by kernel_rfl))
  f286 := Tryd.func107.trans (congrArg some (by kernel_rfl))
  f317 := Tryd.func108.trans (congrArg some (by kernel_rfl))
  f318 := Tryd.func110.trans (congrArg some (by kernel_rfl))
  f319 := Tryd.func111.trans (congrArg some (by kernel_rfl))
  f320 := Tryd.func112.trans (congrArg some (by kernel_rfl))
  f337 := Tryd.func113.trans (congrArg some (by kernel_rfl))
  f338 := Tryd.func114.trans (congrArg some (by kernel_rfl))
  t0 := Tryd.underlying0
  a0 := Tryd.isAgg0
  z0 := Tryd.sizeOf0
  v0 := Tryd.zeroValue0
  t2 := Tryd.underlying2
  a2 := Tryd.isAgg2
  z2 := Tryd.sizeOf2
  v2 := Tryd.zeroValue2
  t3 := Tryd.underlying3
  a3 := Tryd.isAgg3
  z3 := Tryd.sizeOf3
  v3 := Tryd.zeroValue3
  t4 := Tryd.underlying4
  a4 := Tryd.isAgg4
  z4 := Tryd.sizeOf4
  v4 := Tryd.zeroValue4
  t5 := Tryd.underlying5
  a5 := Tryd.isAgg5
  z5 := Tryd.sizeOf5
  v5 := Tryd.zeroValue5
  t9 := Tryd.underlying9
  a9 := Tryd.isAgg9
  z9 := Tryd.sizeOf9
  v9 := Tryd.zeroValue9
  t20 := Tryd.underlying20
  a20 := Tryd.isAgg20
  z20 := Tryd.sizeOf20
  v20 := Tryd.zeroValue20
  t37 := Tryd.underlying83
  a37 := Tryd.isAgg83
  z37 := Tryd.sizeOf83
  v37 := Tryd.zeroValue83
  t46 := Tryd.underlying128
  a46 := Tryd.isAgg128
  z46 := Tryd.sizeOf128
  v46 := Tryd.zeroValue128
  t51 := Tryd.underlying125
  a51 := Tryd.isAgg125
  z51 := Tryd.sizeOf125
  v51 := Tryd.zeroValue125
  t53 := Tryd.underlying117
  a53 := Tryd.isAgg117
  z53 := Tryd.sizeOf117
  v53 := Tryd.zeroValue117
  t171 := Tryd.underlying116
  a171 := Tryd.isAgg116
  z171 := Tryd.sizeOf116
  v171 := Tryd.zeroValue116
  t173 := Tryd.underlying120
  a173 := Tryd.isAgg120
  z173 := Tryd.sizeOf120
  v173 := Tryd.zeroValue120
  t212 := Tryd.underlying124
  a212 := Tryd.isAgg124
  z212 := Tryd.sizeOf124
  v212 := Tryd.zeroValue124
  t213 := Tryd.underlying126
  a213 := Tryd.isAgg126
  z213 := Tryd.sizeOf126
  t232 := Tryd.underlying131
  a232 := Tryd.isAgg131
  z232 := Tryd.sizeOf131
  v232 := Tryd.zeroValue131
  t233 := Tryd.underlying132
  a233 := Tryd.isAgg132
  z233 := Tryd.sizeOf132
  v233 := Tryd.zeroValue132
  g17 := by kernel_rfl
  g18 := by kernel_rfl
  g19 := by kernel_rfl }
open Go.RowKit Go.Sort Go.Lib in
/-- THE ROAD WITHOUT THE TABLE: 0 <= i < 100: NO PREMISE ON THE WORLD, AND THE WORLD IS AS IT WAS: a row that keeps its argument in that range need list no table ('laid = []'). (LAID: no (repeat' (refine RunsF.cond (fun _ => ?_) (fun _ => ?_))): one application.) -/
theorem Tryd.strconv_Itoa_small (i : Nat) (hi : i < 100) (w : World) :
    Calls Tryd.prog 73 #[.int .i64 i] w fun e w' => e = .returned (.string ⟨(Lib.decDigits i).toArray⟩) ∧ w' = w := Any.strconv_Itoa_small Tryd.lays171 i hi w
def Tryd.lays217_ren : Go.Shelf.Ren := ⟨fun | 217 => 96 | 266 => 103 | n => n, fun | 9 => 9 | 5 => 5 | 3 => 3 | n => n, fun | n => n⟩
theorem Tryd.lays217 : Go.Proofs.Lays.n217 Tryd.prog Tryd.lays217_ren := {
  mixed := by kernel_rfl
  f217 := Tryd.func96.trans (congrArg some (by kernel_rfl))
  f266 := Tryd.func103.trans (congrArg some (by kernel_rfl))
  t3 := Tryd.underlying3
  a3 := Tryd.isAgg3
  z3 := Tryd.sizeOf3
  v3 := Tryd.zeroValue3
  t5 := Tryd.underlying5
  a5 := Tryd.isAgg5
  z5 := Tryd.sizeOf5
  v5 := Tryd.zeroValue5
  t9 := Tryd.underlying9
  a9 := Tryd.isAgg9
  z9 := Tryd.sizeOf9
  v9 := Tryd.zeroValue9 }
open Go.RowKit Go.Lib in
/-- internal/stringslite.IndexByte (what strings.IndexByte calls): IT RETURNS 'Lib.indexByte s c'; the world is as it was. (LAID: no (repeat' (refine RunsF.cond (fun _ => ?_) (fun _ => ?_))): one application.) -/
theorem Tryd.stringslite_IndexByte (s : ByteArray) (c : Int) (w : World) :
    Calls Tryd.prog 96 #[.string s, .int .u8 c] w fun e w' => e = .returned (.int .i64 (Lib.indexByte s.data.toList c.toNat.toUInt8)) ∧ w' = w := Any.stringslite_IndexByte Tryd.lays217 s c w
end Go.Proofs
namespace Go.Ab
open Go.Proofs

theorem u8_of (b : UInt8) : u8 (b.toNat : Int) = b := by
  unfold u8
  rw [Int.toNat_natCast]
  exact UInt8.ofNat_toNat
theorem okB_of {c : Int} (h : okB c = true) : ∃ b : UInt8, c = (b.toNat : Int) := by
  unfold okB at h
  rw [Bool.and_eq_true] at h
  have h1 := leI_t h.1
  have h2 := leI_t h.2
  refine ⟨UInt8.ofNat c.toNat, ?_⟩
  rw [u8_nat (by omega)]; omega
theorem okB_u8 (b : UInt8) : okB (b.toNat : Int) = true := by
  unfold okB
  have := b.toNat_lt
  rw [ev_le_t (by omega), ev_le_t (by omega)]; rfl
theorem ixB_mem (c : UInt8) : ∀ l : List UInt8, (Lib.indexByte l c = -1 ∧ c ∉ l) ∨ (0 ≤ Lib.indexByte l c ∧ c ∈ l)
  | [] => .inl ⟨rfl, by simp⟩
  | b :: l => by
    by_cases h : b = c
    · subst h
      right
      simp [Lib.indexByte]
    · have hb : (b == c) = false := by simpa using h
      have h' : c ≠ b := fun e => h e.symm
      rcases ixB_mem c l with ⟨h1, h2⟩ | ⟨h1, h2⟩
      · left; simp [Lib.indexByte, hb, h1, h2, h']
      · right
        have h3 : (Lib.indexByte l c == -1) = false := by simp; omega
        refine ⟨?_, List.mem_cons_of_mem _ h2⟩
        simp [Lib.indexByte, hb, h3]; omega
theorem ixB_le (c : UInt8) (l : List UInt8) : leI 0 (Lib.indexByte l c) = decide (c ∈ l) := by
  rcases ixB_mem c l with ⟨h1, h2⟩ | ⟨h1, h2⟩
  · rw [h1, decide_eq_false h2]; rfl
  · rw [ev_le_t h1, decide_eq_true h2]
theorem arr1 {vs : Array Value} {a : Value} (h : vs.toList = [a]) : vs = #[a] := by rw [← Array.toArray_toList (xs := vs), h]
theorem arr2 {vs : Array Value} {a b : Value} (h : vs.toList = [a, b]) : vs = #[a, b] := by rw [← Array.toArray_toList (xs := vs), h]
theorem args_si {C : Cfg} {w : World} {fz : Fz} {ρ : Rho} {vs : Array Value} {s : ByteArray} {k : IntKind} {c : Int} (h : RepDs (Rep C.P w fz ρ) vs.toList [.lf (.str s), .lf (.int k c)]) : vs = #[.string s, .int k c] := by
  match hv : vs.toList, h with
  | [a, b], h =>
    simp only [RepDs, RepD] at h
    obtain ⟨h1, h2, _⟩ := h
    rw [arr2 hv, rep_str h1, rep_int h2]
theorem args_i {C : Cfg} {w : World} {fz : Fz} {ρ : Rho} {vs : Array Value} {k : IntKind} {c : Int} (h : RepDs (Rep C.P w fz ρ) vs.toList [.lf (.int k c)]) : vs = #[.int k c] := by
  match hv : vs.toList, h with
  | [a], h =>
    simp only [RepDs, RepD] at h
    rw [arr1 hv, rep_int h.1]
theorem IndexByte_holds : Holds k_IndexByte := extFor_plain (C := cfg []) (fn := Tryd.f84) (t := 3) (k := .int .i64) Tryd.func84 rfl (by kernel_rfl) (by kernel_rfl) (by simp) fun aa hp r h => by
  simp only [k_IndexByte] at h
  split at h
  case h_2 => cases h
  rename_i s c
  obtain ⟨_, rfl⟩ := xo h
  refine ⟨_, rfl, rfl, ⟨_, rfl⟩, fun w fz ρ vs ha => ⟨_, .int _ _, ?_⟩⟩
  rw [args_si ha]
  exact Tryd.strings_IndexByte s c w
theorem decN_eq {n : Nat} (h : n ≤ 99) : Lib.decDigits n = decN (n : Int) := by
  unfold decN
  by_cases h1 : n < 10
  · rw [Lib.decDigits, dif_pos h1, if_pos (by omega)]; rfl
  · rw [Lib.decDigits, dif_neg h1, if_neg (by omega), Lib.decDigits, dif_pos (by omega)]
    simp only [Int.toNat_natCast, List.singleton_append, List.cons.injEq, and_true]
    rw [show n / 10 % 10 = n / 10 from by omega]
theorem decN_len (n : Int) : (decN n).length ≤ 2 := by unfold decN; split <;> simp
theorem Itoa_holds : Holds k_Itoa := extFor_plain (C := cfg []) (fn := Tryd.f73) (t := 9) (k := .str) Tryd.func73 rfl (by kernel_rfl) (by kernel_rfl) (by simp) fun aa hp r h => by
  simp only [k_Itoa] at h
  split at h
  case h_2 => cases h
  rename_i n
  obtain ⟨g, rfl⟩ := xo h
  rw [Bool.and_eq_true] at g
  have g1 := leI_t g.1
  have g2 := leI_t g.2
  refine ⟨_, rfl, rfl, ⟨_, rfl⟩, fun w fz ρ vs ha => ⟨_, .str _, ?_⟩⟩
  rw [args_i ha]
  obtain ⟨m, rfl⟩ : ∃ m : Nat, n = m := ⟨n.toNat, by omega⟩
  have := Tryd.strconv_Itoa_small m (by omega) w
  rw [decN_eq (by omega)] at this
  exact this
theorem lt32 (b : UInt8) : ltI (b.toNat : Int) 32 = decide (b < 32) := by
  rw [ltI_eq]; congr 1; rw [eq_iff_iff, UInt8.lt_iff_toNat_lt]; simp; omega
theorem lt126 (b : UInt8) : ltI 126 (b.toNat : Int) = decide (126 < b) := by
  rw [ltI_eq]; congr 1; rw [eq_iff_iff, UInt8.lt_iff_toNat_lt]; simp; omega
theorem beq_u8 (b c : UInt8) : (((b.toNat : Int)) == (c.toNat : Int)) = decide (b = c) := by
  rw [Bool.eq_iff_iff, beq_iff_eq, decide_eq_true_eq, ← UInt8.toNat_inj]; omega
theorem class_holds : Holds k_class := con_run (xs := [k_IndexByte]) (hold1 IndexByte_holds hold0) fun aa hp r h => by
  split at h
  case h_2 => cases h
  obtain ⟨g, rfl⟩ := xo h
  obtain ⟨b, rfl⟩ := okB_of g
  refine Runs.by (class_e · _) ?_
  rw [lt32, lt126, u8_of, ixB_le, bl_mk]
  unfold classB spcs
  by_cases h1 : b < 32
  · rw [decide_eq_true h1, if_pos (.inl h1)]; exact .ret
  · rw [decide_eq_false h1]
    by_cases h2 : 126 < b
    · rw [decide_eq_true h2, if_pos (.inr h2)]; exact .ret
    · rw [decide_eq_false h2, if_neg (by simp [h1, h2])]
      by_cases h3 : b ∈ [(92 : UInt8), 46, 42, 43, 63, 40, 41, 91, 93, 123, 125, 124, 94, 36]
      · rw [decide_eq_true h3, if_pos h3]; exact .ret
      · rw [decide_eq_false h3, if_neg h3]; exact .ret
theorem class_2 (b : UInt8) : (classB b != 2) = (decide (32 ≤ b) && decide (b ≤ 126)) := by
  unfold classB
  rw [Bool.eq_iff_iff, Bool.and_eq_true, decide_eq_true_eq, decide_eq_true_eq, UInt8.le_iff_toNat_le, UInt8.le_iff_toNat_le]
  by_cases h : b < 32 ∨ 126 < b
  · rw [if_pos h]
    rw [UInt8.lt_iff_toNat_lt, UInt8.lt_iff_toNat_lt] at h
    simp at h ⊢; omega
  · rw [if_neg h]
    rw [UInt8.lt_iff_toNat_lt, UInt8.lt_iff_toNat_lt] at h
    simp at h ⊢
    split <;> simp <;> omega
theorem beq_nat8 (b : UInt8) (n : Nat) (h : n < 256) : (((b.toNat : Int)) == (n : Int)) = decide (b = UInt8.ofNat n) := by
  have := beq_u8 b (UInt8.ofNat n)
  rwa [u8_nat h] at this
theorem visible_holds : Holds k_visible := con_run (xs := [k_class]) (hold1 class_holds hold0) fun aa hp r h => by
  split at h
  case h_2 => cases h
  obtain ⟨g, rfl⟩ := xo h
  obtain ⟨b, rfl⟩ := okB_of g
  refine Runs.by (visible_e · _) ?_
  rw [okB_u8, u8_of, class_2]
  have e9 := beq_nat8 b 9 (by decide)
  have e10 := beq_nat8 b 10 (by decide)
  rw [show ((9 : Nat) : Int) = 9 from rfl] at e9
  rw [show ((10 : Nat) : Int) = 10 from rfl] at e10
  rw [e9, e10]
  unfold visB
  have f9 : UInt8.ofNat 9 = 9 := rfl
  have f10 : UInt8.ofNat 10 = 10 := rfl
  rw [f9, f10]
  cases h1 : (decide (32 ≤ b) && decide (b ≤ 126)) with
  | true => exact .ret' (by simp only [Bool.or_true])
  | false =>
    by_cases h2 : b = 9
    · rw [decide_eq_true h2]; exact .ret
    · rw [decide_eq_false h2]
      exact .ret' (by simp only [Bool.false_or, Bool.or_false])
theorem one_b (b : UInt8) : ByteArray.mk (List.toArray (List.map (fun c => UInt8.ofNat (Int.toNat (cI 0 c))) [[L.int IntKind.u8 (b.toNat : Int)]])) = mk [b] := by
  show mk [UInt8.ofNat (Int.toNat (cI 0 [L.int IntKind.u8 (b.toNat : Int)]))] = _
  rw [cI0, Int.toNat_natCast, UInt8.ofNat_toNat]
theorem written_holds : Holds k_written := con_run (xs := [k_IndexByte]) (hold1 IndexByte_holds hold0) fun aa hp r h => by
  split at h
  case h_2 => cases h
  obtain ⟨g, rfl⟩ := xo h
  obtain ⟨b, rfl⟩ := okB_of g
  rename_i m
  refine Runs.by (written_e · _ _) ?_
  have e9 := beq_nat8 b 9 (by decide)
  have e10 := beq_nat8 b 10 (by decide)
  rw [show ((9 : Nat) : Int) = 9 from rfl, show UInt8.ofNat 9 = 9 from rfl] at e9
  rw [show ((10 : Nat) : Int) = 10 from rfl, show UInt8.ofNat 10 = 10 from rfl] at e10
  rw [e9, e10, u8_of, ixB_le, one_b, app_mk]
  unfold wrB
  by_cases h1 : b = 9
  · rw [decide_eq_true h1, if_pos h1]; exact .ret
  · rw [decide_eq_false h1, if_neg h1]
    by_cases h2 : b = 10
    · rw [decide_eq_true h2, if_pos h2]; exact .ret
    · rw [decide_eq_false h2, if_neg h2]
      by_cases h3 : b ∈ bl m
      · rw [decide_eq_true h3, if_pos h3]; exact .ret
      · rw [decide_eq_false h3, if_neg h3]; exact .ret
theorem wrB_len (b : UInt8) (m : List UInt8) : (wrB b m).length ≤ 2 := by
  unfold wrB
  split
  · simp
  · split
    · simp
    · split <;> simp
theorem inR_len (r : UInt8 × UInt8) : (inR r).length ≤ 5 := by
  unfold inR
  have h1 := wrB_len r.1 insB
  have h2 := wrB_len r.2 insB
  rw [List.length_append]
  split <;> simp <;> omega
theorem flat_len : ∀ l : List (UInt8 × UInt8), (l.flatMap inR).length ≤ 5 * l.length
  | [] => by simp
  | r :: l => by
    rw [List.flatMap_cons, List.length_append, List.length_cons]
    have := inR_len r
    have := flat_len l
    omega
theorem insL_len (l : List (UInt8 × UInt8)) : (insL l).1.length ≤ 5 * l.length := by
  unfold insL
  split
  · exact flat_len l
  · simp
theorem lt_u8 (a b : UInt8) : ltI (a.toNat : Int) (b.toNat : Int) = decide (a < b) := by
  rw [ltI_eq]; congr 1; rw [eq_iff_iff, UInt8.lt_iff_toNat_lt]; omega
theorem inside_loop (l : List (UInt8 × UInt8)) (hl : l.length ≤ 1000000000000) : ∀ (k i : Nat) (acc : List UInt8), i + k = l.length → acc.length ≤ 5 * i →
    Runs (cfg [k_visible, k_written]) (inside_q3 (encRs l) (mk acc) (encRs l) (l.length : Nat) (i : Nat))
      (cond ((l.drop i).all fun r => visB r.1 && visB r.2) [.str (mk (acc ++ (l.drop i).flatMap inR)), .bool (decide (0 < l.length))] [.str (mk []), .bool false])
  | 0, i, acc, h, ha => by
    refine Runs.by (inside_p3 · _ _ _ _ _) ?_
    simp (disch := omega) only [ev_lt_f, cond_false]
    rw [drop_end (by omega), encRs_len]
    refine .ret' ?_
    simp
  | k + 1, i, acc, h, ha => by
    refine Runs.by (inside_p3 · _ _ _ _ _) ?_
    have hi : i < l.length := by omega
    have w1 := wrB_len (l.getD i (0, 0)).1 insB
    have w2 := wrB_len (l.getD i (0, 0)).2 insB
    have hr := inR_len (l.getD i (0, 0))
    rw [drop_at (0, 0) hi]
    have ih := inside_loop l hl k (i + 1) (acc ++ inR (l.getD i (0, 0))) (by omega) (by rw [List.length_append]; omega)
    rw [List.all_cons, List.flatMap_cons]
    simp (disch := omega) only [encRs_len, ev_lt_t, ev_le_t, cond_true, Bool.and_self, rs_at, cI0, cI1, w64, okB_u8, u8_of, bl_mk, size_mk, app_mk, imax]
    simp only [show ([92, 91, 93, 94, 45] : List UInt8) = insB from rfl]
    simp only [List.length_append, List.length_cons, List.length_nil]
    simp (disch := omega) only [ev_le_t, cond_true]
    cases v1 : visB (l.getD i (0, 0)).1 with
    | false => exact .ret
    | true =>
      cases v2 : visB (l.getD i (0, 0)).2 with
      | false => exact .ret
      | true =>
        simp only [Bool.not_true, cond_false, Bool.true_and]
        rw [lt_u8]
        unfold inR at ih ⊢
        by_cases h3 : (l.getD i (0, 0)).1 < (l.getD i (0, 0)).2
        · rw [decide_eq_true h3]
          rw [if_pos h3] at ih ⊢
          refine .go ?_
          have e : acc ++ wrB (l.getD i (0, 0)).1 insB ++ ([45] ++ wrB (l.getD i (0, 0)).2 insB) = acc ++ (wrB (l.getD i (0, 0)).1 insB ++ 45 :: wrB (l.getD i (0, 0)).2 insB) := by simp
          rw [e]
          have e2 : acc ++ (wrB (l.getD i (0, 0)).1 insB ++ 45 :: wrB (l.getD i (0, 0)).2 insB ++ (l.drop (i + 1)).flatMap inR) = acc ++ (wrB (l.getD i (0, 0)).1 insB ++ 45 :: wrB (l.getD i (0, 0)).2 insB) ++ (l.drop (i + 1)).flatMap inR := by simp
          unfold inR at e2
          rw [e2]
          exact ih
        · rw [decide_eq_false h3]
          rw [if_neg h3] at ih ⊢
          rw [List.append_nil] at ih ⊢
          refine .go ?_
          rw [← List.append_assoc]
          exact ih
theorem inside_holds : Holds k_inside := con_run (xs := [k_visible, k_written]) (hold1 visible_holds (hold1 written_holds hold0)) fun aa hp r h => by
  split at h
  case h_2 => cases h
  obtain ⟨g, rfl⟩ := xo h
  obtain ⟨l, rfl, hl⟩ := isRs_of g
  refine Runs.by (inside_e · _) ?_
  have := inside_loop l hl l.length 0 [] (by omega) (by simp)
  rw [encRs_len, decRs_enc]
  unfold insL
  rw [List.drop_zero] at this
  refine .go ?_
  cases hv : l.all fun r => visB r.1 && visB r.2 with
  | true => rw [hv] at this; simpa using this
  | false => rw [hv] at this; simpa using this
theorem invert_loop (f : Nat → Bool) (z : Nat → Bool) : ∀ (k i : Nat), i + k = 256 →
    Runs (cfg []) (invert_q2 (i : Nat) (fun j => if j < i then !(f j) else f j) z) (arrB (fun j => !(f j)) 256)
  | 0, i, h => by
    refine Runs.by (invert_p2 · _ _ _) ?_
    have : i = 256 := by omega
    subst this
    rw [show ltI ((256 : Nat) : Int) 256 = false from by decide]
    refine .ret' ?_
    exact arrB_congr fun j hj => by rw [if_pos hj]
  | k + 1, i, h => by
    refine Runs.by (invert_p2 · _ _ _) ?_
    have ih := invert_loop f z k (i + 1) (by omega)
    simp (disch := omega) only [ev_lt_t, ev_le_t, cond_true, Bool.and_self, w64, Nat.zero_add, Int.toNat_natCast, arrGet_eq, L.toBool]
    have key : (fun j => bif Nat.beq j i then !(if i < i then !(f i) else f i) else if j < i then !(f j) else f j) = fun j => if j < i + 1 then !(f j) else f j := by
      funext j
      by_cases e : j = i
      · subst e
        rw [show Nat.beq j j = true from by simp, if_neg (by omega), if_pos (by omega)]; rfl
      · rw [show Nat.beq j i = false from by rw [← Bool.not_eq_true, Nat.beq_eq]; exact e]
        by_cases e2 : j < i
        · have e3 : j < i + 1 := by omega
          simp only [e2, e3, if_true, cond_false]
        · have e3 : ¬ j < i + 1 := by omega
          simp only [e2, e3, if_false, cond_false]
    rw [key]
    exact .go (by simpa using ih)
theorem invert_holds : Holds k_invert := con_run (xs := []) hold0 fun aa hp r h => by
  split at h
  case h_2 => cases h
  obtain ⟨g, rfl⟩ := xo h
  obtain ⟨f, rfl⟩ := isB_of g
  refine Runs.by (invert_e · _) ?_
  have := invert_loop f (fun j => false) 256 0 (by omega)
  rw [arrB_congr (f := fun j => !(getB (arrB f 256) j)) (g := fun j => !(f j)) fun j hj => by rw [getB_arr _ hj]]
  exact .go (by simpa using this)
theorem bounds_holds : Holds k_bounds := con_run (xs := [k_Itoa]) (hold1 Itoa_holds hold0) fun aa hp r h => by
  split at h
  case h_2 => cases h
  rename_i a0 a1 mn mx a4
  obtain ⟨g, rfl⟩ := xo h
  simp only [Bool.and_eq_true] at g
  obtain ⟨⟨g1, g2⟩, g3, g4⟩ := g
  refine Runs.by (bounds_e · _ _ _ _ _) ?_
  have d1 := decN_len mn
  have d2 := decN_len mx
  rw [g1, g2, g4]
  simp only [size_mk, app_mk, imax, List.length_append, List.length_cons, List.length_nil]
  simp (disch := omega) only [ev_le_t, cond_true, Bool.and_self, Bool.and_true, dupN_eq]
  have g3' := leI_t g3
  unfold sufP
  cases h1 : mn == 0 <;> cases h2 : mn == 1 <;> cases h3 : mx == -1 <;> cases h4 : mx == 1 <;> cases h5 : mn == mx <;> (try exact .ret) <;>
    (have h6 : leI 0 mx = true := ev_le_t (by rw [beq_false_int] at h3; omega)
     rw [h6]; exact .ret)
theorem ixI_mem (c : Int) : ∀ (l : List Int) (i : Nat), leI 0 (ixI l c i) = decide (c ∈ l)
  | [], i => by rw [ixI, decide_eq_false (by simp)]; rfl
  | x :: l, i => by
    rw [ixI]
    by_cases h : c = x
    · rw [ev_eq_t h, decide_eq_true (by simp [h]), cond_true, ev_le_t (by omega)]
    · rw [ev_eq_f h, cond_false, ixI_mem c l (i + 1)]
      congr 1; simp [h]
theorem IdxI_loop (xs : List (List L)) (v : Int) (hl : xs.length ≤ 1000) : ∀ k i : Nat, i + k = xs.length →
    Runs (cfg []) (IdxI_q2 xs v (xs.length : Nat) (i : Nat)) [.int .i64 (ixI ((xs.map (cI 0)).drop i) v i)]
  | 0, i, h => by
    refine Runs.by (IdxI_p2 · _ _ _ _) ?_
    simp (disch := omega) only [ev_lt_f, cond_false]
    rw [drop_end (by simp; omega)]
    exact .ret
  | k + 1, i, h => by
    refine Runs.by (IdxI_p2 · _ _ _ _) ?_
    have hi : i < xs.length := by omega
    simp (disch := omega) only [ev_lt_t, ev_le_t, cond_true, Bool.and_self, w64]
    rw [drop_at 0 (by simpa using hi), ixI]
    have e : (xs.map (cI 0)).getD i 0 = cI 0 (atL xs (i : Int)) := by
      unfold atL
      simp [List.getD, hi]
    rw [e]
    cases v == cI 0 (atL xs (i : Int)) with
    | true => exact .ret
    | false => exact .go (by simpa using IdxI_loop xs v hl k (i + 1) (by omega))
theorem IdxI_holds : Holds k_IdxI := con_run (xs := []) hold0 fun aa hp r h => by
  split at h
  case h_2 => cases h
  rename_i xs c
  obtain ⟨g, rfl⟩ := xo h
  have g := Nat.le_of_ble_eq_true g
  refine Runs.by (IdxI_e · _ _) ?_
  exact .go (IdxI_loop xs c g xs.length 0 (by omega))
theorem ContI_holds : Holds k_ContI := con_run (xs := [k_IdxI]) (hold1 IdxI_holds hold0) fun aa hp r h => by
  split at h
  case h_2 => cases h
  obtain ⟨g, rfl⟩ := xo h
  refine Runs.by (ContI_e · _ _) ?_
  rw [g, ixI_mem]
  exact .ret
end Go.Ab
namespace Go.Ab
open Go.Proofs

theorem cellq_lt {w : World} {a : Addr} {v : Value} (h : w.cell? a = some v) : a.block < w.heap.size := by
  unfold World.cell? at h
  split at h
  · rename_i cs t fr e
    exact (Array.getElem?_eq_some_iff.1 e).1
  · cases h
theorem add_plain (b o j : Nat) : (⟨b, o, none⟩ : Addr).add j = ⟨b, o + j, none⟩ := by
  unfold Addr.add
  split
  · rename_i h; simp_all
  · rfl
theorem encS_len (l : List (List UInt8)) : (encS l).length = l.length := by simp [encS]
theorem encS_dec (l : List (List UInt8)) : (encS l).map (fun e => bl (cT 0 e)) = l := by
  unfold encS
  rw [List.map_map]
  conv => rhs; rw [← List.map_id l]
  exact List.map_congr_left fun s _ => rfl
theorem conf9 {P : Program} (hk : kinds P 9 = [.str]) {e : List L} (h : Conf P 9 e) : e = [L.str (cT 0 e)] := by
  unfold Conf at h
  rw [hk] at h
  match e, h with
  | [l], h =>
    obtain ⟨⟨s, rfl⟩, _⟩ := h
    rfl
theorem strs_of {P : Program} (hk : kinds P 9 = [.str]) : ∀ xs : List (List L), (∀ e ∈ xs, Conf P 9 e) → xs = (xs.map (cT 0)).map fun s => [L.str s]
  | [], _ => rfl
  | e :: xs, h => by
    have h1 := conf9 hk (h e List.mem_cons_self)
    have h2 := strs_of hk xs fun e he => h e (List.mem_cons_of_mem _ he)
    rw [List.map_cons, List.map_cons, ← h2, ← h1]
theorem flat_strs : ∀ l : List ByteArray, (l.map fun s => [L.str s]).flatten = l.map L.str
  | [] => rfl
  | a :: l => by rw [List.map_cons, List.flatten_cons, flat_strs l]; rfl
theorem flat_at {P : Program} (hk : kinds P 9 = [.str]) {xs : List (List L)} (h : ∀ e ∈ xs, Conf P 9 e) (j : Nat) (s : ByteArray) (hj : (xs.map (cT 0))[j]? = some s) : xs.flatten[j]? = some (L.str s) := by
  have e := strs_of hk xs h
  have e2 : xs.flatten = (xs.map (cT 0)).map L.str := (congrArg List.flatten e).trans (flat_strs _)
  rw [e2, List.getElem?_map, hj]; rfl
theorem kinds9 : kinds (cfg []).P 9 = [.str] := by kernel_rfl
/-- A slice of strings in memory. -/
theorem strs_cells {C : Cfg} (hk : kinds C.P 9 = [.str]) {w : World} {fz : Fz} {ρ : Rho} {v : Value} {xs : List (List L)} (h : Rep C.P w fz ρ v (.lst 9 xs)) :
    ∃ A n c, v = .slice A n c ∧ n = xs.length ∧ n ≤ c ∧ (xs ≠ [] → ∃ bk o, A = some ⟨bk, o, none⟩ ∧ bk < w.heap.size ∧ ∀ (j : Nat) x, (xs.map (cT 0))[j]? = some x → w.cell? ⟨bk, o + j, none⟩ = some (.string x)) := by
  cases h with
  | lst A n c _ _ u ad e1 e2 e3 e4 e5 e6 e7 =>
    refine ⟨A, n, c, rfl, e1, e2, fun hx => ?_⟩
    have := e4 hx
    subst this
    have hcell : ∀ j s, (xs.map (cT 0))[j]? = some s → w.cell? (ad.add j) = some (.string s) := fun j s hj => by
      have h := flat_at hk e3 j s hj
      rw [e5 j _ h, rep_str (e7 j _ h)]
    have hlen : 0 < xs.length := List.length_pos_iff.2 hx
    obtain ⟨bk, o, sp⟩ := ad
    have h0 := hcell 0 ((xs.map (cT 0))[0]'(by simpa using hlen)) (List.getElem?_eq_getElem _)
    have hsp : sp = none := by
      have h0' : w.cell? ⟨bk, o, sp⟩ = some (Value.string ((xs.map (cT 0))[0]'(by simpa using hlen))) := by simpa [Addr.add] using h0
      unfold World.cell? at h0'
      split at h0'
      · split at h0'
        · cases h0'
        · rename_i hn; simpa using hn
      · cases h0'
    subst hsp
    have hb := cellq_lt h0
    have hb' : bk < w.heap.size := by simpa [Addr.add] using hb
    exact ⟨bk, o, rfl, hb', fun j x hj => by have := hcell j x hj; rwa [add_plain] at this⟩
theorem Join_holds : Holds k_Join := extFor_below (C := cfg []) (fn := Tryd.f55) (t := 9) (k := .str) Tryd.func55 rfl (by kernel_rfl) (by kernel_rfl) (by simp) fun aa hp r h => by
  simp only [k_Join] at h
  split at h
  case h_2 => cases h
  rename_i xs sep
  obtain ⟨g, rfl⟩ := xo h
  rw [Bool.and_eq_true] at g
  obtain ⟨g1, g2⟩ := g
  have g1 := Nat.le_of_ble_eq_true g1
  have g2 := Nat.le_of_ble_eq_true g2
  refine ⟨_, rfl, rfl, ⟨_, rfl⟩, fun w fz ρ vs ha => ⟨.string (mk (joinB (xs.map fun e => bl (cT 0 e)) (bl sep))), fun _ => .str _, ?_⟩⟩
  match hv : vs.toList, ha with
  | [a, b], ha =>
    simp only [RepDs, RepD] at ha
    obtain ⟨h1, h2, _⟩ := ha
    rw [arr2 hv, rep_str h2]
    obtain ⟨A, n, c, rfl, e1, e2, e3⟩ := strs_cells (C := cfg []) kinds9 h1
    subst e1
    by_cases hx : xs = []
    · subst hx
      refine (Tryd.strings_Join_none A c sep w).mono ?_
      rintro e w' ⟨rfl, rfl⟩
      exact ⟨rfl, Go.RowKit.Below.refl _ _⟩
    · obtain ⟨bk, o, rfl, hb, hc⟩ := e3 hx
      have hj := Tryd.strings_Join bk o c (xs.map (cT 0)) sep w hc hb (by simpa using g1) (by simpa using e2) (by rw [List.map_map]; exact g2)
      rw [List.length_map, List.map_map] at hj
      refine hj.mono ?_
      rintro e w' ⟨rfl, hbel⟩
      exact ⟨rfl, hbel⟩

/-! ### lengths -/
theorem setP_len (l : List (UInt8 × UInt8)) : (setP l).1.length ≤ 2000 := by
  unfold setP
  split
  · simp
  · rename_i h
    have h := Decidable.of_not_not h
    have h1 := canR_len (fun j => hasI l (j : Nat)) 256
    rw [h] at h1
    split
    · have := wrB_len (l.getD 0 (0, 0)).1 spcs
      show (wrB (l.getD 0 (0, 0)).1 spcs).length ≤ 2000
      omega
    · split
      · simp
      · split
        · have := insL_len l
          show ([91] ++ (insL l).1 ++ [93]).length ≤ 2000
          simp; omega
        · have h2 := canR_len (fun j => !(hasI l (j : Nat))) 256
          have := insL_len (canR (fun j => !(hasI l (j : Nat))) 256)
          show ([91, 94] ++ (insL (canR (fun j => !(hasI l (j : Nat))) 256)).1 ++ [93]).length ≤ 2000
          simp; omega
theorem sufP_len (mn mx : Int) : (sufP mn mx).length ≤ 7 := by
  unfold sufP
  have h1 := decN_len mn
  have h2 := decN_len mx
  cases mn == 0 <;> cases mn == 1 <;> cases mx == -1 <;> cases mx == 1 <;> cases mn == mx <;> simp <;> omega
theorem wrapP_len (ks : List Int) (x : Rx) (s : List UInt8) : (wrapP ks x s).length ≤ s.length + 2 := by
  unfold wrapP
  split <;> simp
theorem textL_cons (ks : List Int) (x : Rx) (xs : List Rx) : textL ks (x :: xs) = if (textP x).2 = true then (textL ks xs).map (fun l => wrapP ks x (textP x).1 :: l) else none := by
  rw [textL]
  split
  · rename_i s h; rw [h]; rfl
  · rename_i s h; rw [h]; rfl
theorem textP_eq (x : Rx) : textP x =
    if x.kind = 1 then setP x.set
    else if x.kind = 2 then (joinB ((textL [2, 3] x.subs).getD []) [], (textL [2, 3] x.subs).isSome && decide (((textL [2, 3] x.subs).getD []).length ≠ 1))
    else if x.kind = 3 then (joinB ((textL [3] x.subs).getD []) [124], (textL [3] x.subs).isSome)
    else if x.kind = 4 then (joinB ((textL [2, 3, 4] x.subs).getD []) [] ++ sufP x.mn x.mx, (textL [2, 3, 4] x.subs).isSome)
    else if x.kind = 5 then ([94], true) else if x.kind = 6 then ([36], true) else ([92, 98], true) := by
  cases x; rw [textP]; rfl
def totS (l : List (List UInt8)) : Nat := (l.map fun s => s.length + 1).sum
theorem joinB_len (sep : List UInt8) (hs : sep.length ≤ 1) : ∀ l : List (List UInt8), (joinB l sep).length ≤ totS l
  | [] => by simp [joinB, totS, List.intercalate]
  | [a] => by simp [joinB, totS, List.intercalate]
  | a :: b :: l => by
    have ih := joinB_len sep hs (b :: l)
    have e : joinB (a :: b :: l) sep = a ++ sep ++ joinB (b :: l) sep := by simp [joinB, List.intercalate, List.intersperse]
    rw [e]
    have e2 : totS (a :: b :: l) = a.length + 1 + totS (b :: l) := by simp [totS]
    rw [e2]
    simp only [List.length_append]
    omega
theorem textL_len (ks : List Int) : ∀ (l : List Rx) (r : List (List UInt8)), (∀ x ∈ l, (textP x).1.length + 10 ≤ 2030 * x.nodes) → textL ks l = some r → r.length = l.length ∧ totS r + 7 * l.length ≤ 2030 * nodesL l
  | [], r, _, h => by
    rw [textL] at h
    cases h
    simp [totS, nodesL]
  | x :: xs, r, hx, h => by
    rw [textL_cons] at h
    split at h
    case isFalse => cases h
    rw [Option.map_eq_some_iff] at h
    obtain ⟨l, h1, rfl⟩ := h
    obtain ⟨i1, i2⟩ := textL_len ks xs l (fun y hy => hx y (List.mem_cons_of_mem _ hy)) h1
    have h2 := hx x List.mem_cons_self
    have h3 := wrapP_len ks x (textP x).1
    have e2 : totS (wrapP ks x (textP x).1 :: l) = (wrapP ks x (textP x).1).length + 1 + totS l := by simp [totS]
    rw [e2, nodesL, List.length_cons, List.length_cons]
    omega
theorem textP_len : ∀ (n : Nat) (x : Rx), x.lev ≤ n → (textP x).1.length + 10 ≤ 2030 * x.nodes
  | 0, x, h => (no_lev h).elim
  | n + 1, x, h => by
    have hs : ∀ y ∈ x.subs, (textP y).1.length + 10 ≤ 2030 * y.nodes := fun y hy => textP_len n y (by have := lev_sub hy; omega)
    have hg : ∀ ks, totS ((textL ks x.subs).getD []) ≤ 2030 * nodesL x.subs := fun ks => by
      cases he : textL ks x.subs with
      | none => simp [totS]
      | some r => have := (textL_len ks x.subs r hs he).2; simp only [Option.getD_some]; omega
    rw [textP_eq, nodes_eq]
    have hp := setP_len x.set
    have hj1 := joinB_len [] (by simp) ((textL [2, 3] x.subs).getD [])
    have hj2 := joinB_len [124] (by simp) ((textL [3] x.subs).getD [])
    have hj3 := joinB_len [] (by simp) ((textL [2, 3, 4] x.subs).getD [])
    have g1 := hg [2, 3]
    have g2 := hg [3]
    have g3 := hg [2, 3, 4]
    have hsuf := sufP_len x.mn x.mx
    split
    · omega
    · split
      · simp only []; omega
      · split
        · simp only []; omega
        · split
          · simp only [List.length_append]; omega
          · split
            · simp; omega
            · split
              · simp; omega
              · simp; omega
theorem isXt_of {xs : List (List L)} {n : Nat} (h : isXt xs n = true) : ∃ l : List Rx, xs = l.map encX ∧ (∀ x ∈ l, x.ok ∧ x.lev ≤ n ∧ nodeS x = 0) ∧ nodesL l ≤ 1000 := by
  unfold isXt at h
  classical exact of_decide_eq_true h
theorem isXt_enc {l : List Rx} {n : Nat} (h : ∀ x ∈ l, x.ok ∧ x.lev ≤ n ∧ nodeS x = 0) (hn : nodesL l ≤ 1000) : isXt (l.map encX) n = true := by
  unfold isXt
  classical exact decide_eq_true ⟨l, rfl, h, hn⟩
theorem kind_enc (x : Rx) : cI 0 (encX x) = x.kind := by rw [encX_eq]; rfl
theorem encS_snoc (l : List (List UInt8)) (s : List UInt8) : encS l ++ [[L.str (mk s)]] = encS (l ++ [s]) := by simp [encS]
theorem parts_loop {m : Nat} (ks : List (List L)) (hks : ks.length ≤ 1000) (l : List Rx) (hl : ∀ x ∈ l, x.ok ∧ x.lev ≤ m ∧ nodeS x = 0) (hn : nodesL l ≤ 1000) : ∀ (k i : Nat) (acc : List (List UInt8)), i + k = l.length → acc.length = i →
    Runs (cfg [k_text m, k_ContI]) (parts_q3 ks (l.map encX) (l.length : Nat) (i : Nat) (encS acc)) [.lst 9 (encS (((textL (ks.map (cI 0)) (l.drop i)).map fun r => acc ++ r).getD [])), .bool (textL (ks.map (cI 0)) (l.drop i)).isSome]
  | 0, i, acc, h, ha => by
    refine Runs.by (parts_p3 · _ _ _ _ _ _) ?_
    simp (disch := omega) only [ev_lt_f, cond_false]
    rw [drop_end (by omega), textL]
    exact .ret' (by simp)
  | k + 1, i, acc, h, ha => by
    refine Runs.by (parts_p3 · _ _ _ _ _ _) ?_
    have hi : i < l.length := by omega
    have hln := nodesL_len l
    obtain ⟨m1, m2, m3⟩ := hl _ (mem_getD hi)
    have m4 := nodesL_mem (mem_getD hi)
    have m5 := textP_len _ (l.getD i default) (Nat.le_refl _)
    simp (disch := omega) only [List.length_map, ev_lt_t, ev_le_t, cond_true, Bool.and_self, xs_at, el_enc, w64, isX_enc m1 m2, decX_enc, right_beq m3, ev_blt, size_mk, app_mk, imax, encS_len, roomN_t, List.length_append, List.length_cons, List.length_nil]
    simp only [kind_enc]
    rw [drop_at default hi, textL_cons]
    cases ht : (textP (l.getD i default)).2 with
    | false => exact .ret
    | true =>
      rw [if_pos rfl]
      simp only [Bool.not_true, cond_false]
      have ih := fun s => parts_loop ks hks l hl hn k (i + 1) (acc ++ [s]) (by omega) (by simp; omega)
      by_cases hm : (l.getD i default).kind ∈ ks.map (cI 0)
      · rw [decide_eq_true hm]
        simp only [cond_true]
        have e : wrapP (ks.map (cI 0)) (l.getD i default) (textP (l.getD i default)).1 = [40] ++ (textP (l.getD i default)).1 ++ [41] := by unfold wrapP; rw [if_pos hm]
        rw [e, encS_snoc]
        refine .go ?_
        have := ih ([40] ++ (textP (l.getD i default)).1 ++ [41])
        cases hx : textL (ks.map (cI 0)) (l.drop (i + 1)) with
        | none => rw [hx] at this; simpa using this
        | some r => rw [hx] at this; simpa using this
      · rw [decide_eq_false hm]
        simp only [cond_false]
        have e : wrapP (ks.map (cI 0)) (l.getD i default) (textP (l.getD i default)).1 = (textP (l.getD i default)).1 := by unfold wrapP; rw [if_neg hm]
        rw [e, encS_snoc]
        refine .go ?_
        have := ih (textP (l.getD i default)).1
        cases hx : textL (ks.map (cI 0)) (l.drop (i + 1)) with
        | none => rw [hx] at this; simpa using this
        | some r => rw [hx] at this; simpa using this
theorem parts_holds {m : Nat} (hT : Holds (k_text m)) : Holds (k_parts m) := con_run (xs := [k_text m, k_ContI]) (hold1 hT (hold1 ContI_holds hold0)) fun aa hp r h => by
  split at h
  case h_2 => cases h
  obtain ⟨g, rfl⟩ := xo h
  rw [Bool.and_eq_true] at g
  obtain ⟨l, rfl, hl, hn⟩ := isXt_of g.1
  have hk := Nat.le_of_ble_eq_true g.2
  refine Runs.by (parts_e · _ _ _) ?_
  have := parts_loop (m := m) _ hk l hl hn l.length 0 [] (by omega) rfl
  rw [List.length_map, decXs_enc]
  refine .go ?_
  rw [List.drop_zero, show encS [] = [] from rfl] at this
  simpa using this
theorem cX1t_of {xs : List (Nat × Con)} {n f : Nat} {g : Rx → List L} (hx : ∀ p ∈ xs, Holds p) (h : ∀ x : Rx, x.ok → x.lev ≤ n → nodeS x = 0 → x.nodes ≤ 1000 → Runs (cfg xs) (.enter f [.agg [.int .i64 x.kind, .lst 48 (encRs x.set), .int .i64 x.mn, .int .i64 x.mx, .lst 25 (x.subs.map encX)]] []) (g x)) : Holds (f, cX1t n g) :=
  con_run hx fun aa hp r h0 => by
    unfold cX1t at h0
    split at h0
    case h_2 => cases h0
    obtain ⟨g1, rfl⟩ := xo h0
    rw [Bool.and_eq_true, Bool.and_eq_true] at g1
    obtain ⟨g1, g2, g3⟩ := g1
    obtain ⟨x, rfl, rfl, rfl, rfl, rfl, ho, hl⟩ := isX5 g1
    rw [dec5] at g2 g3 ⊢
    exact h x ho hl (by simpa using g2) (Nat.le_of_ble_eq_true g3)

theorem text_holds (hP : Holds k_printSet) : ∀ n, Holds (k_text n)
  | 0 => cX1t_of (xs := []) hold0 fun x ho hl hr hn => (no_lev hl).elim
  | n + 1 => cX1t_of (xs := [k_printSet, k_parts n, k_Join, k_bounds]) (hold1 hP (hold1 (parts_holds (text_holds hP n)) (hold1 Join_holds (hold1 bounds_holds hold0)))) fun x ho hl hr hn => by
    obtain ⟨hf, hc, hs⟩ := right_of hr
    refine Runs.by (text_e · _ _ _ _ _ _) ?_
    rw [isRs_enc (ok_set ho), decRs_enc, decXs_enc]
    have hn' : nodesL x.subs ≤ 1000 := by rw [nodes_eq] at hn; omega
    have hX : isXt (x.subs.map encX) n = true := isXt_enc (fun y hy => ⟨(subs_in ho hl y hy).1, (subs_in ho hl y hy).2, hs y hy⟩) hn'
    have hg : ∀ ks, ((textL ks x.subs).getD []).length ≤ 1000 ∧ totS ((textL ks x.subs).getD []) ≤ 2030000 := fun ks => by
      have hln := nodesL_len x.subs
      cases he : textL ks x.subs with
      | none => simp [totS]
      | some r =>
        have := textL_len ks x.subs r (fun y _ => textP_len _ y (Nat.le_refl _)) he
        simp only [Option.getD_some]
        omega
    simp only [List.map_cons, List.map_nil, cI0, encS_dec, encS_len, bl_mk, hX, size_mk, app_mk, imax]
    rw [textP_eq]
    by_cases h1 : x.kind = 1
    · rw [ev_eq_t h1, if_pos h1]; exact .ret
    · rw [ev_eq_f h1, if_neg h1]
      by_cases h2 : x.kind = 2
      · rw [ev_eq_t h2, if_pos h2]
        have g := hg [2, 3]
        have hj := joinB_len [] (by simp) ((textL [2, 3] x.subs).getD [])
        simp (disch := omega) only [ev_blt, cond_true, Bool.and_self]
        cases (textL [2, 3] x.subs).isSome with
        | true =>
          refine .ret' (congrArg (fun b => [L.str _, L.bool b]) ?_)
          rw [Bool.true_and, Bool.eq_iff_iff, bne_iff_ne, decide_eq_true_eq]; omega
        | false => exact .ret
      · rw [ev_eq_f h2, if_neg h2]
        by_cases h3 : x.kind = 3
        · rw [ev_eq_t h3, if_pos h3]
          have g := hg [3]
          have hj := joinB_len [124] (by simp) ((textL [3] x.subs).getD [])
          simp (disch := omega) only [ev_blt, cond_true, Bool.and_self]
          exact .ret
        · rw [ev_eq_f h3, if_neg h3]
          by_cases h4 : x.kind = 4
          · rw [ev_eq_t h4, if_pos h4]
            have g := hg [2, 3, 4]
            have hj := joinB_len [] (by simp) ((textL [2, 3, 4] x.subs).getD [])
            have hsuf := sufP_len x.mn x.mx
            unfold cntP at hc
            have b1 : 0 ≤ x.mn ∧ x.mn ≤ 99 ∧ -1 ≤ x.mx ∧ x.mx ≤ 99 := by omega
            obtain ⟨b1, b2, b3, b4⟩ := b1
            simp (disch := omega) only [dupN_eq, ev_blt, ev_le_t, cond_true, Bool.and_self]
            exact .ret
          · rw [ev_eq_f h4, if_neg h4]
            by_cases h5 : x.kind = 5
            · rw [ev_eq_t h5, if_pos h5]; exact .ret
            · rw [ev_eq_f h5, if_neg h5]
              by_cases h6 : x.kind = 6
              · rw [ev_eq_t h6, if_pos h6]; exact .ret
              · rw [ev_eq_f h6, if_neg h6]; exact .ret
theorem Print_holds (hP : Holds k_printSet) : Holds k_Print := cX1_of (xs := [k_Right, k_text 12]) (hold1 Right_holds (hold1 (text_holds hP 12) hold0)) fun x ho hl => by
  refine Runs.by (Print_e · _ _ _ _ _) ?_
  rw [dec5, is5 ho hl]
  unfold printP
  by_cases h : rightS x = 0
  · have h' : (rightS x != 0) = false := ev_ne_f h
    rw [h', if_neg (by simp [h])]
    have hr := h
    unfold rightS at hr
    have hn : nodeS x = 0 := by
      cases hb : (nodeS x != 0) with
      | true => rw [hb] at hr; simpa using hr
      | false => rw [bne_false_int] at hb; exact hb
    rw [ev_ne_f hn, cond_false] at hr
    have hb : (ltI 40 (x.nodes : Nat) || ltI 12 (x.lev : Nat)) = false := by
      cases hb : (ltI 40 (x.nodes : Nat) || ltI 12 (x.lev : Nat)) with
      | true => rw [hb] at hr; cases hr
      | false => rfl
    rw [Bool.or_eq_false_iff] at hb
    have b1 := ltI_f hb.1
    have b2 := ltI_f hb.2
    have hi := is5 (n := 12) ho (by omega)
    rw [hi, right_beq hn]
    simp (disch := omega) only [ev_blt, cond_true, cond_false, Bool.and_self, size_mk]
    cases ht : (textP x).2 with
    | false => rw [if_pos (.inl rfl)]; exact .ret
    | true =>
      simp only [Bool.not_true, cond_false]
      by_cases h3 : 300 < (textP x).1.length
      · rw [ev_lt_t (by omega), if_pos (.inr h3)]; exact .ret
      · rw [ev_lt_f (by omega), if_neg (by simp; omega)]; exact .ret
  · rw [ev_ne_t h, if_pos h]; exact .ret
end Go.Ab
namespace Go.Ab
open Go.Proofs
/-! codesearch/regex.printSet -/
noncomputable def printSet_q2 (l0 : List (List L)) (h0 : Nat → Bool) : Req := .point 53 [] (todoAt Tryd.prog 53 2) ⟨[(.lf (.lst 48 l0)), an, an, an, (.lf (.ptr 0 0)), an, an, an, an, an, an, an, an, an, an, an, an, an, an, an, an, an, an, an, an, an, an, an, an, an, an, an, an, an, an, an, an, an, an, an, an, an, an, an, an, an, an, an, an, an, an, an, an, an, an, an, an, an, an, an, an, an, an, an, an, an, an, an, an, an, an, an, an, an], [(.box (List.replicate 256 .bool) (arrB h0 256))]⟩
noncomputable def printSet_q4 (l0 : List (List L)) (h0 : Nat → Bool) : Req := .point 53 [] (todoAt Tryd.prog 53 4) ⟨[(.lf (.lst 48 l0)), an, an, an, (.lf (.ptr 0 0)), an, an, an, an, an, an, an, an, an, an, an, an, an, an, an, an, an, an, an, an, an, an, an, an, an, an, an, an, an, an, an, an, an, an, an, an, an, an, an, an, an, an, an, an, an, an, an, an, an, an, an, an, an, an, an, an, an, an, an, an, an, an, an, an, an, an, an, an, an], [(.box (List.replicate 256 .bool) (arrB h0 256))]⟩
noncomputable def printSet_q6 (l0 : List (List L)) (h0 : Nat → Bool) : Req := .point 53 [] (todoAt Tryd.prog 53 6) ⟨[(.lf (.lst 48 l0)), an, an, an, (.lf (.ptr 0 0)), an, an, an, an, an, an, an, an, an, an, an, an, an, an, an, an, an, an, an, an, an, an, an, an, an, an, an, an, an, an, an, an, an, an, an, an, an, an, an, an, an, an, an, an, an, an, an, an, an, an, an, an, an, an, an, an, an, an, an, an, an, an, an, an, an, an, an, an, an], [(.box (List.replicate 256 .bool) (arrB h0 256))]⟩
noncomputable def printSet_q7 (l0 : List (List L)) (h0 : Nat → Bool) : Req := .point 53 [] (todoAt Tryd.prog 53 7) ⟨[(.lf (.lst 48 l0)), an, an, an, an, (.lf (.ptr 0 0)), an, an, an, an, an, an, an, an, an, an, an, an, an, an, an, an, an, an, an, an, an, an, an, an, an, an, an, an, an, an, an, an, an, an, an, an, an, an, an, an, an, an, an, an, an, an, an, an, an, an, an, an, an, an, an, an, an, an, an, an, an, an, an, an, an, an, an, an], [(.box (List.replicate 256 .bool) (arrB h0 256))]⟩
noncomputable def printSet_q10 (l0 : List (List L)) (h0 : Nat → Bool) : Req := .point 53 [] (todoAt Tryd.prog 53 10) ⟨[(.lf (.lst 48 l0)), an, an, an, an, (.lf (.ptr 0 0)), an, an, an, an, an, an, an, an, an, an, an, an, an, an, an, an, an, an, an, an, an, an, an, an, an, an, an, an, an, an, an, an, an, an, an, an, an, an, an, an, an, an, an, an, an, an, an, an, an, an, an, an, an, an, an, an, an, an, an, an, an, an, an, an, an, an, an, an], [(.box (List.replicate 256 .bool) (arrB h0 256))]⟩
theorem printSet_e (G : Req → R) (l0 : List (List L)) : runB (cfg [k_of, k_branges, k_EqRs, k_visible, k_written, k_invert, k_inside]) G (.enter 53 [(.lf (.lst 48 l0))] []) =
  (cond (isRs l0)
   (G (printSet_q2 l0 (fun j => hasI (decRs l0) (↑j : Int))))
   none) := by kernel_rfl
theorem printSet_p2 (G : Req → R) (l0 : List (List L)) (h0 : Nat → Bool) : runB (cfg [k_of, k_branges, k_EqRs, k_visible, k_written, k_invert, k_inside]) G (printSet_q2 l0 h0) =
  (cond (isB (arrB (fun j => h0 j) 256))
   (cond (isRs (encRs (canR (getB (arrB (fun j => h0 j) 256)) 256)) && isRs l0)
    (cond (!decide (decRs (encRs (canR (getB (arrB (fun j => h0 j) 256)) 256)) = decRs l0))
     (some [(.str (mk [])), (.bool (false))])
     (G (printSet_q4 l0 (fun j => getB (arrB (fun j => h0 j) 256) j))))
    none)
   none) := by kernel_rfl
theorem printSet_p4 (G : Req → R) (l0 : List (List L)) (h0 : Nat → Bool) : runB (cfg [k_of, k_branges, k_EqRs, k_visible, k_written, k_invert, k_inside]) G (printSet_q4 l0 h0) =
  (cond ((↑(List.length l0) : Int) == 1)
   (cond (ltI 0 (↑(List.length l0) : Int))
    (cond (ltI 0 (↑(List.length l0) : Int))
     (cond (cI 0 (atL l0 0) == cI 1 (atL l0 0))
      (cond (ltI 0 (↑(List.length l0) : Int))
       (cond (okB (cI 0 (atL l0 0)))
        (cond (visB (u8 (cI 0 (atL l0 0))))
         (cond (ltI 0 (↑(List.length l0) : Int))
          (cond (okB (cI 0 (atL l0 0)))
           (some [(.str (mk (wrB (u8 (cI 0 (atL l0 0))) (bl (mk [92, 46, 42, 43, 63, 40, 41, 91, 93, 123, 125, 124, 94, 36]))))), (.bool (true))])
           none)
          none)
         (G (printSet_q6 l0 (fun j => h0 j))))
        none)
       none)
      (G (printSet_q6 l0 (fun j => h0 j))))
     none)
    none)
   (G (printSet_q6 l0 (fun j => h0 j)))) := by kernel_rfl
theorem printSet_p6 (G : Req → R) (l0 : List (List L)) (h0 : Nat → Bool) : runB (cfg [k_of, k_branges, k_EqRs, k_visible, k_written, k_invert, k_inside]) G (printSet_q6 l0 h0) =
  (cond (isB (arrB (fun j => h0 j) 256))
   (G (printSet_q7 l0 (fun j => !getB (arrB (fun j => h0 j) 256) j)))
   none) := by kernel_rfl
theorem printSet_p7 (G : Req → R) (l0 : List (List L)) (h0 : Nat → Bool) : runB (cfg [k_of, k_branges, k_EqRs, k_visible, k_written, k_invert, k_inside]) G (printSet_q7 l0 h0) =
  (cond (isB (arrB (fun j => h0 j) 256))
   (cond ((↑(List.length (encRs (canR (getB (arrB (fun j => h0 j) 256)) 256))) : Int) == 1)
    (cond (ltI 0 (↑(List.length (encRs (canR (getB (arrB (fun j => h0 j) 256)) 256))) : Int))
     (cond (cI 0 (atL (encRs (canR (getB (arrB (fun j => h0 j) 256)) 256)) 0) == 10 && (cI 1 (atL (encRs (canR (getB (arrB (fun j => h0 j) 256)) 256)) 0) == 10 && true))
      (some [(.str (mk [46])), (.bool (true))])
      (G (printSet_q10 l0 (fun j => getB (arrB (fun j => h0 j) 256) j))))
     none)
    (G (printSet_q10 l0 (fun j => getB (arrB (fun j => h0 j) 256) j))))
   none) := by kernel_rfl
theorem printSet_p10 (G : Req → R) (l0 : List (List L)) (h0 : Nat → Bool) : runB (cfg [k_of, k_branges, k_EqRs, k_visible, k_written, k_invert, k_inside]) G (printSet_q10 l0 h0) =
  (cond (isRs l0)
   (cond (Prod.snd (insL (decRs l0)))
    (cond (leI (↑(1 + ByteArray.size (mk (Prod.fst (insL (decRs l0))))) : Int) (IntKind.max IntKind.i64))
     (cond (leI (↑(ByteArray.size (mk [91] ++ mk (Prod.fst (insL (decRs l0)))) + 1) : Int) (IntKind.max IntKind.i64))
      (some [(.str (mk [91] ++ mk (Prod.fst (insL (decRs l0))) ++ mk [93])), (.bool (true))])
      none)
     none)
    (cond (isB (arrB (fun j => h0 j) 256))
     (cond (isRs (encRs (canR (getB (arrB (fun j => h0 j) 256)) 256)))
      (cond (leI (↑(2 + ByteArray.size (mk (Prod.fst (insL (decRs (encRs (canR (getB (arrB (fun j => h0 j) 256)) 256))))))) : Int) (IntKind.max IntKind.i64))
       (cond (leI (↑(ByteArray.size (mk [91, 94] ++ mk (Prod.fst (insL (decRs (encRs (canR (getB (arrB (fun j => h0 j) 256)) 256)))))) + 1) : Int) (IntKind.max IntKind.i64))
        (some [(.str (mk [91, 94] ++ mk (Prod.fst (insL (decRs (encRs (canR (getB (arrB (fun j => h0 j) 256)) 256))))) ++ mk [93])), (.bool (Prod.snd (insL (decRs (encRs (canR (getB (arrB (fun j => h0 j) 256)) 256))))))])
        none)
       none)
      none)
     none))
   none) := by kernel_rfl

end Go.Ab
namespace Go.Ab
open Go.Proofs

theorem canR_arr {h g : Nat → Bool} (e : ∀ j, j < 256 → h j = g j) : canR (getB (arrB (fun j => h j) 256)) 256 = canR g 256 :=
  canR_congr fun j hj => by rw [getB_arr _ hj, e j hj]
theorem getB_e {h g : Nat → Bool} (e : ∀ j, j < 256 → h j = g j) : ∀ j, j < 256 → getB (arrB (fun j => h j) 256) j = g j := fun j hj => by rw [getB_arr _ hj, e j hj]
noncomputable abbrev psC : List (Nat × Con) := [k_of, k_branges, k_EqRs, k_visible, k_written, k_invert, k_inside]
def cells2 (r : List UInt8 × Bool) : List L := [.str (mk r.1), .bool r.2]
theorem ps10 (l : List (UInt8 × UInt8)) (hl : l.length ≤ 256) (h g : Nat → Bool) (e : ∀ j, j < 256 → h j = g j) :
    Runs (cfg psC) (printSet_q10 (encRs l) h) (cells2 (if (insL l).2 then ([91] ++ (insL l).1 ++ [93], true) else ([91, 94] ++ (insL (canR g 256)).1 ++ [93], (insL (canR g 256)).2))) := by
  refine Runs.by (printSet_p10 · _ _) ?_
  have i1 := insL_len l
  have i2 := insL_len (canR g 256)
  have i3 := canR_len g 256
  rw [canR_arr e, isB_arr, isRs_enc (x := l) (by omega), isRs_enc (x := canR g 256) (by omega), decRs_enc, decRs_enc]
  simp only [size_mk, app_mk, imax, List.length_append, List.length_cons, List.length_nil]
  simp (disch := omega) only [ev_le_t, cond_true]
  cases (insL l).2 with
  | true => exact .ret
  | false => exact .ret
theorem ps7 (l : List (UInt8 × UInt8)) (hl : l.length ≤ 256) (h g : Nat → Bool) (e : ∀ j, j < 256 → h j = g j) :
    Runs (cfg psC) (printSet_q7 (encRs l) h) (cells2 (if canR g 256 = [(10, 10)] then ([46], true) else if (insL l).2 then ([91] ++ (insL l).1 ++ [93], true) else ([91, 94] ++ (insL (canR g 256)).1 ++ [93], (insL (canR g 256)).2))) := by
  refine Runs.by (printSet_p7 · _ _) ?_
  have h10 := ps10 l hl _ g (getB_e e)
  rw [canR_arr e, isB_arr, encRs_len]
  simp only [cond_true]
  by_cases h1 : (canR g 256).length = 1
  · match hc : canR g 256, h1 with
    | [(a, b)], _ =>
      rw [hc] at h10
      have e1 : atL (encRs [(a, b)]) 0 = [.int .u8 a.toNat, .int .u8 b.toNat] := rfl
      rw [e1, cI0, cI1]
      have ea := beq_nat8 a 10 (by decide)
      have eb := beq_nat8 b 10 (by decide)
      rw [show ((10 : Nat) : Int) = 10 from rfl, show UInt8.ofNat 10 = 10 from rfl] at ea eb
      rw [ea, eb]
      by_cases hab : a = 10 ∧ b = 10
      · obtain ⟨rfl, rfl⟩ := hab
        rw [if_pos rfl]
        exact .ret
      · rw [if_neg (by intro h; simp only [List.cons.injEq, Prod.mk.injEq, and_true] at h; exact hab h)]
        have : (decide (a = 10) && (decide (b = 10) && true)) = false := by
          rw [← Bool.not_eq_true]
          simpa using fun h1 h2 => hab ⟨h1, h2⟩
        rw [this]
        exact .go h10
  · rw [ev_eq_f (by omega), if_neg (by intro h; rw [h] at h1; exact h1 rfl)]
    exact .go h10
theorem ps6 (l : List (UInt8 × UInt8)) (hl : l.length ≤ 256) (h g : Nat → Bool) (e : ∀ j, j < 256 → h j = g j) :
    Runs (cfg psC) (printSet_q6 (encRs l) h) (cells2 (if canR (fun j => !(g j)) 256 = [(10, 10)] then ([46], true) else if (insL l).2 then ([91] ++ (insL l).1 ++ [93], true) else ([91, 94] ++ (insL (canR (fun j => !(g j)) 256)).1 ++ [93], (insL (canR (fun j => !(g j)) 256)).2))) := by
  refine Runs.by (printSet_p6 · _ _) ?_
  rw [isB_arr]
  exact .go (ps7 l hl _ (fun j => !(g j)) fun j hj => by rw [getB_e e j hj])
theorem printSet_holds : Holds k_printSet := con_run (xs := psC) (hold1 bof_holds (hold1 branges_holds (hold1 EqRs_holds (hold1 visible_holds (hold1 written_holds (hold1 invert_holds (hold1 inside_holds hold0))))))) fun aa hp r h => by
  split at h
  case h_2 => cases h
  obtain ⟨g, rfl⟩ := xo h
  obtain ⟨l, rfl, hl⟩ := isRs_of g
  rw [decRs_enc]
  refine Runs.by (printSet_e · _) ?_
  rw [g, decRs_enc]
  refine .go ?_
  refine Runs.by (printSet_p2 · _ _) ?_
  have hc := canR_len (fun j => hasI l (j : Nat)) 256
  rw [canR_arr (g := fun j => hasI l (j : Nat)) fun _ _ => rfl, isB_arr, isRs_enc (x := canR (fun j => hasI l (j : Nat)) 256) (by omega), g, decRs_enc, decRs_enc]
  simp only [Bool.and_self, cond_true]
  unfold setP
  by_cases h1 : canR (fun j => hasI l (j : Nat)) 256 = l
  · rw [decide_eq_true h1, if_neg (by simpa using h1)]
    have hl2 : l.length ≤ 256 := by rw [h1] at hc; exact hc
    have e4 : ∀ j, j < 256 → getB (arrB (fun j => hasI l (j : Nat)) 256) j = hasI l (j : Nat) := getB_e fun _ _ => rfl
    refine .go ?_
    refine Runs.by (printSet_p4 · _ _) ?_
    have h6 := ps6 l hl2 _ (fun j => hasI l (j : Nat)) e4
    rw [encRs_len]
    by_cases h2 : l.length = 1
    · have ha : atL (encRs l) 0 = [.int .u8 (l.getD 0 (0, 0)).1.toNat, .int .u8 (l.getD 0 (0, 0)).2.toNat] := rs_at l (i := 0) (by omega)
      rw [ha, cI0, cI1, beq_u8, okB_u8, u8_of]
      simp (disch := omega) only [ev_eq_t, ev_lt_t, cond_true, h2]
      by_cases h3 : (l.getD 0 (0, 0)).1 = (l.getD 0 (0, 0)).2
      · rw [decide_eq_true h3]
        cases h4 : visB (l.getD 0 (0, 0)).1 with
        | true => rw [if_pos ⟨trivial, h3, rfl⟩]; exact .ret
        | false => rw [if_neg (by simp)]; exact .go h6
      · rw [decide_eq_false h3, if_neg (fun ⟨_, h, _⟩ => h3 h)]; exact .go h6
    · rw [ev_eq_f (by omega), if_neg (by simp [h2])]
      exact .go h6
  · rw [decide_eq_false h1, if_pos h1]
    exact .ret
theorem text_ok : ∀ n, Holds (k_text n) := text_holds printSet_holds
theorem Print_ok : Holds k_Print := Print_holds printSet_holds
end Go.Ab
namespace Go.Ab
open Go.Proofs

/-- A reader: what is left, and whether something was wrong. -/
abbrev RS := List UInt8 × Bool
def nextS (s : RS) : UInt8 := if s.2 then 0 else s.1.headD 0
def takesS (s : RS) (c : UInt8) : Bool := !s.2 && (s.1.head? == some c)
def takeS (s : RS) (c : UInt8) : RS := (if takesS s c then s.1.tail else s.1, s.2)
def wantS (s : RS) (c : UInt8) : RS := if takesS s c then (s.1.tail, s.2) else (s.1, true)
def digB (c : UInt8) : Bool := decide (48 ≤ c) && decide (c ≤ 57)
def numL : Nat → Int → Int → RS → Int × Int × RS
  | 0, n, d, s => (n, d, s)
  | k + 1, n, d, s => if digB (nextS s) then (if d = 3 ∨ (0 < d ∧ n = 0) then (n, d, s) else numL k (10 * n + (((nextS s).toNat : Int) - 48)) (d + 1) (takeS s (nextS s))) else (n, d, s)
def numS (s : RS) : Int × RS := ((numL 4 0 0 s).1, ((numL 4 0 0 s).2.2.1, decide ((numL 4 0 0 s).2.1 = 0) || (numL 4 0 0 s).2.2.2))
/-- An escape's bytes; whether it is one. -/
def escF (c : UInt8) (j : Nat) : Bool :=
  if c = 110 then decide (j = 10) else if c = 116 then decide (j = 9) else if c = 100 then decide (48 ≤ j ∧ j ≤ 57)
  else if c = 119 then decide ((48 ≤ j ∧ j ≤ 57) ∨ (97 ≤ j ∧ j ≤ 122) ∨ (65 ≤ j ∧ j ≤ 90) ∨ j = 95) else decide (j = c.toNat)
def escOk (c : UInt8) : Bool := decide (c = 110) || (decide (c = 116) || (decide (c = 100) || (decide (c = 119) || (decide (classB c = 1) || decide (c = 45)))))
def escLo (c : UInt8) : UInt8 := if c = 110 then 10 else if c = 116 then 9 else c
def elemS (s : RS) (f : Nat → Bool) : (UInt8 × Bool) × RS × (Nat → Bool) :=
  if takesS s 92 then
    (if escOk (nextS (takeS s 92)) && takesS (takeS s 92) (nextS (takeS s 92)) then
      ((if nextS (takeS s 92) = 100 ∨ nextS (takeS s 92) = 119 then (0, false) else (escLo (nextS (takeS s 92)), true)), takeS (takeS s 92) (nextS (takeS s 92)), fun j => f j || escF (nextS (takeS s 92)) j)
    else ((0, false), ((takeS s 92).1, true), f))
  else if classB (nextS s) = 2 ∨ nextS s ∈ ([91, 93, 94, 45] : List UInt8) ∨ takesS s (nextS s) = false then ((0, false), (s.1, true), f)
  else ((nextS s, true), takeS s (nextS s), fun j => f j || decide (j = (nextS s).toNat))
def setL : Nat → Bool → RS → (Nat → Bool) → RS × (Nat → Bool)
  | 0, _, s, f => (s, f)
  | n + 1, first, s, f =>
    if !s.2 && (first || nextS s != 93) then
      (if (elemS s f).1.2 && takesS (elemS s f).2.1 45 then
        setL n false
          (let e2 := elemS (takeS (elemS s f).2.1 45) (elemS s f).2.2
           if e2.1.2 = false ∨ e2.1.1 < (elemS s f).1.1 then (e2.2.1.1, true) else e2.2.1)
          (let e2 := elemS (takeS (elemS s f).2.1 45) (elemS s f).2.2
           fun j => e2.2.2 j || (decide ((elemS s f).1.1.toNat ≤ j) && decide (j ≤ e2.1.1.toNat)))
      else setL n false (elemS s f).2.1 (elemS s f).2.2)
    else (s, f)
def setS (s : RS) : List (UInt8 × UInt8) × RS :=
  (canR (fun j => if takesS s 94 then !((setL (s.1.length + 2) true (takeS s 94) fun _ => false).2 j) else (setL (s.1.length + 2) true (takeS s 94) fun _ => false).2 j) 256,
    wantS (setL (s.1.length + 2) true (takeS s 94) fun _ => false).1 93)
def dotR : List (UInt8 × UInt8) := canR (fun j => !(hasI [(10, 10)] (j : Nat))) 256
def leafX (k : Int) : Rx := .mk k [] 0 0 []
def setX (l : List (UInt8 × UInt8)) : Rx := .mk 1 l 0 0 []
def atomS (alt : RS → Rx × RS) (s : RS) : Rx × RS :=
  if takesS s 40 then ((alt (takeS s 40)).1, wantS (alt (takeS s 40)).2 41)
  else if takesS s 94 then (leafX 5, takeS s 94)
  else if takesS s 36 then (leafX 6, takeS s 36)
  else if takesS s 46 then (setX dotR, takeS s 46)
  else if takesS s 91 then (setX (setS (takeS s 91)).1, (setS (takeS s 91)).2)
  else if takesS s 92 then
    (if takesS (takeS s 92) 98 then (leafX 7, takeS (takeS s 92) 98)
    else (setX (canR (escF (nextS (takeS s 92))) 256), if escOk (nextS (takeS s 92)) && takesS (takeS s 92) (nextS (takeS s 92)) then takeS (takeS s 92) (nextS (takeS s 92)) else ((takeS s 92).1, true)))
  else (setX [(nextS s, nextS s)], if classB (nextS s) = 0 ∧ takesS s (nextS s) = true then takeS s (nextS s) else (s.1, true))
def repX (mn mx : Int) (x : Rx) : Rx := .mk 4 [] mn mx [x]
/-- A repetition in braces, behind the first brace. -/
def brS (x : Rx) (s : RS) : Rx × RS :=
  if takesS (numS s).2 44 then
    (if nextS (takeS (numS s).2 44) = 125 then (repX (numS s).1 (-1) x, wantS (takeS (numS s).2 44) 125)
    else (repX (numS s).1 (numS (takeS (numS s).2 44)).1 x, wantS (numS (takeS (numS s).2 44)).2 125))
  else (repX (numS s).1 (numS s).1 x, wantS (numS s).2 125)
def repS (x : Rx) (s : RS) : Rx × RS :=
  if takesS s 42 then (repX 0 (-1) x, takeS s 42)
  else if takesS s 43 then (repX 1 (-1) x, takeS s 43)
  else if takesS s 63 then (repX 0 1 x, takeS s 63)
  else if takesS s 123 then brS x (takeS s 123)
  else (x, s)
def itemS (alt : RS → Rx × RS) (s : RS) : Rx × RS := repS (atomS alt s).1 (atomS alt s).2
def seqGo (s : RS) : Bool := decide (s.1 ≠ []) && (!s.2 && (decide (nextS s ≠ 124) && decide (nextS s ≠ 41)))
def seqL (alt : RS → Rx × RS) : Nat → List Rx → RS → List Rx × RS
  | 0, l, s => (l, s)
  | n + 1, l, s => if seqGo s then seqL alt n (l ++ [(itemS alt s).1]) (itemS alt s).2 else (l, s)
def oneX (k : Int) (l : List Rx) : Rx := if l.length = 1 then l.getD 0 default else .mk k [] 0 0 l
def seqS (alt : RS → Rx × RS) (s : RS) : Rx × RS := (oneX 2 (seqL alt (s.1.length + 2) [] s).1, (seqL alt (s.1.length + 2) [] s).2)
def altL (alt : RS → Rx × RS) : Nat → List Rx → RS → List Rx × RS
  | 0, l, s => (l, s)
  | n + 1, l, s => if takesS s 124 then altL alt n (l ++ [(seqS alt (takeS s 124)).1]) (seqS alt (takeS s 124)).2 else (l, s)
def altS : Nat → RS → Rx × RS
  | 0, s => (default, s)
  | n + 1, s => (oneX 3 (altL (altS n) (s.1.length + 2) [(seqS (altS n) s).1] (seqS (altS n) s).2).1, (altL (altS n) (s.1.length + 2) [(seqS (altS n) s).1] (seqS (altS n) s).2).2)
def zeroX : Rx := .mk 0 [] 0 0 []
def parseP (l : List UInt8) : Rx × Int :=
  if 300 < l.length then (zeroX, 4)
  else if (altS 301 (l, false)).2.2 = true ∨ (altS 301 (l, false)).2.1 ≠ [] then (zeroX, 3)
  else if rightS (altS 301 (l, false)).1 ≠ 0 then (zeroX, rightS (altS 301 (l, false)).1)
  else ((altS 301 (l, false)).1, 0)

noncomputable def k_next : Nat × Con := (n_regex_reader_next, fun
  | [.lf (.ptr 0 0)], [.box [.str, .bool] [.str s, .bool b]] => some (true, [.int .u8 ((nextS (bl s, b)).toNat : Int), .str s, .bool b])
  | _, _ => none)
noncomputable def k_take : Nat × Con := (n_regex_reader_take, fun
  | [.lf (.ptr 0 0), .lf (.int .u8 c)], [.box [.str, .bool] [.str s, .bool b]] => some (okB c, [.bool (takesS (bl s, b) (u8 c)), .str (mk (takeS (bl s, b) (u8 c)).1), .bool b])
  | _, _ => none)
noncomputable def k_want : Nat × Con := (n_regex_reader_want, fun
  | [.lf (.ptr 0 0), .lf (.int .u8 c)], [.box [.str, .bool] [.str s, .bool b]] => some (okB c, [.str (mk (wantS (bl s, b) (u8 c)).1), .bool (wantS (bl s, b) (u8 c)).2])
  | _, _ => none)
noncomputable def k_number : Nat × Con := (n_regex_reader_number, fun
  | [.lf (.ptr 0 0)], [.box [.str, .bool] [.str s, .bool b]] => some (true, [.int .i64 (numS (bl s, b)).1, .str (mk (numS (bl s, b)).2.1), .bool (numS (bl s, b)).2.2])
  | _, _ => none)
noncomputable def k_escape : Nat × Con := (n_regex_escape, fun
  | [.lf (.int .u8 c)], [] => some (okB c, arrB (fun j => escF (u8 c) j) 256 ++ [.bool (escOk (u8 c))])
  | _, _ => none)
noncomputable def k_elem : Nat × Con := (n_regex_reader_elem, fun
  | [.lf (.ptr 0 0), .lf (.ptr 1 0)], [.box [.str, .bool] [.str s, .bool b], .box ks cs] => some (isKB ks && isB cs,
      [.int .u8 ((elemS (bl s, b) (getB cs)).1.1.toNat : Int), .bool (elemS (bl s, b) (getB cs)).1.2, .str (mk (elemS (bl s, b) (getB cs)).2.1.1), .bool (elemS (bl s, b) (getB cs)).2.1.2] ++ arrB (fun j => (elemS (bl s, b) (getB cs)).2.2 j) 256)
  | _, _ => none)
noncomputable def k_set : Nat × Con := (n_regex_reader_set, fun
  | [.lf (.ptr 0 0)], [.box [.str, .bool] [.str s, .bool b]] => some (Nat.ble s.size 1000, cells5 (setX (setS (bl s, b)).1) ++ [.str (mk (setS (bl s, b)).2.1), .bool (setS (bl s, b)).2.2])
  | _, _ => none)
/-- Of a reader: an expression, and what is left. -/
noncomputable def cRd (n : Nat) (f : RS → Rx × RS) : Con
  | [.lf (.ptr 0 0)], [.box [.str, .bool] [.str s, .bool b]] => some (Nat.ble s.size 1000 && Nat.ble s.size n, cells5 (f (bl s, b)).1 ++ [.str (mk (f (bl s, b)).2.1), .bool (f (bl s, b)).2.2])
  | _, _ => none
noncomputable def k_atom (n : Nat) : Nat × Con := (n_regex_reader_atom, cRd n (atomS (altS n)))
noncomputable def k_item (n : Nat) : Nat × Con := (n_regex_reader_item, cRd n (itemS (altS n)))
noncomputable def k_seq (n : Nat) : Nat × Con := (n_regex_reader_seq, cRd n (seqS (altS n)))
noncomputable def k_alt (n : Nat) : Nat × Con := (n_regex_reader_alt, fun
  | [.lf (.ptr 0 0)], [.box [.str, .bool] [.str s, .bool b]] => some (Nat.ble s.size 1000 && Nat.ble (s.size + 1) n, cells5 (altS n (bl s, b)).1 ++ [.str (mk (altS n (bl s, b)).2.1), .bool (altS n (bl s, b)).2.2])
  | _, _ => none)
noncomputable def k_Parse : Nat × Con := (n_regex_Parse, fun
  | [.lf (.str s)], [] => some (Nat.ble s.size 9223372036854775807, cells5 (parseP (bl s)).1 ++ [.int .i64 (parseP (bl s)).2])
  | _, _ => none)
end Go.Ab
namespace Go.Ab
open Go.Proofs
/-! (*codesearch/regex.reader).next -/
theorem next_e (G : Req → R) (s : ByteArray) (b : Bool) : runB (cfg []) G (.enter 62 [(.lf (.ptr 0 0))] [(.box [.str, .bool] [(.str (s)), (.bool (b))])]) =
  (cond (bl s == bl (mk []))
   (some [(.int IntKind.u8 (0)), (.str (s)), (.bool (b))])
   (cond (b)
    (some [(.int IntKind.u8 (0)), (.str (s)), (.bool (b))])
    (cond (ltI 0 (↑(ByteArray.size s) : Int))
     (some [(.int IntKind.u8 (byI s 0)), (.str (s)), (.bool (b))])
     none))) := by kernel_rfl

/-! (*codesearch/regex.reader).take -/
theorem take_e (G : Req → R) (c : Int) (s : ByteArray) (b : Bool) : runB (cfg []) G (.enter 51 [(.lf (.ptr 0 0)), (.lf (.int IntKind.u8 (c)))] [(.box [.str, .bool] [(.str (s)), (.bool (b))])]) =
  (cond (bl s == bl (mk []))
   (some [(.bool (false)), (.str (s)), (.bool (b))])
   (cond (b)
    (some [(.bool (false)), (.str (s)), (.bool (b))])
    (cond (ltI 0 (↑(ByteArray.size s) : Int))
     (cond (byI s 0 != c)
      (some [(.bool (false)), (.str (s)), (.bool (b))])
      (cond (leI 1 (↑(ByteArray.size s) : Int))
       (some [(.bool (true)), (.str (ByteArray.extract s 1 (ByteArray.size s))), (.bool (b))])
       none))
     none))) := by kernel_rfl

/-! (*codesearch/regex.reader).want -/
theorem want_e (G : Req → R) (c : Int) (s : ByteArray) (b : Bool) : runB (cfg [k_take]) G (.enter 80 [(.lf (.ptr 0 0)), (.lf (.int IntKind.u8 (c)))] [(.box [.str, .bool] [(.str (s)), (.bool (b))])]) =
  (cond (okB c)
   (cond (!takesS (bl s, b) (u8 c))
    (some [(.str (mk (Prod.fst (takeS (bl s, b) (u8 c))))), (.bool (true))])
    (some [(.str (mk (Prod.fst (takeS (bl s, b) (u8 c))))), (.bool (b))]))
   none) := by kernel_rfl

/-! (*codesearch/regex.reader).number -/
noncomputable def number_q3 (n3 : Int) (digits4 : Int) (c5 : Int) (h0_0 : ByteArray) (h0_1 : Bool) : Req := .point 79 [(some ([.str, .bool], [.any, .any]))] (todoAt Tryd.prog 79 3) ⟨[(.lf (.ptr 0 0)), an, an, (.lf (.int IntKind.i64 n3)), (.lf (.int IntKind.i64 digits4)), (.lf (.int IntKind.u8 c5)), an, an, an, an, an, an, an, an, an, an, an, an, an, an, an, an, an, an, an, an, an, an, an, an, an, an, an, an, an, an, an, an, an, an, an, an, an], [(.box [.str, .bool] [(.str h0_0), (.bool h0_1)])]⟩
theorem number_e (G : Req → R) (s : ByteArray) (b : Bool) : runB (cfg [k_next, k_take]) G (.enter 79 [(.lf (.ptr 0 0))] [(.box [.str, .bool] [(.str (s)), (.bool (b))])]) =
  (G (number_q3 0 0 ((↑(UInt8.toNat (nextS (bl s, b))) : Int)) s b)) := by kernel_rfl
theorem number_p3 (G : Req → R) (n3 : Int) (digits4 : Int) (c5 : Int) (h0_0 : ByteArray) (h0_1 : Bool) : runB (cfg [k_next, k_take]) G (number_q3 n3 digits4 c5 h0_0 h0_1) =
  (cond (leI 48 c5)
   (cond (leI c5 57)
    (cond (digits4 == 3)
     (cond (digits4 == 0)
      (some [(.int IntKind.i64 (n3)), (.str (h0_0)), (.bool (true))])
      (some [(.int IntKind.i64 (n3)), (.str (h0_0)), (.bool (h0_1))]))
     (cond (ltI 0 digits4)
      (cond (n3 == 0)
       (cond (digits4 == 0)
        (some [(.int IntKind.i64 (n3)), (.str (h0_0)), (.bool (true))])
        (some [(.int IntKind.i64 (n3)), (.str (h0_0)), (.bool (h0_1))]))
       (cond (okB c5)
        (G (number_q3 (wrapI IntKind.i64 (wrapI IntKind.i64 (10 * n3) + wrapI IntKind.i64 (wrapI IntKind.u8 (c5 - 48)))) (wrapI IntKind.i64 (digits4 + 1)) ((↑(UInt8.toNat (nextS (bl (mk (Prod.fst (takeS (bl h0_0, h0_1) (u8 c5)))), h0_1))) : Int)) (mk (Prod.fst (takeS (bl h0_0, h0_1) (u8 c5)))) h0_1))
        none))
      (cond (okB c5)
       (G (number_q3 (wrapI IntKind.i64 (wrapI IntKind.i64 (10 * n3) + wrapI IntKind.i64 (wrapI IntKind.u8 (c5 - 48)))) (wrapI IntKind.i64 (digits4 + 1)) ((↑(UInt8.toNat (nextS (bl (mk (Prod.fst (takeS (bl h0_0, h0_1) (u8 c5)))), h0_1))) : Int)) (mk (Prod.fst (takeS (bl h0_0, h0_1) (u8 c5)))) h0_1))
       none)))
    (cond (digits4 == 0)
     (some [(.int IntKind.i64 (n3)), (.str (h0_0)), (.bool (true))])
     (some [(.int IntKind.i64 (n3)), (.str (h0_0)), (.bool (h0_1))])))
   (cond (digits4 == 0)
    (some [(.int IntKind.i64 (n3)), (.str (h0_0)), (.bool (true))])
    (some [(.int IntKind.i64 (n3)), (.str (h0_0)), (.bool (h0_1))]))) := by kernel_rfl

/-! codesearch/regex.escape -/
noncomputable def escape_q16 (h0 : Nat → Bool) (h1 : Nat → Bool) : Req := .point 91 [] (todoAt Tryd.prog 91 16) ⟨[an, an, (.lf (.ptr 0 0)), an, (.lf (.ptr 1 0)), an, an, an, an, an, an, an, an, an, an, an, an, an, an, an, an, an, an, an, an, an, an, an, an, an, an, an], [(.box (List.replicate 256 .bool) (arrB h0 256)), (.box (List.replicate 256 .bool) (arrB h1 256))]⟩
noncomputable def escape_q4 (c0 : Int) (h0 : Nat → Bool) (h1 : Nat → Bool) : Req := .point 91 [] (todoAt Tryd.prog 91 4) ⟨[(.lf (.int IntKind.u8 c0)), an, (.lf (.ptr 0 0)), an, (.lf (.ptr 1 0)), an, an, an, an, an, an, an, an, an, an, an, an, an, an, an, an, an, an, an, an, an, an, an, an, an, an, an], [(.box (List.replicate 256 .bool) (arrB h0 256)), (.box (List.replicate 256 .bool) (arrB h1 256))]⟩
theorem escape_e (G : Req → R) (c0 : Int) : runB (cfg [k_badd, k_class]) G (.enter 91 [(.lf (.int IntKind.u8 (c0)))] []) =
  (cond (c0 == 110)
   (G (escape_q16 (fun j => false) (fun j => Nat.ble 10 j && Nat.ble j 10)))
   (cond (c0 == 116)
    (G (escape_q16 (fun j => false) (fun j => Nat.ble 9 j && Nat.ble j 9)))
    (cond (c0 == 100)
     (cond (isB (arrB (fun j => false) 256) && true)
      (G (escape_q16 (fun j => false) (fun j => Nat.ble 48 j && Nat.ble j 57)))
      none)
     (cond (c0 == 119)
      (cond (isB (arrB (fun j => false) 256) && true)
       (cond (isB (arrB (fun j => Nat.ble 48 j && Nat.ble j 57) 256) && true)
        (cond (isB (arrB (fun j => Nat.ble 48 j && Nat.ble j 57 || Nat.ble 97 j && Nat.ble j 122) 256) && true)
         (G (escape_q16 (fun j => false) (fun j => Nat.ble 48 j && Nat.ble j 57 || (Nat.ble 65 j && Nat.ble j 90 || (Nat.ble 95 j && Nat.ble j 95 || Nat.ble 97 j && Nat.ble j 122)))))
         none)
        none)
       none)
      (cond (leI 0 c0 && ltI c0 (↑256 : Int))
       (G (escape_q4 c0 (fun j => false) (fun j => bif Nat.beq j (Int.toNat c0) then true else false)))
       none))))) := by kernel_rfl
theorem escape_p16 (G : Req → R) (h0 : Nat → Bool) (h1 : Nat → Bool) : runB (cfg [k_badd, k_class]) G (escape_q16 h0 h1) =
  (some (arrB (fun j => h1 j) 256 ++ [(.bool (true))])) := by kernel_rfl
theorem escape_p4 (G : Req → R) (c0 : Int) (h0 : Nat → Bool) (h1 : Nat → Bool) : runB (cfg [k_badd, k_class]) G (escape_q4 c0 h0 h1) =
  (dupN 1
   (cond (okB c0)
    (cond (classB (u8 c0) == 1)
     (some (arrB (fun j => h1 j) 256 ++ [(.bool (true))]))
     (some (arrB (fun j => h1 j) 256 ++ [(.bool (c0 == 45))])))
    none)) := by kernel_rfl

/-! (*codesearch/regex.reader).item -/
theorem item_e (G : Req → R) (n : Nat) (s : ByteArray) (b : Bool) : runB (cfg [(k_atom n), k_take, k_number, k_next, k_want]) G (.enter 63 [(.lf (.ptr 0 0))] [(.box [.str, .bool] [(.str (s)), (.bool (b))])]) =
  (cond (Nat.ble (ByteArray.size s) 1000 && Nat.ble (ByteArray.size s) n)
   (cond (takesS (bl (mk (Prod.fst (Prod.snd (atomS (altS n) (bl s, b))))), Prod.snd (Prod.snd (atomS (altS n) (bl s, b)))) (u8 42))
    (some [(.int IntKind.i64 (4)), (.lst 48 []), (.int IntKind.i64 (0)), (.int IntKind.i64 (-1)), (.lst 25 [[(.int IntKind.i64 (Rx.kind (Prod.fst (atomS (altS n) (bl s, b))))), (.lst 48 (encRs (Rx.set (Prod.fst (atomS (altS n) (bl s, b)))))), (.int IntKind.i64 (Rx.mn (Prod.fst (atomS (altS n) (bl s, b))))), (.int IntKind.i64 (Rx.mx (Prod.fst (atomS (altS n) (bl s, b))))), (.lst 25 (List.map encX (Rx.subs (Prod.fst (atomS (altS n) (bl s, b))))))]]), (.str (mk (Prod.fst (takeS (bl (mk (Prod.fst (Prod.snd (atomS (altS n) (bl s, b))))), Prod.snd (Prod.snd (atomS (altS n) (bl s, b)))) (u8 42))))), (.bool (Prod.snd (Prod.snd (atomS (altS n) (bl s, b)))))])
    (cond (takesS (bl (mk (Prod.fst (takeS (bl (mk (Prod.fst (Prod.snd (atomS (altS n) (bl s, b))))), Prod.snd (Prod.snd (atomS (altS n) (bl s, b)))) (u8 42)))), Prod.snd (Prod.snd (atomS (altS n) (bl s, b)))) (u8 43))
     (some [(.int IntKind.i64 (4)), (.lst 48 []), (.int IntKind.i64 (1)), (.int IntKind.i64 (-1)), (.lst 25 [[(.int IntKind.i64 (Rx.kind (Prod.fst (atomS (altS n) (bl s, b))))), (.lst 48 (encRs (Rx.set (Prod.fst (atomS (altS n) (bl s, b)))))), (.int IntKind.i64 (Rx.mn (Prod.fst (atomS (altS n) (bl s, b))))), (.int IntKind.i64 (Rx.mx (Prod.fst (atomS (altS n) (bl s, b))))), (.lst 25 (List.map encX (Rx.subs (Prod.fst (atomS (altS n) (bl s, b))))))]]), (.str (mk (Prod.fst (takeS (bl (mk (Prod.fst (takeS (bl (mk (Prod.fst (Prod.snd (atomS (altS n) (bl s, b))))), Prod.snd (Prod.snd (atomS (altS n) (bl s, b)))) (u8 42)))), Prod.snd (Prod.snd (atomS (altS n) (bl s, b)))) (u8 43))))), (.bool (Prod.snd (Prod.snd (atomS (altS n) (bl s, b)))))])
     (cond (takesS (bl (mk (Prod.fst (takeS (bl (mk (Prod.fst (takeS (bl (mk (Prod.fst (Prod.snd (atomS (altS n) (bl s, b))))), Prod.snd (Prod.snd (atomS (altS n) (bl s, b)))) (u8 42)))), Prod.snd (Prod.snd (atomS (altS n) (bl s, b)))) (u8 43)))), Prod.snd (Prod.snd (atomS (altS n) (bl s, b)))) (u8 63))
      (some [(.int IntKind.i64 (4)), (.lst 48 []), (.int IntKind.i64 (0)), (.int IntKind.i64 (1)), (.lst 25 [[(.int IntKind.i64 (Rx.kind (Prod.fst (atomS (altS n) (bl s, b))))), (.lst 48 (encRs (Rx.set (Prod.fst (atomS (altS n) (bl s, b)))))), (.int IntKind.i64 (Rx.mn (Prod.fst (atomS (altS n) (bl s, b))))), (.int IntKind.i64 (Rx.mx (Prod.fst (atomS (altS n) (bl s, b))))), (.lst 25 (List.map encX (Rx.subs (Prod.fst (atomS (altS n) (bl s, b))))))]]), (.str (mk (Prod.fst (takeS (bl (mk (Prod.fst (takeS (bl (mk (Prod.fst (takeS (bl (mk (Prod.fst (Prod.snd (atomS (altS n) (bl s, b))))), Prod.snd (Prod.snd (atomS (altS n) (bl s, b)))) (u8 42)))), Prod.snd (Prod.snd (atomS (altS n) (bl s, b)))) (u8 43)))), Prod.snd (Prod.snd (atomS (altS n) (bl s, b)))) (u8 63))))), (.bool (Prod.snd (Prod.snd (atomS (altS n) (bl s, b)))))])
      (cond (takesS (bl (mk (Prod.fst (takeS (bl (mk (Prod.fst (takeS (bl (mk (Prod.fst (takeS (bl (mk (Prod.fst (Prod.snd (atomS (altS n) (bl s, b))))), Prod.snd (Prod.snd (atomS (altS n) (bl s, b)))) (u8 42)))), Prod.snd (Prod.snd (atomS (altS n) (bl s, b)))) (u8 43)))), Prod.snd (Prod.snd (atomS (altS n) (bl s, b)))) (u8 63)))), Prod.snd (Prod.snd (atomS (altS n) (bl s, b)))) (u8 123))
       (cond (takesS (bl (mk (Prod.fst (Prod.snd (numS (bl (mk (Prod.fst (takeS (bl (mk (Prod.fst (takeS (bl (mk (Prod.fst (takeS (bl (mk (Prod.fst (takeS (bl (mk (Prod.fst (Prod.snd (atomS (altS n) (bl s, b))))), Prod.snd (Prod.snd (atomS (altS n) (bl s, b)))) (u8 42)))), Prod.snd (Prod.snd (atomS (altS n) (bl s, b)))) (u8 43)))), Prod.snd (Prod.snd (atomS (altS n) (bl s, b)))) (u8 63)))), Prod.snd (Prod.snd (atomS (altS n) (bl s, b)))) (u8 123)))), Prod.snd (Prod.snd (atomS (altS n) (bl s, b)))))))), Prod.snd (Prod.snd (numS (bl (mk (Prod.fst (takeS (bl (mk (Prod.fst (takeS (bl (mk (Prod.fst (takeS (bl (mk (Prod.fst (takeS (bl (mk (Prod.fst (Prod.snd (atomS (altS n) (bl s, b))))), Prod.snd (Prod.snd (atomS (altS n) (bl s, b)))) (u8 42)))), Prod.snd (Prod.snd (atomS (altS n) (bl s, b)))) (u8 43)))), Prod.snd (Prod.snd (atomS (altS n) (bl s, b)))) (u8 63)))), Prod.snd (Prod.snd (atomS (altS n) (bl s, b)))) (u8 123)))), Prod.snd (Prod.snd (atomS (altS n) (bl s, b))))))) (u8 44))
        (cond ((↑(UInt8.toNat (nextS (bl (mk (Prod.fst (takeS (bl (mk (Prod.fst (Prod.snd (numS (bl (mk (Prod.fst (takeS (bl (mk (Prod.fst (takeS (bl (mk (Prod.fst (takeS (bl (mk (Prod.fst (takeS (bl (mk (Prod.fst (Prod.snd (atomS (altS n) (bl s, b))))), Prod.snd (Prod.snd (atomS (altS n) (bl s, b)))) (u8 42)))), Prod.snd (Prod.snd (atomS (altS n) (bl s, b)))) (u8 43)))), Prod.snd (Prod.snd (atomS (altS n) (bl s, b)))) (u8 63)))), Prod.snd (Prod.snd (atomS (altS n) (bl s, b)))) (u8 123)))), Prod.snd (Prod.snd (atomS (altS n) (bl s, b)))))))), Prod.snd (Prod.snd (numS (bl (mk (Prod.fst (takeS (bl (mk (Prod.fst (takeS (bl (mk (Prod.fst (takeS (bl (mk (Prod.fst (takeS (bl (mk (Prod.fst (Prod.snd (atomS (altS n) (bl s, b))))), Prod.snd (Prod.snd (atomS (altS n) (bl s, b)))) (u8 42)))), Prod.snd (Prod.snd (atomS (altS n) (bl s, b)))) (u8 43)))), Prod.snd (Prod.snd (atomS (altS n) (bl s, b)))) (u8 63)))), Prod.snd (Prod.snd (atomS (altS n) (bl s, b)))) (u8 123)))), Prod.snd (Prod.snd (atomS (altS n) (bl s, b))))))) (u8 44)))), Prod.snd (Prod.snd (numS (bl (mk (Prod.fst (takeS (bl (mk (Prod.fst (takeS (bl (mk (Prod.fst (takeS (bl (mk (Prod.fst (takeS (bl (mk (Prod.fst (Prod.snd (atomS (altS n) (bl s, b))))), Prod.snd (Prod.snd (atomS (altS n) (bl s, b)))) (u8 42)))), Prod.snd (Prod.snd (atomS (altS n) (bl s, b)))) (u8 43)))), Prod.snd (Prod.snd (atomS (altS n) (bl s, b)))) (u8 63)))), Prod.snd (Prod.snd (atomS (altS n) (bl s, b)))) (u8 123)))), Prod.snd (Prod.snd (atomS (altS n) (bl s, b))))))))) : Int) != 125)
         (some [(.int IntKind.i64 (4)), (.lst 48 []), (.int IntKind.i64 (Prod.fst (numS (bl (mk (Prod.fst (takeS (bl (mk (Prod.fst (takeS (bl (mk (Prod.fst (takeS (bl (mk (Prod.fst (takeS (bl (mk (Prod.fst (Prod.snd (atomS (altS n) (bl s, b))))), Prod.snd (Prod.snd (atomS (altS n) (bl s, b)))) (u8 42)))), Prod.snd (Prod.snd (atomS (altS n) (bl s, b)))) (u8 43)))), Prod.snd (Prod.snd (atomS (altS n) (bl s, b)))) (u8 63)))), Prod.snd (Prod.snd (atomS (altS n) (bl s, b)))) (u8 123)))), Prod.snd (Prod.snd (atomS (altS n) (bl s, b))))))), (.int IntKind.i64 (Prod.fst (numS (bl (mk (Prod.fst (takeS (bl (mk (Prod.fst (Prod.snd (numS (bl (mk (Prod.fst (takeS (bl (mk (Prod.fst (takeS (bl (mk (Prod.fst (takeS (bl (mk (Prod.fst (takeS (bl (mk (Prod.fst (Prod.snd (atomS (altS n) (bl s, b))))), Prod.snd (Prod.snd (atomS (altS n) (bl s, b)))) (u8 42)))), Prod.snd (Prod.snd (atomS (altS n) (bl s, b)))) (u8 43)))), Prod.snd (Prod.snd (atomS (altS n) (bl s, b)))) (u8 63)))), Prod.snd (Prod.snd (atomS (altS n) (bl s, b)))) (u8 123)))), Prod.snd (Prod.snd (atomS (altS n) (bl s, b)))))))), Prod.snd (Prod.snd (numS (bl (mk (Prod.fst (takeS (bl (mk (Prod.fst (takeS (bl (mk (Prod.fst (takeS (bl (mk (Prod.fst (takeS (bl (mk (Prod.fst (Prod.snd (atomS (altS n) (bl s, b))))), Prod.snd (Prod.snd (atomS (altS n) (bl s, b)))) (u8 42)))), Prod.snd (Prod.snd (atomS (altS n) (bl s, b)))) (u8 43)))), Prod.snd (Prod.snd (atomS (altS n) (bl s, b)))) (u8 63)))), Prod.snd (Prod.snd (atomS (altS n) (bl s, b)))) (u8 123)))), Prod.snd (Prod.snd (atomS (altS n) (bl s, b))))))) (u8 44)))), Prod.snd (Prod.snd (numS (bl (mk (Prod.fst (takeS (bl (mk (Prod.fst (takeS (bl (mk (Prod.fst (takeS (bl (mk (Prod.fst (takeS (bl (mk (Prod.fst (Prod.snd (atomS (altS n) (bl s, b))))), Prod.snd (Prod.snd (atomS (altS n) (bl s, b)))) (u8 42)))), Prod.snd (Prod.snd (atomS (altS n) (bl s, b)))) (u8 43)))), Prod.snd (Prod.snd (atomS (altS n) (bl s, b)))) (u8 63)))), Prod.snd (Prod.snd (atomS (altS n) (bl s, b)))) (u8 123)))), Prod.snd (Prod.snd (atomS (altS n) (bl s, b)))))))))), (.lst 25 [[(.int IntKind.i64 (Rx.kind (Prod.fst (atomS (altS n) (bl s, b))))), (.lst 48 (encRs (Rx.set (Prod.fst (atomS (altS n) (bl s, b)))))), (.int IntKind.i64 (Rx.mn (Prod.fst (atomS (altS n) (bl s, b))))), (.int IntKind.i64 (Rx.mx (Prod.fst (atomS (altS n) (bl s, b))))), (.lst 25 (List.map encX (Rx.subs (Prod.fst (atomS (altS n) (bl s, b))))))]]), (.str (mk (Prod.fst (wantS (bl (mk (Prod.fst (Prod.snd (numS (bl (mk (Prod.fst (takeS (bl (mk (Prod.fst (Prod.snd (numS (bl (mk (Prod.fst (takeS (bl (mk (Prod.fst (takeS (bl (mk (Prod.fst (takeS (bl (mk (Prod.fst (takeS (bl (mk (Prod.fst (Prod.snd (atomS (altS n) (bl s, b))))), Prod.snd (Prod.snd (atomS (altS n) (bl s, b)))) (u8 42)))), Prod.snd (Prod.snd (atomS (altS n) (bl s, b)))) (u8 43)))), Prod.snd (Prod.snd (atomS (altS n) (bl s, b)))) (u8 63)))), Prod.snd (Prod.snd (atomS (altS n) (bl s, b)))) (u8 123)))), Prod.snd (Prod.snd (atomS (altS n) (bl s, b)))))))), Prod.snd (Prod.snd (numS (bl (mk (Prod.fst (takeS (bl (mk (Prod.fst (takeS (bl (mk (Prod.fst (takeS (bl (mk (Prod.fst (takeS (bl (mk (Prod.fst (Prod.snd (atomS (altS n) (bl s, b))))), Prod.snd (Prod.snd (atomS (altS n) (bl s, b)))) (u8 42)))), Prod.snd (Prod.snd (atomS (altS n) (bl s, b)))) (u8 43)))), Prod.snd (Prod.snd (atomS (altS n) (bl s, b)))) (u8 63)))), Prod.snd (Prod.snd (atomS (altS n) (bl s, b)))) (u8 123)))), Prod.snd (Prod.snd (atomS (altS n) (bl s, b))))))) (u8 44)))), Prod.snd (Prod.snd (numS (bl (mk (Prod.fst (takeS (bl (mk (Prod.fst (takeS (bl (mk (Prod.fst (takeS (bl (mk (Prod.fst (takeS (bl (mk (Prod.fst (Prod.snd (atomS (altS n) (bl s, b))))), Prod.snd (Prod.snd (atomS (altS n) (bl s, b)))) (u8 42)))), Prod.snd (Prod.snd (atomS (altS n) (bl s, b)))) (u8 43)))), Prod.snd (Prod.snd (atomS (altS n) (bl s, b)))) (u8 63)))), Prod.snd (Prod.snd (atomS (altS n) (bl s, b)))) (u8 123)))), Prod.snd (Prod.snd (atomS (altS n) (bl s, b))))))))))), Prod.snd (Prod.snd (numS (bl (mk (Prod.fst (takeS (bl (mk (Prod.fst (Prod.snd (numS (bl (mk (Prod.fst (takeS (bl (mk (Prod.fst (takeS (bl (mk (Prod.fst (takeS (bl (mk (Prod.fst (takeS (bl (mk (Prod.fst (Prod.snd (atomS (altS n) (bl s, b))))), Prod.snd (Prod.snd (atomS (altS n) (bl s, b)))) (u8 42)))), Prod.snd (Prod.snd (atomS (altS n) (bl s, b)))) (u8 43)))), Prod.snd (Prod.snd (atomS (altS n) (bl s, b)))) (u8 63)))), Prod.snd (Prod.snd (atomS (altS n) (bl s, b)))) (u8 123)))), Prod.snd (Prod.snd (atomS (altS n) (bl s, b)))))))), Prod.snd (Prod.snd (numS (bl (mk (Prod.fst (takeS (bl (mk (Prod.fst (takeS (bl (mk (Prod.fst (takeS (bl (mk (Prod.fst (takeS (bl (mk (Prod.fst (Prod.snd (atomS (altS n) (bl s, b))))), Prod.snd (Prod.snd (atomS (altS n) (bl s, b)))) (u8 42)))), Prod.snd (Prod.snd (atomS (altS n) (bl s, b)))) (u8 43)))), Prod.snd (Prod.snd (atomS (altS n) (bl s, b)))) (u8 63)))), Prod.snd (Prod.snd (atomS (altS n) (bl s, b)))) (u8 123)))), Prod.snd (Prod.snd (atomS (altS n) (bl s, b))))))) (u8 44)))), Prod.snd (Prod.snd (numS (bl (mk (Prod.fst (takeS (bl (mk (Prod.fst (takeS (bl (mk (Prod.fst (takeS (bl (mk (Prod.fst (takeS (bl (mk (Prod.fst (Prod.snd (atomS (altS n) (bl s, b))))), Prod.snd (Prod.snd (atomS (altS n) (bl s, b)))) (u8 42)))), Prod.snd (Prod.snd (atomS (altS n) (bl s, b)))) (u8 43)))), Prod.snd (Prod.snd (atomS (altS n) (bl s, b)))) (u8 63)))), Prod.snd (Prod.snd (atomS (altS n) (bl s, b)))) (u8 123)))), Prod.snd (Prod.snd (atomS (altS n) (bl s, b)))))))))) (u8 125))))), (.bool (Prod.snd (wantS (bl (mk (Prod.fst (Prod.snd (numS (bl (mk (Prod.fst (takeS (bl (mk (Prod.fst (Prod.snd (numS (bl (mk (Prod.fst (takeS (bl (mk (Prod.fst (takeS (bl (mk (Prod.fst (takeS (bl (mk (Prod.fst (takeS (bl (mk (Prod.fst (Prod.snd (atomS (altS n) (bl s, b))))), Prod.snd (Prod.snd (atomS (altS n) (bl s, b)))) (u8 42)))), Prod.snd (Prod.snd (atomS (altS n) (bl s, b)))) (u8 43)))), Prod.snd (Prod.snd (atomS (altS n) (bl s, b)))) (u8 63)))), Prod.snd (Prod.snd (atomS (altS n) (bl s, b)))) (u8 123)))), Prod.snd (Prod.snd (atomS (altS n) (bl s, b)))))))), Prod.snd (Prod.snd (numS (bl (mk (Prod.fst (takeS (bl (mk (Prod.fst (takeS (bl (mk (Prod.fst (takeS (bl (mk (Prod.fst (takeS (bl (mk (Prod.fst (Prod.snd (atomS (altS n) (bl s, b))))), Prod.snd (Prod.snd (atomS (altS n) (bl s, b)))) (u8 42)))), Prod.snd (Prod.snd (atomS (altS n) (bl s, b)))) (u8 43)))), Prod.snd (Prod.snd (atomS (altS n) (bl s, b)))) (u8 63)))), Prod.snd (Prod.snd (atomS (altS n) (bl s, b)))) (u8 123)))), Prod.snd (Prod.snd (atomS (altS n) (bl s, b))))))) (u8 44)))), Prod.snd (Prod.snd (numS (bl (mk (Prod.fst (takeS (bl (mk (Prod.fst (takeS (bl (mk (Prod.fst (takeS (bl (mk (Prod.fst (takeS (bl (mk (Prod.fst (Prod.snd (atomS (altS n) (bl s, b))))), Prod.snd (Prod.snd (atomS (altS n) (bl s, b)))) (u8 42)))), Prod.snd (Prod.snd (atomS (altS n) (bl s, b)))) (u8 43)))), Prod.snd (Prod.snd (atomS (altS n) (bl s, b)))) (u8 63)))), Prod.snd (Prod.snd (atomS (altS n) (bl s, b)))) (u8 123)))), Prod.snd (Prod.snd (atomS (altS n) (bl s, b))))))))))), Prod.snd (Prod.snd (numS (bl (mk (Prod.fst (takeS (bl (mk (Prod.fst (Prod.snd (numS (bl (mk (Prod.fst (takeS (bl (mk (Prod.fst (takeS (bl (mk (Prod.fst (takeS (bl (mk (Prod.fst (takeS (bl (mk (Prod.fst (Prod.snd (atomS (altS n) (bl s, b))))), Prod.snd (Prod.snd (atomS (altS n) (bl s, b)))) (u8 42)))), Prod.snd (Prod.snd (atomS (altS n) (bl s, b)))) (u8 43)))), Prod.snd (Prod.snd (atomS (altS n) (bl s, b)))) (u8 63)))), Prod.snd (Prod.snd (atomS (altS n) (bl s, b)))) (u8 123)))), Prod.snd (Prod.snd (atomS (altS n) (bl s, b)))))))), Prod.snd (Prod.snd (numS (bl (mk (Prod.fst (takeS (bl (mk (Prod.fst (takeS (bl (mk (Prod.fst (takeS (bl (mk (Prod.fst (takeS (bl (mk (Prod.fst (Prod.snd (atomS (altS n) (bl s, b))))), Prod.snd (Prod.snd (atomS (altS n) (bl s, b)))) (u8 42)))), Prod.snd (Prod.snd (atomS (altS n) (bl s, b)))) (u8 43)))), Prod.snd (Prod.snd (atomS (altS n) (bl s, b)))) (u8 63)))), Prod.snd (Prod.snd (atomS (altS n) (bl s, b)))) (u8 123)))), Prod.snd (Prod.snd (atomS (altS n) (bl s, b))))))) (u8 44)))), Prod.snd (Prod.snd (numS (bl (mk (Prod.fst (takeS (bl (mk (Prod.fst (takeS (bl (mk (Prod.fst (takeS (bl (mk (Prod.fst (takeS (bl (mk (Prod.fst (Prod.snd (atomS (altS n) (bl s, b))))), Prod.snd (Prod.snd (atomS (altS n) (bl s, b)))) (u8 42)))), Prod.snd (Prod.snd (atomS (altS n) (bl s, b)))) (u8 43)))), Prod.snd (Prod.snd (atomS (altS n) (bl s, b)))) (u8 63)))), Prod.snd (Prod.snd (atomS (altS n) (bl s, b)))) (u8 123)))), Prod.snd (Prod.snd (atomS (altS n) (bl s, b)))))))))) (u8 125))))])
         (some [(.int IntKind.i64 (4)), (.lst 48 []), (.int IntKind.i64 (Prod.fst (numS (bl (mk (Prod.fst (takeS (bl (mk (Prod.fst (takeS (bl (mk (Prod.fst (takeS (bl (mk (Prod.fst (takeS (bl (mk (Prod.fst (Prod.snd (atomS (altS n) (bl s, b))))), Prod.snd (Prod.snd (atomS (altS n) (bl s, b)))) (u8 42)))), Prod.snd (Prod.snd (atomS (altS n) (bl s, b)))) (u8 43)))), Prod.snd (Prod.snd (atomS (altS n) (bl s, b)))) (u8 63)))), Prod.snd (Prod.snd (atomS (altS n) (bl s, b)))) (u8 123)))), Prod.snd (Prod.snd (atomS (altS n) (bl s, b))))))), (.int IntKind.i64 (-1)), (.lst 25 [[(.int IntKind.i64 (Rx.kind (Prod.fst (atomS (altS n) (bl s, b))))), (.lst 48 (encRs (Rx.set (Prod.fst (atomS (altS n) (bl s, b)))))), (.int IntKind.i64 (Rx.mn (Prod.fst (atomS (altS n) (bl s, b))))), (.int IntKind.i64 (Rx.mx (Prod.fst (atomS (altS n) (bl s, b))))), (.lst 25 (List.map encX (Rx.subs (Prod.fst (atomS (altS n) (bl s, b))))))]]), (.str (mk (Prod.fst (wantS (bl (mk (Prod.fst (takeS (bl (mk (Prod.fst (Prod.snd (numS (bl (mk (Prod.fst (takeS (bl (mk (Prod.fst (takeS (bl (mk (Prod.fst (takeS (bl (mk (Prod.fst (takeS (bl (mk (Prod.fst (Prod.snd (atomS (altS n) (bl s, b))))), Prod.snd (Prod.snd (atomS (altS n) (bl s, b)))) (u8 42)))), Prod.snd (Prod.snd (atomS (altS n) (bl s, b)))) (u8 43)))), Prod.snd (Prod.snd (atomS (altS n) (bl s, b)))) (u8 63)))), Prod.snd (Prod.snd (atomS (altS n) (bl s, b)))) (u8 123)))), Prod.snd (Prod.snd (atomS (altS n) (bl s, b)))))))), Prod.snd (Prod.snd (numS (bl (mk (Prod.fst (takeS (bl (mk (Prod.fst (takeS (bl (mk (Prod.fst (takeS (bl (mk (Prod.fst (takeS (bl (mk (Prod.fst (Prod.snd (atomS (altS n) (bl s, b))))), Prod.snd (Prod.snd (atomS (altS n) (bl s, b)))) (u8 42)))), Prod.snd (Prod.snd (atomS (altS n) (bl s, b)))) (u8 43)))), Prod.snd (Prod.snd (atomS (altS n) (bl s, b)))) (u8 63)))), Prod.snd (Prod.snd (atomS (altS n) (bl s, b)))) (u8 123)))), Prod.snd (Prod.snd (atomS (altS n) (bl s, b))))))) (u8 44)))), Prod.snd (Prod.snd (numS (bl (mk (Prod.fst (takeS (bl (mk (Prod.fst (takeS (bl (mk (Prod.fst (takeS (bl (mk (Prod.fst (takeS (bl (mk (Prod.fst (Prod.snd (atomS (altS n) (bl s, b))))), Prod.snd (Prod.snd (atomS (altS n) (bl s, b)))) (u8 42)))), Prod.snd (Prod.snd (atomS (altS n) (bl s, b)))) (u8 43)))), Prod.snd (Prod.snd (atomS (altS n) (bl s, b)))) (u8 63)))), Prod.snd (Prod.snd (atomS (altS n) (bl s, b)))) (u8 123)))), Prod.snd (Prod.snd (atomS (altS n) (bl s, b))))))) (u8 125))))), (.bool (Prod.snd (wantS (bl (mk (Prod.fst (takeS (bl (mk (Prod.fst (Prod.snd (numS (bl (mk (Prod.fst (takeS (bl (mk (Prod.fst (takeS (bl (mk (Prod.fst (takeS (bl (mk (Prod.fst (takeS (bl (mk (Prod.fst (Prod.snd (atomS (altS n) (bl s, b))))), Prod.snd (Prod.snd (atomS (altS n) (bl s, b)))) (u8 42)))), Prod.snd (Prod.snd (atomS (altS n) (bl s, b)))) (u8 43)))), Prod.snd (Prod.snd (atomS (altS n) (bl s, b)))) (u8 63)))), Prod.snd (Prod.snd (atomS (altS n) (bl s, b)))) (u8 123)))), Prod.snd (Prod.snd (atomS (altS n) (bl s, b)))))))), Prod.snd (Prod.snd (numS (bl (mk (Prod.fst (takeS (bl (mk (Prod.fst (takeS (bl (mk (Prod.fst (takeS (bl (mk (Prod.fst (takeS (bl (mk (Prod.fst (Prod.snd (atomS (altS n) (bl s, b))))), Prod.snd (Prod.snd (atomS (altS n) (bl s, b)))) (u8 42)))), Prod.snd (Prod.snd (atomS (altS n) (bl s, b)))) (u8 43)))), Prod.snd (Prod.snd (atomS (altS n) (bl s, b)))) (u8 63)))), Prod.snd (Prod.snd (atomS (altS n) (bl s, b)))) (u8 123)))), Prod.snd (Prod.snd (atomS (altS n) (bl s, b))))))) (u8 44)))), Prod.snd (Prod.snd (numS (bl (mk (Prod.fst (takeS (bl (mk (Prod.fst (takeS (bl (mk (Prod.fst (takeS (bl (mk (Prod.fst (takeS (bl (mk (Prod.fst (Prod.snd (atomS (altS n) (bl s, b))))), Prod.snd (Prod.snd (atomS (altS n) (bl s, b)))) (u8 42)))), Prod.snd (Prod.snd (atomS (altS n) (bl s, b)))) (u8 43)))), Prod.snd (Prod.snd (atomS (altS n) (bl s, b)))) (u8 63)))), Prod.snd (Prod.snd (atomS (altS n) (bl s, b)))) (u8 123)))), Prod.snd (Prod.snd (atomS (altS n) (bl s, b))))))) (u8 125))))]))
        (some [(.int IntKind.i64 (4)), (.lst 48 []), (.int IntKind.i64 (Prod.fst (numS (bl (mk (Prod.fst (takeS (bl (mk (Prod.fst (takeS (bl (mk (Prod.fst (takeS (bl (mk (Prod.fst (takeS (bl (mk (Prod.fst (Prod.snd (atomS (altS n) (bl s, b))))), Prod.snd (Prod.snd (atomS (altS n) (bl s, b)))) (u8 42)))), Prod.snd (Prod.snd (atomS (altS n) (bl s, b)))) (u8 43)))), Prod.snd (Prod.snd (atomS (altS n) (bl s, b)))) (u8 63)))), Prod.snd (Prod.snd (atomS (altS n) (bl s, b)))) (u8 123)))), Prod.snd (Prod.snd (atomS (altS n) (bl s, b))))))), (.int IntKind.i64 (Prod.fst (numS (bl (mk (Prod.fst (takeS (bl (mk (Prod.fst (takeS (bl (mk (Prod.fst (takeS (bl (mk (Prod.fst (takeS (bl (mk (Prod.fst (Prod.snd (atomS (altS n) (bl s, b))))), Prod.snd (Prod.snd (atomS (altS n) (bl s, b)))) (u8 42)))), Prod.snd (Prod.snd (atomS (altS n) (bl s, b)))) (u8 43)))), Prod.snd (Prod.snd (atomS (altS n) (bl s, b)))) (u8 63)))), Prod.snd (Prod.snd (atomS (altS n) (bl s, b)))) (u8 123)))), Prod.snd (Prod.snd (atomS (altS n) (bl s, b))))))), (.lst 25 [[(.int IntKind.i64 (Rx.kind (Prod.fst (atomS (altS n) (bl s, b))))), (.lst 48 (encRs (Rx.set (Prod.fst (atomS (altS n) (bl s, b)))))), (.int IntKind.i64 (Rx.mn (Prod.fst (atomS (altS n) (bl s, b))))), (.int IntKind.i64 (Rx.mx (Prod.fst (atomS (altS n) (bl s, b))))), (.lst 25 (List.map encX (Rx.subs (Prod.fst (atomS (altS n) (bl s, b))))))]]), (.str (mk (Prod.fst (wantS (bl (mk (Prod.fst (takeS (bl (mk (Prod.fst (Prod.snd (numS (bl (mk (Prod.fst (takeS (bl (mk (Prod.fst (takeS (bl (mk (Prod.fst (takeS (bl (mk (Prod.fst (takeS (bl (mk (Prod.fst (Prod.snd (atomS (altS n) (bl s, b))))), Prod.snd (Prod.snd (atomS (altS n) (bl s, b)))) (u8 42)))), Prod.snd (Prod.snd (atomS (altS n) (bl s, b)))) (u8 43)))), Prod.snd (Prod.snd (atomS (altS n) (bl s, b)))) (u8 63)))), Prod.snd (Prod.snd (atomS (altS n) (bl s, b)))) (u8 123)))), Prod.snd (Prod.snd (atomS (altS n) (bl s, b)))))))), Prod.snd (Prod.snd (numS (bl (mk (Prod.fst (takeS (bl (mk (Prod.fst (takeS (bl (mk (Prod.fst (takeS (bl (mk (Prod.fst (takeS (bl (mk (Prod.fst (Prod.snd (atomS (altS n) (bl s, b))))), Prod.snd (Prod.snd (atomS (altS n) (bl s, b)))) (u8 42)))), Prod.snd (Prod.snd (atomS (altS n) (bl s, b)))) (u8 43)))), Prod.snd (Prod.snd (atomS (altS n) (bl s, b)))) (u8 63)))), Prod.snd (Prod.snd (atomS (altS n) (bl s, b)))) (u8 123)))), Prod.snd (Prod.snd (atomS (altS n) (bl s, b))))))) (u8 44)))), Prod.snd (Prod.snd (numS (bl (mk (Prod.fst (takeS (bl (mk (Prod.fst (takeS (bl (mk (Prod.fst (takeS (bl (mk (Prod.fst (takeS (bl (mk (Prod.fst (Prod.snd (atomS (altS n) (bl s, b))))), Prod.snd (Prod.snd (atomS (altS n) (bl s, b)))) (u8 42)))), Prod.snd (Prod.snd (atomS (altS n) (bl s, b)))) (u8 43)))), Prod.snd (Prod.snd (atomS (altS n) (bl s, b)))) (u8 63)))), Prod.snd (Prod.snd (atomS (altS n) (bl s, b)))) (u8 123)))), Prod.snd (Prod.snd (atomS (altS n) (bl s, b))))))) (u8 125))))), (.bool (Prod.snd (wantS (bl (mk (Prod.fst (takeS (bl (mk (Prod.fst (Prod.snd (numS (bl (mk (Prod.fst (takeS (bl (mk (Prod.fst (takeS (bl (mk (Prod.fst (takeS (bl (mk (Prod.fst (takeS (bl (mk (Prod.fst (Prod.snd (atomS (altS n) (bl s, b))))), Prod.snd (Prod.snd (atomS (altS n) (bl s, b)))) (u8 42)))), Prod.snd (Prod.snd (atomS (altS n) (bl s, b)))) (u8 43)))), Prod.snd (Prod.snd (atomS (altS n) (bl s, b)))) (u8 63)))), Prod.snd (Prod.snd (atomS (altS n) (bl s, b)))) (u8 123)))), Prod.snd (Prod.snd (atomS (altS n) (bl s, b)))))))), Prod.snd (Prod.snd (numS (bl (mk (Prod.fst (takeS (bl (mk (Prod.fst (takeS (bl (mk (Prod.fst (takeS (bl (mk (Prod.fst (takeS (bl (mk (Prod.fst (Prod.snd (atomS (altS n) (bl s, b))))), Prod.snd (Prod.snd (atomS (altS n) (bl s, b)))) (u8 42)))), Prod.snd (Prod.snd (atomS (altS n) (bl s, b)))) (u8 43)))), Prod.snd (Prod.snd (atomS (altS n) (bl s, b)))) (u8 63)))), Prod.snd (Prod.snd (atomS (altS n) (bl s, b)))) (u8 123)))), Prod.snd (Prod.snd (atomS (altS n) (bl s, b))))))) (u8 44)))), Prod.snd (Prod.snd (numS (bl (mk (Prod.fst (takeS (bl (mk (Prod.fst (takeS (bl (mk (Prod.fst (takeS (bl (mk (Prod.fst (takeS (bl (mk (Prod.fst (Prod.snd (atomS (altS n) (bl s, b))))), Prod.snd (Prod.snd (atomS (altS n) (bl s, b)))) (u8 42)))), Prod.snd (Prod.snd (atomS (altS n) (bl s, b)))) (u8 43)))), Prod.snd (Prod.snd (atomS (altS n) (bl s, b)))) (u8 63)))), Prod.snd (Prod.snd (atomS (altS n) (bl s, b)))) (u8 123)))), Prod.snd (Prod.snd (atomS (altS n) (bl s, b))))))) (u8 125))))]))
       (some [(.int IntKind.i64 (Rx.kind (Prod.fst (atomS (altS n) (bl s, b))))), (.lst 48 (encRs (Rx.set (Prod.fst (atomS (altS n) (bl s, b)))))), (.int IntKind.i64 (Rx.mn (Prod.fst (atomS (altS n) (bl s, b))))), (.int IntKind.i64 (Rx.mx (Prod.fst (atomS (altS n) (bl s, b))))), (.lst 25 (List.map encX (Rx.subs (Prod.fst (atomS (altS n) (bl s, b)))))), (.str (mk (Prod.fst (takeS (bl (mk (Prod.fst (takeS (bl (mk (Prod.fst (takeS (bl (mk (Prod.fst (takeS (bl (mk (Prod.fst (Prod.snd (atomS (altS n) (bl s, b))))), Prod.snd (Prod.snd (atomS (altS n) (bl s, b)))) (u8 42)))), Prod.snd (Prod.snd (atomS (altS n) (bl s, b)))) (u8 43)))), Prod.snd (Prod.snd (atomS (altS n) (bl s, b)))) (u8 63)))), Prod.snd (Prod.snd (atomS (altS n) (bl s, b)))) (u8 123))))), (.bool (Prod.snd (Prod.snd (atomS (altS n) (bl s, b)))))])))))
   none) := by kernel_rfl

/-! (*codesearch/regex.reader).seq -/
noncomputable def seq_q2 (h0_0 : ByteArray) (h0_1 : Bool) (h1_0 : Int) (h1_2 : Int) (h1_3 : Int) (h2 : List (List L)) (h3 : List (List L)) (h4 : List (List L)) : Req := .point 50 [(some ([.str, .bool], [.any, .any]))] (todoAt Tryd.prog 50 2) ⟨[(.lf (.ptr 0 0)), an, (.lf (.ptr 1 0)), (.lf (.row 2)), an, an, an, an, an, an, an, an, an, an, an, an, an, an, an, an, an, an, an, an, an, an, an, an, an, an, an, an, an, an, an, an, an, an, an], [(.box [.str, .bool] [(.str h0_0), (.bool h0_1)]), (.box [(.int IntKind.i64), (.sl 48), (.int IntKind.i64), (.int IntKind.i64), (.sl 25)] [(.int IntKind.i64 h1_0), (.row 3), (.int IntKind.i64 h1_2), (.int IntKind.i64 h1_3), (.row 4)]), (.row 25 h2 true), (.row 48 h3 true), (.row 25 h4 true)]⟩
theorem seq_e (G : Req → R) (n : Nat) (s : ByteArray) (b : Bool) : runB (cfg [(k_item n), k_next]) G (.enter 50 [(.lf (.ptr 0 0))] [(.box [.str, .bool] [(.str (s)), (.bool (b))])]) =
  (G (seq_q2 s b 0 0 0 [] [] [])) := by kernel_rfl
theorem seq_p2 (G : Req → R) (n : Nat) (h0_0 : ByteArray) (h0_1 : Bool) (h1_0 : Int) (h1_2 : Int) (h1_3 : Int) (h2 : List (List L)) (h3 : List (List L)) (h4 : List (List L)) : runB (cfg [(k_item n), k_next]) G (seq_q2 h0_0 h0_1 h1_0 h1_2 h1_3 h2 h3 h4) =
  (cond (!bl h0_0 == bl (mk []))
   (cond (!h0_1)
    (cond ((↑(UInt8.toNat (nextS (bl h0_0, h0_1))) : Int) != 124)
     (cond ((↑(UInt8.toNat (nextS (bl h0_0, h0_1))) : Int) != 41)
      (cond (Nat.ble (ByteArray.size h0_0) 1000 && Nat.ble (ByteArray.size h0_0) n)
       (cond (roomN (List.length h2 + 1) 72)
        (G (seq_q2 (mk (Prod.fst (Prod.snd (itemS (altS n) (bl h0_0, h0_1))))) (Prod.snd (Prod.snd (itemS (altS n) (bl h0_0, h0_1)))) h1_0 h1_2 h1_3 (h2 ++ [[L.int IntKind.i64 (Rx.kind (Prod.fst (itemS (altS n) (bl h0_0, h0_1)))), L.lst 48 (encRs (Rx.set (Prod.fst (itemS (altS n) (bl h0_0, h0_1))))), L.int IntKind.i64 (Rx.mn (Prod.fst (itemS (altS n) (bl h0_0, h0_1)))), L.int IntKind.i64 (Rx.mx (Prod.fst (itemS (altS n) (bl h0_0, h0_1)))), L.lst 25 (List.map encX (Rx.subs (Prod.fst (itemS (altS n) (bl h0_0, h0_1)))))]]) h3 h4))
        none)
       none)
      (cond ((↑(List.length h2) : Int) == 1)
       (cond (ltI 0 (↑(List.length h2) : Int))
        (some [(.int IntKind.i64 (cI 0 (atL h2 0))), (.lst 48 (cX 1 (atL h2 0))), (.int IntKind.i64 (cI 2 (atL h2 0))), (.int IntKind.i64 (cI 3 (atL h2 0))), (.lst 25 (cX 4 (atL h2 0))), (.str (h0_0)), (.bool (h0_1))])
        none)
       (some [(.int IntKind.i64 (2)), (.lst 48 []), (.int IntKind.i64 (0)), (.int IntKind.i64 (0)), (.lst 25 h2), (.str (h0_0)), (.bool (h0_1))])))
     (cond ((↑(List.length h2) : Int) == 1)
      (cond (ltI 0 (↑(List.length h2) : Int))
       (some [(.int IntKind.i64 (cI 0 (atL h2 0))), (.lst 48 (cX 1 (atL h2 0))), (.int IntKind.i64 (cI 2 (atL h2 0))), (.int IntKind.i64 (cI 3 (atL h2 0))), (.lst 25 (cX 4 (atL h2 0))), (.str (h0_0)), (.bool (h0_1))])
       none)
      (some [(.int IntKind.i64 (2)), (.lst 48 []), (.int IntKind.i64 (0)), (.int IntKind.i64 (0)), (.lst 25 h2), (.str (h0_0)), (.bool (h0_1))])))
    (cond ((↑(List.length h2) : Int) == 1)
     (cond (ltI 0 (↑(List.length h2) : Int))
      (some [(.int IntKind.i64 (cI 0 (atL h2 0))), (.lst 48 (cX 1 (atL h2 0))), (.int IntKind.i64 (cI 2 (atL h2 0))), (.int IntKind.i64 (cI 3 (atL h2 0))), (.lst 25 (cX 4 (atL h2 0))), (.str (h0_0)), (.bool (h0_1))])
      none)
     (some [(.int IntKind.i64 (2)), (.lst 48 []), (.int IntKind.i64 (0)), (.int IntKind.i64 (0)), (.lst 25 h2), (.str (h0_0)), (.bool (h0_1))])))
   (cond ((↑(List.length h2) : Int) == 1)
    (cond (ltI 0 (↑(List.length h2) : Int))
     (some [(.int IntKind.i64 (cI 0 (atL h2 0))), (.lst 48 (cX 1 (atL h2 0))), (.int IntKind.i64 (cI 2 (atL h2 0))), (.int IntKind.i64 (cI 3 (atL h2 0))), (.lst 25 (cX 4 (atL h2 0))), (.str (h0_0)), (.bool (h0_1))])
     none)
    (some [(.int IntKind.i64 (2)), (.lst 48 []), (.int IntKind.i64 (0)), (.int IntKind.i64 (0)), (.lst 25 h2), (.str (h0_0)), (.bool (h0_1))]))) := by kernel_rfl

/-! (*codesearch/regex.reader).alt -/
noncomputable def alt_q2 (h0_0 : ByteArray) (h0_1 : Bool) (h1_0 : Int) (h1_2 : Int) (h1_3 : Int) (h2 : List (List L)) (h3 : List (List L)) (h4 : List (List L)) : Req := .point 39 [(some ([.str, .bool], [.any, .any]))] (todoAt Tryd.prog 39 2) ⟨[(.lf (.ptr 0 0)), an, (.lf (.ptr 1 0)), (.lf (.row 2)), an, an, an, an, an, an, an, an, an, an, an, an, an, an, an, an, an, an], [(.box [.str, .bool] [(.str h0_0), (.bool h0_1)]), (.box [(.int IntKind.i64), (.sl 48), (.int IntKind.i64), (.int IntKind.i64), (.sl 25)] [(.int IntKind.i64 h1_0), (.row 3), (.int IntKind.i64 h1_2), (.int IntKind.i64 h1_3), (.row 4)]), (.row 25 h2 true), (.row 48 h3 true), (.row 25 h4 true)]⟩
theorem alt_e (G : Req → R) (n : Nat) (s : ByteArray) (b : Bool) : runB (cfg [(k_seq n), k_take]) G (.enter 39 [(.lf (.ptr 0 0))] [(.box [.str, .bool] [(.str (s)), (.bool (b))])]) =
  (cond (Nat.ble (ByteArray.size s) 1000 && Nat.ble (ByteArray.size s) n)
   (G (alt_q2 (mk (Prod.fst (Prod.snd (seqS (altS n) (bl s, b))))) (Prod.snd (Prod.snd (seqS (altS n) (bl s, b)))) 0 0 0 ([[L.int IntKind.i64 (Rx.kind (Prod.fst (seqS (altS n) (bl s, b)))), L.lst 48 (encRs (Rx.set (Prod.fst (seqS (altS n) (bl s, b))))), L.int IntKind.i64 (Rx.mn (Prod.fst (seqS (altS n) (bl s, b)))), L.int IntKind.i64 (Rx.mx (Prod.fst (seqS (altS n) (bl s, b)))), L.lst 25 (List.map encX (Rx.subs (Prod.fst (seqS (altS n) (bl s, b)))))]]) [] []))
   none) := by kernel_rfl
theorem alt_p2 (G : Req → R) (n : Nat) (h0_0 : ByteArray) (h0_1 : Bool) (h1_0 : Int) (h1_2 : Int) (h1_3 : Int) (h2 : List (List L)) (h3 : List (List L)) (h4 : List (List L)) : runB (cfg [(k_seq n), k_take]) G (alt_q2 h0_0 h0_1 h1_0 h1_2 h1_3 h2 h3 h4) =
  (cond (takesS (bl h0_0, h0_1) (u8 124))
   (cond (Nat.ble (ByteArray.size (mk (Prod.fst (takeS (bl h0_0, h0_1) (u8 124))))) 1000 && Nat.ble (ByteArray.size (mk (Prod.fst (takeS (bl h0_0, h0_1) (u8 124))))) n)
    (cond (roomN (List.length h2 + 1) 72)
     (G (alt_q2 (mk (Prod.fst (Prod.snd (seqS (altS n) (bl (mk (Prod.fst (takeS (bl h0_0, h0_1) (u8 124)))), h0_1))))) (Prod.snd (Prod.snd (seqS (altS n) (bl (mk (Prod.fst (takeS (bl h0_0, h0_1) (u8 124)))), h0_1)))) h1_0 h1_2 h1_3 (h2 ++ [[L.int IntKind.i64 (Rx.kind (Prod.fst (seqS (altS n) (bl (mk (Prod.fst (takeS (bl h0_0, h0_1) (u8 124)))), h0_1)))), L.lst 48 (encRs (Rx.set (Prod.fst (seqS (altS n) (bl (mk (Prod.fst (takeS (bl h0_0, h0_1) (u8 124)))), h0_1))))), L.int IntKind.i64 (Rx.mn (Prod.fst (seqS (altS n) (bl (mk (Prod.fst (takeS (bl h0_0, h0_1) (u8 124)))), h0_1)))), L.int IntKind.i64 (Rx.mx (Prod.fst (seqS (altS n) (bl (mk (Prod.fst (takeS (bl h0_0, h0_1) (u8 124)))), h0_1)))), L.lst 25 (List.map encX (Rx.subs (Prod.fst (seqS (altS n) (bl (mk (Prod.fst (takeS (bl h0_0, h0_1) (u8 124)))), h0_1)))))]]) h3 h4))
     none)
    none)
   (cond ((↑(List.length h2) : Int) == 1)
    (cond (ltI 0 (↑(List.length h2) : Int))
     (some [(.int IntKind.i64 (cI 0 (atL h2 0))), (.lst 48 (cX 1 (atL h2 0))), (.int IntKind.i64 (cI 2 (atL h2 0))), (.int IntKind.i64 (cI 3 (atL h2 0))), (.lst 25 (cX 4 (atL h2 0))), (.str (mk (Prod.fst (takeS (bl h0_0, h0_1) (u8 124))))), (.bool (h0_1))])
     none)
    (some [(.int IntKind.i64 (3)), (.lst 48 []), (.int IntKind.i64 (0)), (.int IntKind.i64 (0)), (.lst 25 h2), (.str (mk (Prod.fst (takeS (bl h0_0, h0_1) (u8 124))))), (.bool (h0_1))]))) := by kernel_rfl

/-! codesearch/regex.Parse -/
theorem Parse_e (G : Req → R) (s0 : ByteArray) : runB (cfg [(k_alt 301), k_Right]) G (.enter 16 [(.lf (.str (s0)))] []) =
  (cond (ltI 300 (↑(ByteArray.size s0) : Int))
   (some [(.int IntKind.i64 (0)), (.lst 48 []), (.int IntKind.i64 (0)), (.int IntKind.i64 (0)), (.lst 25 []), (.int IntKind.i64 (4))])
   (cond (Nat.ble (ByteArray.size s0) 1000 && Nat.ble (ByteArray.size s0 + 1) 301)
    (cond (Prod.snd (Prod.snd (altS 301 (bl s0, false))))
     (some [(.int IntKind.i64 (0)), (.lst 48 []), (.int IntKind.i64 (0)), (.int IntKind.i64 (0)), (.lst 25 []), (.int IntKind.i64 (3))])
     (cond (!bl (mk (Prod.fst (Prod.snd (altS 301 (bl s0, false))))) == bl (mk []))
      (some [(.int IntKind.i64 (0)), (.lst 48 []), (.int IntKind.i64 (0)), (.int IntKind.i64 (0)), (.lst 25 []), (.int IntKind.i64 (3))])
      (cond (isX [L.int IntKind.i64 (Rx.kind (Prod.fst (altS 301 (bl s0, false)))), L.lst 48 (encRs (Rx.set (Prod.fst (altS 301 (bl s0, false))))), L.int IntKind.i64 (Rx.mn (Prod.fst (altS 301 (bl s0, false)))), L.int IntKind.i64 (Rx.mx (Prod.fst (altS 301 (bl s0, false)))), L.lst 25 (List.map encX (Rx.subs (Prod.fst (altS 301 (bl s0, false)))))] 1000000000000)
       (cond (rightS (decX [L.int IntKind.i64 (Rx.kind (Prod.fst (altS 301 (bl s0, false)))), L.lst 48 (encRs (Rx.set (Prod.fst (altS 301 (bl s0, false))))), L.int IntKind.i64 (Rx.mn (Prod.fst (altS 301 (bl s0, false)))), L.int IntKind.i64 (Rx.mx (Prod.fst (altS 301 (bl s0, false)))), L.lst 25 (List.map encX (Rx.subs (Prod.fst (altS 301 (bl s0, false)))))]) != 0)
        (some [(.int IntKind.i64 (0)), (.lst 48 []), (.int IntKind.i64 (0)), (.int IntKind.i64 (0)), (.lst 25 []), (.int IntKind.i64 (rightS (decX [L.int IntKind.i64 (Rx.kind (Prod.fst (altS 301 (bl s0, false)))), L.lst 48 (encRs (Rx.set (Prod.fst (altS 301 (bl s0, false))))), L.int IntKind.i64 (Rx.mn (Prod.fst (altS 301 (bl s0, false)))), L.int IntKind.i64 (Rx.mx (Prod.fst (altS 301 (bl s0, false)))), L.lst 25 (List.map encX (Rx.subs (Prod.fst (altS 301 (bl s0, false)))))])))])
        (some [(.int IntKind.i64 (Rx.kind (Prod.fst (altS 301 (bl s0, false))))), (.lst 48 (encRs (Rx.set (Prod.fst (altS 301 (bl s0, false)))))), (.int IntKind.i64 (Rx.mn (Prod.fst (altS 301 (bl s0, false))))), (.int IntKind.i64 (Rx.mx (Prod.fst (altS 301 (bl s0, false))))), (.lst 25 (List.map encX (Rx.subs (Prod.fst (altS 301 (bl s0, false)))))), (.int IntKind.i64 (0))]))
       none)))
    none)) := by kernel_rfl

end Go.Ab
namespace Go.Ab
open Go.Proofs
/-! (*codesearch/regex.reader).elem -/
noncomputable def elem_q4 (c6 : Int) (h0_0 : ByteArray) (h0_1 : Bool) (h1 : Nat → Bool) : Req := .point 100 [(some ([.str, .bool], [.any, .any])), (some ((List.replicate 256 .bool), (List.replicate 256 .any)))] (todoAt Tryd.prog 100 4) ⟨[(.lf (.ptr 0 0)), (.lf (.ptr 1 0)), an, an, an, an, (.lf (.int IntKind.u8 c6)), an, an, an, an, an, an, an, an, an, an, an, an, an, an, an, an, an, an, an, an, an, an, an, an, an, an, an, an, an, an, an, an, an, an, an, an, an, an, an, an, an, an, an, an, an, an, an, an, an, an, an, an, an, an, an, an, an, an, an, an, an, an, an, an, an, an, an, an, an, an, an, an, an, an, an, an], [(.box [.str, .bool] [(.str h0_0), (.bool h0_1)]), (.box (List.replicate 256 .bool) (arrB h1 256))]⟩
noncomputable def elem_q16 (c6 : Int) (h0_0 : ByteArray) (h0_1 : Bool) (h1 : Nat → Bool) : Req := .point 100 [(some ([.str, .bool], [.any, .any])), (some ((List.replicate 256 .bool), (List.replicate 256 .any)))] (todoAt Tryd.prog 100 16) ⟨[(.lf (.ptr 0 0)), (.lf (.ptr 1 0)), an, an, an, an, (.lf (.int IntKind.u8 c6)), an, an, an, an, an, an, an, an, an, an, an, an, an, an, an, an, an, an, an, an, an, an, an, an, an, an, an, an, an, an, an, an, an, an, an, an, an, an, an, an, an, an, an, an, an, an, an, an, an, an, an, an, an, an, an, an, an, an, an, an, an, an, an, an, an, an, an, an, an, an, an, an, an, an, an, an], [(.box [.str, .bool] [(.str h0_0), (.bool h0_1)]), (.box (List.replicate 256 .bool) (arrB h1 256))]⟩
noncomputable def elem_q8 (c6 : Int) (h0_0 : ByteArray) (h0_1 : Bool) (h1 : Nat → Bool) (h2 : Nat → Bool) : Req := .point 100 [(some ([.str, .bool], [.any, .any])), (some ((List.replicate 256 .bool), (List.replicate 256 .any)))] (todoAt Tryd.prog 100 8) ⟨[an, (.lf (.ptr 1 0)), an, an, an, an, (.lf (.int IntKind.u8 c6)), (.lf (.ptr 2 0)), an, an, an, an, an, an, an, an, an, an, an, an, an, an, an, an, an, an, an, an, an, an, an, an, an, an, an, an, an, an, an, an, an, an, an, an, an, an, an, an, an, an, an, an, an, an, an, an, an, an, an, an, an, an, an, an, an, an, an, an, an, an, an, an, an, an, an, an, an, an, an, an, an, an, an], [(.box [.str, .bool] [(.str h0_0), (.bool h0_1)]), (.box (List.replicate 256 .bool) (arrB h1 256)), (.box (List.replicate 256 .bool) (arrB h2 256))]⟩
noncomputable def elem_q9 (c6 : Int) (x33 : Nat → Bool) (x34 : Int) (h0_0 : ByteArray) (h0_1 : Bool) (h1 : Nat → Bool) (h2 : Nat → Bool) : Req := .point 100 [(some ([.str, .bool], [.any, .any])), (some ((List.replicate 256 .bool), (List.replicate 256 .any)))] (todoAt Tryd.prog 100 9) ⟨[an, (.lf (.ptr 1 0)), an, an, an, an, (.lf (.int IntKind.u8 c6)), (.lf (.ptr 2 0)), an, an, an, an, an, an, an, an, an, an, an, an, an, an, an, an, an, an, an, an, an, an, an, an, an, (.agg (arrB x33 256)), (.lf (.int IntKind.i64 x34)), an, an, an, an, an, an, an, an, an, an, an, an, an, an, an, an, an, an, an, an, an, an, an, an, an, an, an, an, an, an, an, an, an, an, an, an, an, an, an, an, an, an, an, an, an, an, an, an], [(.box [.str, .bool] [(.str h0_0), (.bool h0_1)]), (.box (List.replicate 256 .bool) (arrB h1 256)), (.box (List.replicate 256 .bool) (arrB h2 256))]⟩
noncomputable def elem_q13 (c6 : Int) (h0_0 : ByteArray) (h0_1 : Bool) (h1 : Nat → Bool) (h2 : Nat → Bool) : Req := .point 100 [(some ([.str, .bool], [.any, .any])), (some ((List.replicate 256 .bool), (List.replicate 256 .any)))] (todoAt Tryd.prog 100 13) ⟨[an, an, an, an, an, an, (.lf (.int IntKind.u8 c6)), (.lf (.ptr 2 0)), an, an, an, an, an, an, an, an, an, an, an, an, an, an, an, an, an, an, an, an, an, an, an, an, an, an, an, an, an, an, an, an, an, an, an, an, an, an, an, an, an, an, an, an, an, an, an, an, an, an, an, an, an, an, an, an, an, an, an, an, an, an, an, an, an, an, an, an, an, an, an, an, an, an, an], [(.box [.str, .bool] [(.str h0_0), (.bool h0_1)]), (.box (List.replicate 256 .bool) (arrB h1 256)), (.box (List.replicate 256 .bool) (arrB h2 256))]⟩
theorem elem_e (G : Req → R) (s : ByteArray) (b : Bool) (f : Nat → Bool) : runB (cfg [k_next, k_take, k_escape, k_class, k_IndexByte, k_branges]) G (.enter 100 [(.lf (.ptr 0 0)), (.lf (.ptr 1 0))] [(.box [.str, .bool] [(.str (s)), (.bool (b))]), (.box (List.replicate 256 .bool) (arrB (fun j => f j) 256))]) =
  (cond (takesS (bl s, b) (u8 92))
   (G (elem_q4 ((↑(UInt8.toNat (nextS (bl (mk (Prod.fst (takeS (bl s, b) (u8 92)))), b))) : Int)) (mk (Prod.fst (takeS (bl s, b) (u8 92)))) b (fun j => f j)))
   (G (elem_q16 ((↑(UInt8.toNat (nextS (bl s, b))) : Int)) (mk (Prod.fst (takeS (bl s, b) (u8 92)))) b (fun j => f j)))) := by kernel_rfl
theorem elem_p4 (G : Req → R) (c6 : Int) (h0_0 : ByteArray) (h0_1 : Bool) (h1 : Nat → Bool) : runB (cfg [k_next, k_take, k_escape, k_class, k_IndexByte, k_branges]) G (elem_q4 c6 h0_0 h0_1 h1) =
  (cond (okB c6)
   (cond (!escOk (u8 c6))
    (some ([(.int IntKind.u8 (0)), (.bool (false)), (.str (h0_0)), (.bool (true))] ++ arrB (fun j => h1 j) 256))
    (cond (okB c6)
     (cond (!takesS (bl h0_0, h0_1) (u8 c6))
      (some ([(.int IntKind.u8 (0)), (.bool (false)), (.str (mk (Prod.fst (takeS (bl h0_0, h0_1) (u8 c6))))), (.bool (true))] ++ arrB (fun j => h1 j) 256))
      (G (elem_q8 c6 (mk (Prod.fst (takeS (bl h0_0, h0_1) (u8 c6)))) h0_1 (fun j => h1 j) (fun j => escF (u8 c6) j))))
     none))
   none) := by kernel_rfl
theorem elem_p16 (G : Req → R) (c6 : Int) (h0_0 : ByteArray) (h0_1 : Bool) (h1 : Nat → Bool) : runB (cfg [k_next, k_take, k_escape, k_class, k_IndexByte, k_branges]) G (elem_q16 c6 h0_0 h0_1 h1) =
  (cond (okB c6)
   (cond (classB (u8 c6) == 2)
    (some ([(.int IntKind.u8 (0)), (.bool (false)), (.str (h0_0)), (.bool (true))] ++ arrB (fun j => h1 j) 256))
    (cond (leI 0 (Lib.indexByte (bl (mk [91, 93, 94, 45])) (u8 c6)))
     (some ([(.int IntKind.u8 (0)), (.bool (false)), (.str (h0_0)), (.bool (true))] ++ arrB (fun j => h1 j) 256))
     (cond (okB c6)
      (cond (!takesS (bl h0_0, h0_1) (u8 c6))
       (some ([(.int IntKind.u8 (0)), (.bool (false)), (.str (mk (Prod.fst (takeS (bl h0_0, h0_1) (u8 c6))))), (.bool (true))] ++ arrB (fun j => h1 j) 256))
       (cond (leI 0 c6 && ltI c6 (↑256 : Int))
        (some ([(.int IntKind.u8 (c6)), (.bool (true)), (.str (mk (Prod.fst (takeS (bl h0_0, h0_1) (u8 c6))))), (.bool (h0_1))] ++ arrB (fun j => bif Nat.beq j (Int.toNat c6) then true else h1 j) 256))
        none))
      none)))
   none) := by kernel_rfl
theorem elem_p8 (G : Req → R) (c6 : Int) (h0_0 : ByteArray) (h0_1 : Bool) (h1 : Nat → Bool) (h2 : Nat → Bool) : runB (cfg [k_next, k_take, k_escape, k_class, k_IndexByte, k_branges]) G (elem_q8 c6 h0_0 h0_1 h1 h2) =
  (G (elem_q9 c6 (fun j => h2 j) 0 h0_0 h0_1 (fun j => h1 j) (fun j => h2 j))) := by kernel_rfl
theorem elem_p9 (G : Req → R) (c6 : Int) (x33 : Nat → Bool) (x34 : Int) (h0_0 : ByteArray) (h0_1 : Bool) (h1 : Nat → Bool) (h2 : Nat → Bool) : runB (cfg [k_next, k_take, k_escape, k_class, k_IndexByte, k_branges]) G (elem_q9 c6 x33 x34 h0_0 h0_1 h1 h2) =
  (cond (ltI x34 256)
   (cond (leI 0 x34 && ltI x34 (↑256 : Int))
    (cond (leI 0 x34 && ltI x34 (↑256 : Int))
     (cond (L.toBool (arrGet (fun j => h1 j) 256 (0 + Int.toNat x34)))
      (cond (leI 0 x34 && ltI x34 (↑256 : Int))
       (G (elem_q9 c6 (fun j => x33 j) (wrapI IntKind.i64 (x34 + 1)) h0_0 h0_1 (fun j => bif Nat.beq j (Int.toNat x34) then true else h1 j) (fun j => h2 j)))
       none)
      (cond (leI 0 x34 && ltI x34 (↑256 : Int))
       (G (elem_q9 c6 (fun j => x33 j) (wrapI IntKind.i64 (x34 + 1)) h0_0 h0_1 (fun j => bif Nat.beq j (Int.toNat x34) then L.toBool (arrGet (fun j => x33 j) 256 (Int.toNat x34)) else h1 j) (fun j => h2 j)))
       none))
     none)
    none)
   (G (elem_q13 c6 h0_0 h0_1 (fun j => h1 j) (fun j => h2 j)))) := by kernel_rfl
theorem elem_p13 (G : Req → R) (c6 : Int) (h0_0 : ByteArray) (h0_1 : Bool) (h1 : Nat → Bool) (h2 : Nat → Bool) : runB (cfg [k_next, k_take, k_escape, k_class, k_IndexByte, k_branges]) G (elem_q13 c6 h0_0 h0_1 h1 h2) =
  (cond (c6 == 100)
   (some ([(.int IntKind.u8 (0)), (.bool (false)), (.str (h0_0)), (.bool (h0_1))] ++ arrB (fun j => h1 j) 256))
   (cond (c6 == 119)
    (some ([(.int IntKind.u8 (0)), (.bool (false)), (.str (h0_0)), (.bool (h0_1))] ++ arrB (fun j => h1 j) 256))
    (cond (isB (arrB (fun j => h2 j) 256))
     (cond (ltI 0 (↑(List.length (encRs (canR (getB (arrB (fun j => h2 j) 256)) 256))) : Int))
      (some ([(.int IntKind.u8 (cI 0 (atL (encRs (canR (getB (arrB (fun j => h2 j) 256)) 256)) 0))), (.bool (true)), (.str (h0_0)), (.bool (h0_1))] ++ arrB (fun j => h1 j) 256))
      none)
     none))) := by kernel_rfl

/-! (*codesearch/regex.reader).set -/
noncomputable def set_q4 (not4 : Bool) (first5 : Bool) (h0_0 : ByteArray) (h0_1 : Bool) (h1_0 : Int) (h1_2 : Int) (h1_3 : Int) (h2 : Nat → Bool) (h3 : List (List L)) (h4 : List (List L)) : Req := .point 90 [(some ([.str, .bool], [.any, .any]))] (todoAt Tryd.prog 90 4) ⟨[(.lf (.ptr 0 0)), an, (.lf (.ptr 1 0)), (.lf (.ptr 2 0)), (.lf (.bool not4)), (.lf (.bool first5)), an, an, an, an, an, an, an, an, an, an, an, an, an, an, an, an, an, an, an, an, an, an, an, an, an, an, an, an, an, an, an, an, an, an, an, an, an, an, an, an, an, an, an, an, an, an, an, an, an, an, an, an, an, an], [(.box [.str, .bool] [(.str h0_0), (.bool h0_1)]), (.box [(.int IntKind.i64), (.sl 48), (.int IntKind.i64), (.int IntKind.i64), (.sl 25)] [(.int IntKind.i64 h1_0), (.row 3), (.int IntKind.i64 h1_2), (.int IntKind.i64 h1_3), (.row 4)]), (.box (List.replicate 256 .bool) (arrB h2 256)), (.row 48 h3 true), (.row 25 h4 true)]⟩
noncomputable def set_q7 (not4 : Bool) (lo6 : Int) (one7 : Bool) (h0_0 : ByteArray) (h0_1 : Bool) (h1_0 : Int) (h1_2 : Int) (h1_3 : Int) (h2 : Nat → Bool) (h3 : List (List L)) (h4 : List (List L)) : Req := .point 90 [(some ([.str, .bool], [.any, .any]))] (todoAt Tryd.prog 90 7) ⟨[(.lf (.ptr 0 0)), an, (.lf (.ptr 1 0)), (.lf (.ptr 2 0)), (.lf (.bool not4)), an, (.lf (.int IntKind.u8 lo6)), (.lf (.bool one7)), an, an, an, an, an, an, an, an, an, an, an, an, an, an, an, an, an, an, an, an, an, an, an, an, an, an, an, an, an, an, an, an, an, an, an, an, an, an, an, an, an, an, an, an, an, an, an, an, an, an, an, an], [(.box [.str, .bool] [(.str h0_0), (.bool h0_1)]), (.box [(.int IntKind.i64), (.sl 48), (.int IntKind.i64), (.int IntKind.i64), (.sl 25)] [(.int IntKind.i64 h1_0), (.row 3), (.int IntKind.i64 h1_2), (.int IntKind.i64 h1_3), (.row 4)]), (.box (List.replicate 256 .bool) (arrB h2 256)), (.row 48 h3 true), (.row 25 h4 true)]⟩
noncomputable def set_q12 (not4 : Bool) (h0_0 : ByteArray) (h0_1 : Bool) (h1_0 : Int) (h1_2 : Int) (h1_3 : Int) (h2 : Nat → Bool) (h3 : List (List L)) (h4 : List (List L)) : Req := .point 90 [(some ([.str, .bool], [.any, .any]))] (todoAt Tryd.prog 90 12) ⟨[(.lf (.ptr 0 0)), an, (.lf (.ptr 1 0)), (.lf (.ptr 2 0)), (.lf (.bool not4)), an, an, an, an, an, an, an, an, an, an, an, an, an, an, an, an, an, an, an, an, an, an, an, an, an, an, an, an, an, an, an, an, an, an, an, an, an, an, an, an, an, an, an, an, an, an, an, an, an, an, an, an, an, an, an], [(.box [.str, .bool] [(.str h0_0), (.bool h0_1)]), (.box [(.int IntKind.i64), (.sl 48), (.int IntKind.i64), (.int IntKind.i64), (.sl 25)] [(.int IntKind.i64 h1_0), (.row 3), (.int IntKind.i64 h1_2), (.int IntKind.i64 h1_3), (.row 4)]), (.box (List.replicate 256 .bool) (arrB h2 256)), (.row 48 h3 true), (.row 25 h4 true)]⟩
noncomputable def set_q11 (not4 : Bool) (lo6 : Int) (hi8 : Int) (h0_0 : ByteArray) (h0_1 : Bool) (h1_0 : Int) (h1_2 : Int) (h1_3 : Int) (h2 : Nat → Bool) (h3 : List (List L)) (h4 : List (List L)) : Req := .point 90 [(some ([.str, .bool], [.any, .any]))] (todoAt Tryd.prog 90 11) ⟨[(.lf (.ptr 0 0)), an, (.lf (.ptr 1 0)), (.lf (.ptr 2 0)), (.lf (.bool not4)), an, (.lf (.int IntKind.u8 lo6)), an, (.lf (.int IntKind.u8 hi8)), an, an, an, an, an, an, an, an, an, an, an, an, an, an, an, an, an, an, an, an, an, an, an, an, an, an, an, an, an, an, an, an, an, an, an, an, an, an, an, an, an, an, an, an, an, an, an, an, an, an, an], [(.box [.str, .bool] [(.str h0_0), (.bool h0_1)]), (.box [(.int IntKind.i64), (.sl 48), (.int IntKind.i64), (.int IntKind.i64), (.sl 25)] [(.int IntKind.i64 h1_0), (.row 3), (.int IntKind.i64 h1_2), (.int IntKind.i64 h1_3), (.row 4)]), (.box (List.replicate 256 .bool) (arrB h2 256)), (.row 48 h3 true), (.row 25 h4 true)]⟩
noncomputable def set_q15 (h0_0 : ByteArray) (h0_1 : Bool) (h1_0 : Int) (h1_2 : Int) (h1_3 : Int) (h2 : Nat → Bool) (h3 : List (List L)) (h4 : List (List L)) : Req := .point 90 [(some ([.str, .bool], [.any, .any]))] (todoAt Tryd.prog 90 15) ⟨[an, an, (.lf (.ptr 1 0)), (.lf (.ptr 2 0)), an, an, an, an, an, an, an, an, an, an, an, an, an, an, an, an, an, an, an, an, an, an, an, an, an, an, an, an, an, an, an, an, an, an, an, an, an, an, an, an, an, an, an, an, an, an, an, an, an, an, an, an, an, an, an, an], [(.box [.str, .bool] [(.str h0_0), (.bool h0_1)]), (.box [(.int IntKind.i64), (.sl 48), (.int IntKind.i64), (.int IntKind.i64), (.sl 25)] [(.int IntKind.i64 h1_0), (.row 3), (.int IntKind.i64 h1_2), (.int IntKind.i64 h1_3), (.row 4)]), (.box (List.replicate 256 .bool) (arrB h2 256)), (.row 48 h3 true), (.row 25 h4 true)]⟩
theorem set_e (G : Req → R) (s : ByteArray) (b : Bool) : runB (cfg [k_take, k_next, k_elem, k_badd, k_want, k_invert, k_branges]) G (.enter 90 [(.lf (.ptr 0 0))] [(.box [.str, .bool] [(.str (s)), (.bool (b))])]) =
  (G (set_q4 (takesS (bl s, b) (u8 94)) true (mk (Prod.fst (takeS (bl s, b) (u8 94)))) b 0 0 0 (fun j => false) [] [])) := by kernel_rfl
theorem set_p4 (G : Req → R) (not4 : Bool) (first5 : Bool) (h0_0 : ByteArray) (h0_1 : Bool) (h1_0 : Int) (h1_2 : Int) (h1_3 : Int) (h2 : Nat → Bool) (h3 : List (List L)) (h4 : List (List L)) : runB (cfg [k_take, k_next, k_elem, k_badd, k_want, k_invert, k_branges]) G (set_q4 not4 first5 h0_0 h0_1 h1_0 h1_2 h1_3 h2 h3 h4) =
  (cond (!h0_1)
   (cond (first5)
    (cond (isB (arrB (fun j => h2 j) 256))
     (G (set_q7 not4 ((↑(UInt8.toNat (Prod.fst (Prod.fst (elemS (bl h0_0, h0_1) (getB (arrB (fun j => h2 j) 256)))))) : Int)) (Prod.snd (Prod.fst (elemS (bl h0_0, h0_1) (getB (arrB (fun j => h2 j) 256))))) (mk (Prod.fst (Prod.fst (Prod.snd (elemS (bl h0_0, h0_1) (getB (arrB (fun j => h2 j) 256))))))) (Prod.snd (Prod.fst (Prod.snd (elemS (bl h0_0, h0_1) (getB (arrB (fun j => h2 j) 256)))))) h1_0 h1_2 h1_3 (fun j => Prod.snd (Prod.snd (elemS (bl h0_0, h0_1) (getB (arrB (fun j => h2 j) 256)))) j) h3 h4))
     none)
    (cond ((↑(UInt8.toNat (nextS (bl h0_0, h0_1))) : Int) != 93)
     (cond (isB (arrB (fun j => h2 j) 256))
      (G (set_q7 not4 ((↑(UInt8.toNat (Prod.fst (Prod.fst (elemS (bl h0_0, h0_1) (getB (arrB (fun j => h2 j) 256)))))) : Int)) (Prod.snd (Prod.fst (elemS (bl h0_0, h0_1) (getB (arrB (fun j => h2 j) 256))))) (mk (Prod.fst (Prod.fst (Prod.snd (elemS (bl h0_0, h0_1) (getB (arrB (fun j => h2 j) 256))))))) (Prod.snd (Prod.fst (Prod.snd (elemS (bl h0_0, h0_1) (getB (arrB (fun j => h2 j) 256)))))) h1_0 h1_2 h1_3 (fun j => Prod.snd (Prod.snd (elemS (bl h0_0, h0_1) (getB (arrB (fun j => h2 j) 256)))) j) h3 h4))
      none)
     (G (set_q12 not4 h0_0 h0_1 h1_0 h1_2 h1_3 (fun j => h2 j) h3 h4))))
   (G (set_q12 not4 h0_0 h0_1 h1_0 h1_2 h1_3 (fun j => h2 j) h3 h4))) := by kernel_rfl
theorem set_p7 (G : Req → R) (not4 : Bool) (lo6 : Int) (one7 : Bool) (h0_0 : ByteArray) (h0_1 : Bool) (h1_0 : Int) (h1_2 : Int) (h1_3 : Int) (h2 : Nat → Bool) (h3 : List (List L)) (h4 : List (List L)) : runB (cfg [k_take, k_next, k_elem, k_badd, k_want, k_invert, k_branges]) G (set_q7 not4 lo6 one7 h0_0 h0_1 h1_0 h1_2 h1_3 h2 h3 h4) =
  (cond (one7)
   (cond (takesS (bl h0_0, h0_1) (u8 45))
    (cond (isB (arrB (fun j => h2 j) 256))
     (cond (!Prod.snd (Prod.fst (elemS (bl (mk (Prod.fst (takeS (bl h0_0, h0_1) (u8 45)))), h0_1) (getB (arrB (fun j => h2 j) 256)))))
      (G (set_q11 not4 lo6 ((↑(UInt8.toNat (Prod.fst (Prod.fst (elemS (bl (mk (Prod.fst (takeS (bl h0_0, h0_1) (u8 45)))), h0_1) (getB (arrB (fun j => h2 j) 256)))))) : Int)) (mk (Prod.fst (Prod.fst (Prod.snd (elemS (bl (mk (Prod.fst (takeS (bl h0_0, h0_1) (u8 45)))), h0_1) (getB (arrB (fun j => h2 j) 256))))))) true h1_0 h1_2 h1_3 (fun j => Prod.snd (Prod.snd (elemS (bl (mk (Prod.fst (takeS (bl h0_0, h0_1) (u8 45)))), h0_1) (getB (arrB (fun j => h2 j) 256)))) j) h3 h4))
      (cond (ltI (↑(UInt8.toNat (Prod.fst (Prod.fst (elemS (bl (mk (Prod.fst (takeS (bl h0_0, h0_1) (u8 45)))), h0_1) (getB (arrB (fun j => h2 j) 256)))))) : Int) lo6)
       (G (set_q11 not4 lo6 ((↑(UInt8.toNat (Prod.fst (Prod.fst (elemS (bl (mk (Prod.fst (takeS (bl h0_0, h0_1) (u8 45)))), h0_1) (getB (arrB (fun j => h2 j) 256)))))) : Int)) (mk (Prod.fst (Prod.fst (Prod.snd (elemS (bl (mk (Prod.fst (takeS (bl h0_0, h0_1) (u8 45)))), h0_1) (getB (arrB (fun j => h2 j) 256))))))) true h1_0 h1_2 h1_3 (fun j => Prod.snd (Prod.snd (elemS (bl (mk (Prod.fst (takeS (bl h0_0, h0_1) (u8 45)))), h0_1) (getB (arrB (fun j => h2 j) 256)))) j) h3 h4))
       (G (set_q11 not4 lo6 ((↑(UInt8.toNat (Prod.fst (Prod.fst (elemS (bl (mk (Prod.fst (takeS (bl h0_0, h0_1) (u8 45)))), h0_1) (getB (arrB (fun j => h2 j) 256)))))) : Int)) (mk (Prod.fst (Prod.fst (Prod.snd (elemS (bl (mk (Prod.fst (takeS (bl h0_0, h0_1) (u8 45)))), h0_1) (getB (arrB (fun j => h2 j) 256))))))) (Prod.snd (Prod.fst (Prod.snd (elemS (bl (mk (Prod.fst (takeS (bl h0_0, h0_1) (u8 45)))), h0_1) (getB (arrB (fun j => h2 j) 256)))))) h1_0 h1_2 h1_3 (fun j => Prod.snd (Prod.snd (elemS (bl (mk (Prod.fst (takeS (bl h0_0, h0_1) (u8 45)))), h0_1) (getB (arrB (fun j => h2 j) 256)))) j) h3 h4))))
     none)
    (G (set_q4 not4 false (mk (Prod.fst (takeS (bl h0_0, h0_1) (u8 45)))) h0_1 h1_0 h1_2 h1_3 (fun j => h2 j) h3 h4)))
   (G (set_q4 not4 false h0_0 h0_1 h1_0 h1_2 h1_3 (fun j => h2 j) h3 h4))) := by kernel_rfl
theorem set_p12 (G : Req → R) (not4 : Bool) (h0_0 : ByteArray) (h0_1 : Bool) (h1_0 : Int) (h1_2 : Int) (h1_3 : Int) (h2 : Nat → Bool) (h3 : List (List L)) (h4 : List (List L)) : runB (cfg [k_take, k_next, k_elem, k_badd, k_want, k_invert, k_branges]) G (set_q12 not4 h0_0 h0_1 h1_0 h1_2 h1_3 h2 h3 h4) =
  (cond (not4)
   (cond (isB (arrB (fun j => h2 j) 256))
    (G (set_q15 (mk (Prod.fst (wantS (bl h0_0, h0_1) (u8 93)))) (Prod.snd (wantS (bl h0_0, h0_1) (u8 93))) h1_0 h1_2 h1_3 (fun j => !getB (arrB (fun j => h2 j) 256) j) h3 h4))
    none)
   (G (set_q15 (mk (Prod.fst (wantS (bl h0_0, h0_1) (u8 93)))) (Prod.snd (wantS (bl h0_0, h0_1) (u8 93))) h1_0 h1_2 h1_3 (fun j => h2 j) h3 h4))) := by kernel_rfl
theorem set_p11 (G : Req → R) (not4 : Bool) (lo6 : Int) (hi8 : Int) (h0_0 : ByteArray) (h0_1 : Bool) (h1_0 : Int) (h1_2 : Int) (h1_3 : Int) (h2 : Nat → Bool) (h3 : List (List L)) (h4 : List (List L)) : runB (cfg [k_take, k_next, k_elem, k_badd, k_want, k_invert, k_branges]) G (set_q11 not4 lo6 hi8 h0_0 h0_1 h1_0 h1_2 h1_3 h2 h3 h4) =
  (cond (isB (arrB (fun j => h2 j) 256) && (leI 0 lo6 && (leI lo6 255 && (leI 0 hi8 && leI hi8 255))))
   (G (set_q4 not4 false h0_0 h0_1 h1_0 h1_2 h1_3 (fun j => getB (arrB (fun j => h2 j) 256) j || leI lo6 (↑j : Int) && leI (↑j : Int) hi8) h3 h4))
   none) := by kernel_rfl
theorem set_p15 (G : Req → R) (h0_0 : ByteArray) (h0_1 : Bool) (h1_0 : Int) (h1_2 : Int) (h1_3 : Int) (h2 : Nat → Bool) (h3 : List (List L)) (h4 : List (List L)) : runB (cfg [k_take, k_next, k_elem, k_badd, k_want, k_invert, k_branges]) G (set_q15 h0_0 h0_1 h1_0 h1_2 h1_3 h2 h3 h4) =
  (cond (isB (arrB (fun j => h2 j) 256))
   (some [(.int IntKind.i64 (1)), (.lst 48 (encRs (canR (getB (arrB (fun j => h2 j) 256)) 256))), (.int IntKind.i64 (0)), (.int IntKind.i64 (0)), (.lst 25 []), (.str (h0_0)), (.bool (h0_1))])
   none) := by kernel_rfl

end Go.Ab
namespace Go.Ab
open Go.Proofs

theorem takesS_nil (b : Bool) (c : UInt8) : takesS ([], b) c = false := by cases b <;> rfl
theorem takesS_bad (l : List UInt8) (c : UInt8) : takesS (l, true) c = false := rfl
theorem takesS_cons (x : UInt8) (l : List UInt8) (c : UInt8) : takesS (x :: l, false) c = decide (x = c) := by
  unfold takesS
  simp only [List.head?_cons, Bool.not_false, Bool.true_and]
  rw [Bool.eq_iff_iff, decide_eq_true_eq, beq_iff_eq, Option.some.injEq]
theorem takes_cases {s : RS} {c : UInt8} (h : takesS s c = true) : ∃ l, s = (c :: l, false) := by
  obtain ⟨l, b⟩ := s
  cases b with
  | true => rw [takesS_bad] at h; cases h
  | false =>
    cases l with
    | nil => rw [takesS_nil] at h; cases h
    | cons x l => rw [takesS_cons] at h; have := of_decide_eq_true h; subst this; exact ⟨l, rfl⟩
theorem takeS_no {s : RS} {c : UInt8} (h : takesS s c = false) : takeS s c = s := by unfold takeS; rw [h]; rfl
theorem takeS_yes (c : UInt8) (l : List UInt8) : takeS (c :: l, false) c = (l, false) := by unfold takeS; rw [takesS_cons]; simp
theorem takeS_pair (l : List UInt8) (b : Bool) (c : UInt8) : ((takeS (l, b) c).1, b) = takeS (l, b) c := rfl
theorem takeS_snd (s : RS) (c : UInt8) : (takeS s c).2 = s.2 := rfl
theorem takeS_len (s : RS) (c : UInt8) : (takeS s c).1.length ≤ s.1.length := by
  unfold takeS
  split <;> simp
theorem takeS_lt {s : RS} {c : UInt8} (h : takesS s c = true) : (takeS s c).1.length + 1 = s.1.length := by
  obtain ⟨l, rfl⟩ := takes_cases h
  rw [takeS_yes]; rfl
theorem wantS_len (s : RS) (c : UInt8) : (wantS s c).1.length ≤ s.1.length := by
  unfold wantS
  split <;> simp
theorem next_holds : Holds k_next := con_run (xs := []) hold0 fun aa hp r h => by
  split at h
  case h_2 => cases h
  rename_i s b
  obtain ⟨_, rfl⟩ := xo h
  obtain ⟨l, rfl⟩ := str_cases s
  refine Runs.by (next_e · _ _) ?_
  rw [bl_mk, bl_mk, size_mk]
  cases l with
  | nil => exact .ret' (by cases b <;> rfl)
  | cons x l =>
    cases b with
    | true => exact .ret
    | false =>
      rw [ev_lt_t (by rw [List.length_cons]; omega)]
      exact .ret
theorem take_holds : Holds k_take := con_run (xs := []) hold0 fun aa hp r h => by
  split at h
  case h_2 => cases h
  rename_i c s b
  obtain ⟨g, rfl⟩ := xo h
  obtain ⟨y, rfl⟩ := okB_of g
  obtain ⟨l, rfl⟩ := str_cases s
  refine Runs.by (take_e · _ _ _) ?_
  rw [bl_mk, bl_mk, size_mk, u8_of]
  cases l with
  | nil => exact .ret' (by cases b <;> rfl)
  | cons x l =>
    cases b with
    | true => exact .ret
    | false =>
      have e : byI (mk (x :: l)) 0 = (x.toNat : Int) := rfl
      rw [ev_lt_t (by rw [List.length_cons]; omega), ev_le_t (by rw [List.length_cons]; omega), e, ext_mk, bne, beq_u8]
      by_cases h : x = y
      · subst h
        rw [decide_eq_true rfl, takesS_cons, takeS_yes, decide_eq_true rfl]
        exact .ret' (by simp)
      · have h2 : takesS (x :: l, false) y = false := by rw [takesS_cons, decide_eq_false h]
        rw [decide_eq_false h, takeS_no h2, h2]
        exact .ret
theorem want_holds : Holds k_want := con_run (xs := [k_take]) (hold1 take_holds hold0) fun aa hp r h => by
  split at h
  case h_2 => cases h
  rename_i c s b
  obtain ⟨g, rfl⟩ := xo h
  obtain ⟨l, rfl⟩ := str_cases s
  refine Runs.by (want_e · _ _ _) ?_
  rw [g, bl_mk]
  unfold wantS
  cases h : takesS (l, b) (u8 c) with
  | true =>
    refine .ret' ?_
    unfold takeS
    rw [h]; rfl
  | false => rw [takeS_no h]; exact .ret
theorem le_u8 (a b : UInt8) : leI (a.toNat : Int) (b.toNat : Int) = decide (a ≤ b) := by
  rw [leI_eq]; congr 1; rw [eq_iff_iff, UInt8.le_iff_toNat_le]; omega
theorem dig_48 (c : UInt8) : leI 48 (c.toNat : Int) = decide (48 ≤ c) := le_u8 48 c
theorem dig_57 (c : UInt8) : leI (c.toNat : Int) 57 = decide (c ≤ 57) := le_u8 c 57
theorem numL_runs (l0 : List UInt8) : ∀ (k : Nat) (n : Int) (d : Nat) (l : List UInt8) (b : Bool), 4 ≤ k + d → d ≤ 3 → 0 ≤ n → n < 10 ^ d →
    Runs (cfg [k_next, k_take]) (number_q3 n (d : Nat) ((nextS (l, b)).toNat : Int) (mk l) b)
      [.int .i64 (numL k n d (l, b)).1, .str (mk (numL k n d (l, b)).2.2.1), .bool (decide ((numL k n d (l, b)).2.1 = 0) || (numL k n d (l, b)).2.2.2)]
  | 0, n, d, l, b, h1, h2, h3, h4 => by omega
  | k + 1, n, d, l, b, h1, h2, h3, h4 => by
    refine Runs.by (number_p3 · _ _ _ _ _) ?_
    have hfin : ∀ (n d : Int) (l : List UInt8) (b : Bool), RunsF (cfg [k_next, k_take]) (fun _ => cond (d == 0) (some [.int .i64 n, .str (mk l), .bool true]) (some [.int .i64 n, .str (mk l), .bool b])) [.int .i64 n, .str (mk l), .bool (decide (d = 0) || b)] := fun n d l b => by
      by_cases h : (d : Int) = 0
      · rw [ev_eq_t h, decide_eq_true h]; exact .ret
      · rw [ev_eq_f h, decide_eq_false h]; exact .ret
    rw [dig_48, dig_57, okB_u8, u8_of, bl_mk, bl_mk, numL]
    unfold digB
    by_cases c1 : 48 ≤ nextS (l, b)
    · rw [decide_eq_true c1]
      by_cases c2 : nextS (l, b) ≤ 57
      · rw [decide_eq_true c2]
        simp only [Bool.and_self, if_true, cond_true]
        by_cases c3 : d = 3
        · subst c3
          rw [ev_eq_t (by rfl), if_pos (.inl rfl)]
          simp only [cond_true]
          exact hfin n _ l b
        · have hlt : 48 ≤ (nextS (l, b)).toNat ∧ (nextS (l, b)).toNat ≤ 57 := ⟨UInt8.le_iff_toNat_le.1 c1, UInt8.le_iff_toNat_le.1 c2⟩
          have hn : n < 100 := by
            have : d = 0 ∨ d = 1 ∨ d = 2 := by omega
            rcases this with rfl | rfl | rfl <;> simp at h4 <;> omega
          rw [ev_eq_f (by omega)]
          simp only [cond_false]
          have ih := numL_runs l0 k (10 * n + (((nextS (l, b)).toNat : Int) - 48)) (d + 1) (takeS (l, b) (nextS (l, b))).1 b (by omega) (by omega) (by omega) (by rw [Int.pow_succ]; omega)
          rw [takeS_pair] at ih
          have e1 : wrapI .i64 (wrapI .i64 (10 * n) + wrapI .i64 (wrapI .u8 (((nextS (l, b)).toNat : Int) - 48))) = 10 * n + (((nextS (l, b)).toNat : Int) - 48) := by
            rw [w8 (n := ((nextS (l, b)).toNat : Int) - 48) (by omega) (by omega), w64 (n := 10 * n) (by omega) (by omega), w64 (n := ((nextS (l, b)).toNat : Int) - 48) (by omega) (by omega), w64 (by omega) (by omega)]
          have e2 : wrapI .i64 ((d : Int) + 1) = ((d + 1 : Nat) : Int) := by rw [w64 (by omega) (by omega)]; omega
          rw [e1, e2, takeS_pair]
          by_cases c4 : (0 : Int) < d
          · rw [ev_lt_t c4]
            by_cases c5 : n = 0
            · rw [ev_eq_t c5, if_pos (.inr ⟨c4, c5⟩)]
              simp only [cond_true]
              exact hfin n _ l b
            · rw [ev_eq_f c5, if_neg (by omega)]
              exact .go (by simpa using ih)
          · rw [ev_lt_f (by omega), if_neg (by omega)]
            exact .go (by simpa using ih)
      · rw [decide_eq_false c2, if_neg (by simp)]
        exact hfin n _ l b
    · rw [decide_eq_false c1, if_neg (by simp)]
      exact hfin n _ l b
theorem number_holds : Holds k_number := con_run (xs := [k_next, k_take]) (hold1 next_holds (hold1 take_holds hold0)) fun aa hp r h => by
  split at h
  case h_2 => cases h
  rename_i s b
  obtain ⟨_, rfl⟩ := xo h
  obtain ⟨l, rfl⟩ := str_cases s
  refine Runs.by (number_e · _ _) ?_
  exact .go (numL_runs l 4 0 0 l b (by omega) (by omega) (by omega) (by decide))
/-! ### an element of a set -/
def elemV (s : RS) : UInt8 × Bool := (elemS s fun _ => false).1
def elemR (s : RS) : RS := (elemS s fun _ => false).2.1
def elemB (s : RS) : Nat → Bool := (elemS s fun _ => false).2.2
theorem elemS_eq (s : RS) (f : Nat → Bool) : elemS s f = (elemV s, elemR s, fun j => f j || elemB s j) := by
  unfold elemV elemR elemB elemS
  split
  · split
    · refine Prod.ext rfl (Prod.ext rfl ?_)
      funext j; simp
    · refine Prod.ext rfl (Prod.ext rfl ?_)
      funext j; simp
  · split
    · refine Prod.ext rfl (Prod.ext rfl ?_)
      funext j; simp
    · refine Prod.ext rfl (Prod.ext rfl ?_)
      funext j; simp
theorem canR_single (k : Nat) (hk : k < 256) : ∀ n, n ≤ 256 → canR (fun j => decide (j = k)) n = if k < n then [(UInt8.ofNat k, UInt8.ofNat k)] else []
  | 0, _ => by rw [canR, if_neg (by omega)]
  | n + 1, h => by
    rw [canR, canR_single k hk n (by omega)]
    by_cases h1 : n = k
    · subst h1
      simp [stepR_nil]
    · by_cases h2 : k < n
      · have h3 : k < n + 1 := by omega
        simp [h1, h2, h3]
      · have h3 : ¬ k < n + 1 := by omega
        simp [h1, h2, h3]
theorem escF_one {c : UInt8} (h1 : c ≠ 100) (h2 : c ≠ 119) : escF c = fun j => decide (j = (escLo c).toNat) := by
  funext j
  unfold escF escLo
  by_cases a : c = 110
  · rw [if_pos a, if_pos a]; rfl
  · rw [if_neg a, if_neg a]
    by_cases b : c = 116
    · rw [if_pos b, if_pos b]; rfl
    · rw [if_neg b, if_neg b, if_neg h1, if_neg h2]
noncomputable abbrev elC : List (Nat × Con) := [k_next, k_take, k_escape, k_class, k_IndexByte, k_branges]
theorem el13 (c : UInt8) (l : List UInt8) (b : Bool) (h1 : Nat → Bool) (h2 : Nat → Bool) (e : ∀ j, j < 256 → h2 j = escF c j) :
    Runs (cfg elC) (elem_q13 (c.toNat : Int) (mk l) b h1 h2) ([.int .u8 ((if c = 100 ∨ c = 119 then ((0 : UInt8), false) else (escLo c, true)).1.toNat : Int), .bool (if c = 100 ∨ c = 119 then ((0 : UInt8), false) else (escLo c, true)).2, .str (mk l), .bool b] ++ arrB (fun j => h1 j) 256) := by
  refine Runs.by (elem_p13 · _ _ _ _ _) ?_
  have e1 := beq_nat8 c 100 (by decide)
  have e2 := beq_nat8 c 119 (by decide)
  rw [show ((100 : Nat) : Int) = 100 from rfl, show UInt8.ofNat 100 = 100 from rfl] at e1
  rw [show ((119 : Nat) : Int) = 119 from rfl, show UInt8.ofNat 119 = 119 from rfl] at e2
  rw [e1, e2, isB_arr, canR_arr e]
  by_cases c1 : c = 100
  · rw [decide_eq_true c1, if_pos (.inl c1)]; exact .ret
  · rw [decide_eq_false c1]
    by_cases c2 : c = 119
    · rw [decide_eq_true c2, if_pos (.inr c2)]; exact .ret
    · have ht := (escLo c).toNat_lt
      rw [decide_eq_false c2, if_neg (by simp [c1, c2]), escF_one c1 c2, canR_single _ ht 256 (Nat.le_refl _), if_pos ht, UInt8.ofNat_toNat]
      exact .ret
theorem el9 (c : UInt8) (l : List UInt8) (b : Bool) (x f : Nat → Bool) (h2 : Nat → Bool) (e : ∀ j, j < 256 → h2 j = escF c j) (hx : ∀ j, j < 256 → x j = escF c j) : ∀ (k i : Nat) (h1 : Nat → Bool), i + k = 256 → (∀ j, j < 256 → h1 j = (f j || (decide (j < i) && escF c j))) →
    Runs (cfg elC) (elem_q9 (c.toNat : Int) x (i : Nat) (mk l) b h1 h2) ([.int .u8 ((if c = 100 ∨ c = 119 then ((0 : UInt8), false) else (escLo c, true)).1.toNat : Int), .bool (if c = 100 ∨ c = 119 then ((0 : UInt8), false) else (escLo c, true)).2, .str (mk l), .bool b] ++ arrB (fun j => f j || escF c j) 256)
  | 0, i, h1, h, hh => by
    refine Runs.by (elem_p9 · _ _ _ _ _ _ _) ?_
    have : i = 256 := by omega
    subst this
    rw [show ltI ((256 : Nat) : Int) 256 = false from by decide]
    simp only [cond_false]
    have := el13 c l b h1 h2 e
    rw [arrB_congr (f := fun j => h1 j) (g := fun j => f j || escF c j) fun j hj => by rw [hh j hj, decide_eq_true hj, Bool.true_and]] at this
    exact .go this
  | k + 1, i, h1, h, hh => by
    refine Runs.by (elem_p9 · _ _ _ _ _ _ _) ?_
    simp (disch := omega) only [ev_lt_t, ev_le_t, cond_true, Bool.and_self, w64, Nat.zero_add, Int.toNat_natCast, arrGet_eq, L.toBool]
    have hi := hh i (by omega)
    rw [decide_eq_false (Nat.lt_irrefl i), Bool.false_and, Bool.or_false] at hi
    have key : ∀ v, v = (f i || escF c i) → ∀ j, j < 256 → (bif Nat.beq j i then v else h1 j) = (f j || (decide (j < i + 1) && escF c j)) := fun v hv j hj => by
      by_cases e1 : j = i
      · subst e1
        rw [show Nat.beq j j = true from by simp, cond_true, hv, decide_eq_true (Nat.lt_succ_self j), Bool.true_and]
      · rw [show Nat.beq j i = false from by rw [← Bool.not_eq_true, Nat.beq_eq]; exact e1, cond_false, hh j hj]
        have : decide (j < i + 1) = decide (j < i) := by rw [decide_eq_decide]; omega
        rw [this]
    cases hc : h1 i with
    | true =>
      simp only [cond_true]
      exact .go (by simpa using el9 c l b x f h2 e hx k (i + 1) _ (by omega) (key true (by rw [← hi, hc]; rfl)))
    | false =>
      simp only [cond_false]
      exact .go (by simpa using el9 c l b x f h2 e hx k (i + 1) _ (by omega) (key (x i) (by rw [← hi, hc, hx i (by omega)]; rfl)))
theorem elem_holds (hE : Holds k_escape) : Holds k_elem := con_run (xs := elC) (hold1 next_holds (hold1 take_holds (hold1 hE (hold1 class_holds (hold1 IndexByte_holds (hold1 branges_holds hold0)))))) fun aa hp r h => by
  split at h
  case h_2 => cases h
  rename_i s b ks cs
  obtain ⟨g, rfl⟩ := xo h
  rw [Bool.and_eq_true] at g
  have hk := isKB_of g.1
  subst hk
  obtain ⟨f, rfl⟩ := isB_of g.2
  obtain ⟨l, rfl⟩ := str_cases s
  refine Runs.by (elem_e · _ _ _) ?_
  simp only [bl_mk]
  rw [elemS_eq, show u8 92 = 92 from rfl]
  rw [arrB_congr (f := fun j => getB (arrB f 256) j || elemB (l, b) j) (g := fun j => f j || elemB (l, b) j) fun j hj => by rw [getB_arr _ hj]]
  cases h1 : takesS (l, b) 92 with
  | true =>
    rw [takeS_pair]
    refine .go ?_
    refine Runs.by (elem_p4 · _ _ _ _) ?_
    rw [okB_u8, u8_of, bl_mk]
    have hV : elemV (l, b) = (if escOk (nextS (takeS (l, b) 92)) && takesS (takeS (l, b) 92) (nextS (takeS (l, b) 92)) then (if nextS (takeS (l, b) 92) = 100 ∨ nextS (takeS (l, b) 92) = 119 then (0, false) else (escLo (nextS (takeS (l, b) 92)), true)) else (0, false)) := by
      unfold elemV elemS
      rw [if_pos h1]
      split <;> rfl
    have hR : elemR (l, b) = (if escOk (nextS (takeS (l, b) 92)) && takesS (takeS (l, b) 92) (nextS (takeS (l, b) 92)) then takeS (takeS (l, b) 92) (nextS (takeS (l, b) 92)) else ((takeS (l, b) 92).1, true)) := by
      unfold elemR elemS
      rw [if_pos h1]
      split <;> rfl
    have hB : ∀ j, elemB (l, b) j = (if escOk (nextS (takeS (l, b) 92)) && takesS (takeS (l, b) 92) (nextS (takeS (l, b) 92)) then escF (nextS (takeS (l, b) 92)) j else false) := fun j => by
      unfold elemB elemS
      rw [if_pos h1]
      split
      · simp
      · rfl
    rw [takeS_pair, hV, hR]
    simp only [hB]
    generalize nextS (takeS (l, b) 92) = c
    cases h2 : escOk c with
    | false => exact .ret' (by simp)
    | true =>
      simp only [Bool.not_true, cond_false, cond_true, Bool.true_and]
      cases h3 : takesS (takeS (l, b) 92) c with
      | false => rw [takeS_no h3]; exact .ret' (by simp)
      | true =>
        simp only [Bool.not_true, cond_false, if_true]
        refine .go ?_
        refine Runs.by (elem_p8 · _ _ _ _ _) ?_
        refine .go ?_
        have := el9 c (takeS (takeS (l, b) 92) c).1 b (fun j => escF c j) f (fun j => escF c j) (fun _ _ => rfl) (fun _ _ => rfl) 256 0 f (by omega) (fun j hj => by simp)
        exact this
  | false =>
    rw [takeS_no h1]
    refine .go ?_
    refine Runs.by (elem_p16 · _ _ _ _) ?_
    have hc0 : ∀ c : UInt8, c ∈ ([91, 93, 94, 45] : List UInt8) ↔ c ∈ ([91, 93, 94, 45] : List UInt8) := fun _ => Iff.rfl
    rw [okB_u8, u8_of, bl_mk, bl_mk, ixB_le]
    have hV : elemV (l, b) = (if classB (nextS (l, b)) = 2 ∨ nextS (l, b) ∈ ([91, 93, 94, 45] : List UInt8) ∨ takesS (l, b) (nextS (l, b)) = false then (0, false) else (nextS (l, b), true)) := by
      unfold elemV elemS
      rw [if_neg (by rw [h1]; decide)]
      split <;> rfl
    have hR : elemR (l, b) = (if classB (nextS (l, b)) = 2 ∨ nextS (l, b) ∈ ([91, 93, 94, 45] : List UInt8) ∨ takesS (l, b) (nextS (l, b)) = false then (l, true) else takeS (l, b) (nextS (l, b))) := by
      unfold elemR elemS
      rw [if_neg (by rw [h1]; decide)]
      split <;> rfl
    have hB : ∀ j, elemB (l, b) j = (if classB (nextS (l, b)) = 2 ∨ nextS (l, b) ∈ ([91, 93, 94, 45] : List UInt8) ∨ takesS (l, b) (nextS (l, b)) = false then false else decide (j = (nextS (l, b)).toNat)) := fun j => by
      unfold elemB elemS
      rw [if_neg (by rw [h1]; decide)]
      split
      · rfl
      · simp
    rw [hV, hR]
    simp only [hB]
    generalize nextS (l, b) = c
    by_cases c1 : classB c = 2
    · rw [ev_eq_t c1]
      simp only [c1, true_or, if_true]
      exact .ret' (by simp)
    · rw [ev_eq_f c1]
      by_cases c2 : c ∈ ([91, 93, 94, 45] : List UInt8)
      · rw [decide_eq_true c2]
        simp only [c2, true_or, or_true, if_true]
        exact .ret' (by simp)
      · rw [decide_eq_false c2]
        cases c3 : takesS (l, b) c with
        | false =>
          rw [takeS_no c3]
          simp only [or_true, if_true]
          exact .ret' (by simp)
        | true =>
          have hlt := c.toNat_lt
          rw [if_neg (by simp [c1, c2]), if_neg (by simp [c1, c2])]
          simp (disch := omega) only [ev_le_t, ev_lt_t, Bool.and_self, cond_true, cond_false, Bool.not_true, Int.toNat_natCast]
          refine .ret' ?_
          congr 1
          refine arrB_congr fun j hj => ?_
          rw [if_neg (by simp [c1, c2])]
          by_cases e : j = c.toNat
          · subst e
            rw [show Nat.beq c.toNat c.toNat = true from by simp, decide_eq_true rfl, Bool.or_true]; rfl
          · rw [show Nat.beq j c.toNat = false from by rw [← Bool.not_eq_true, Nat.beq_eq]; exact e, decide_eq_false e, Bool.or_false]; rfl
end Go.Ab
namespace Go.Ab
open Go.Proofs

theorem escape_holds : Holds k_escape := con_run (xs := [k_badd, k_class]) (hold1 badd_holds (hold1 class_holds hold0)) fun aa hp r h => by
  split at h
  case h_2 => cases h
  obtain ⟨g, rfl⟩ := xo h
  obtain ⟨c, rfl⟩ := okB_of g
  refine Runs.by (escape_e · _) ?_
  have e1 := beq_nat8 c 110 (by decide)
  have e2 := beq_nat8 c 116 (by decide)
  have e3 := beq_nat8 c 100 (by decide)
  have e4 := beq_nat8 c 119 (by decide)
  rw [show ((110 : Nat) : Int) = 110 from rfl, show UInt8.ofNat 110 = 110 from rfl] at e1
  rw [show ((116 : Nat) : Int) = 116 from rfl, show UInt8.ofNat 116 = 116 from rfl] at e2
  rw [show ((100 : Nat) : Int) = 100 from rfl, show UInt8.ofNat 100 = 100 from rfl] at e3
  rw [show ((119 : Nat) : Int) = 119 from rfl, show UInt8.ofNat 119 = 119 from rfl] at e4
  rw [e1, e2, e3, e4, u8_of]
  have hct := c.toNat_lt
  have hend : ∀ (h0 h1 : Nat → Bool), (∀ j, h1 j = escF c j) → escOk c = true → Runs (cfg [k_badd, k_class]) (escape_q16 h0 h1) (arrB (fun j => escF c j) 256 ++ [.bool (escOk c)]) := fun h0 h1 hh ho => by
    refine Runs.by (escape_p16 · _ _) ?_
    rw [ho]
    refine .ret' ?_
    rw [arrB_congr (g := fun j => escF c j) fun j _ => hh j]
  simp only [isB_arr, Bool.and_true, cond_true]
  by_cases c1 : c = 110
  · subst c1
    exact .go (hend _ _ (fun j => by unfold escF; rw [if_pos rfl, Bool.eq_iff_iff, Bool.and_eq_true, Nat.ble_eq, Nat.ble_eq, decide_eq_true_eq]; omega) rfl)
  · rw [decide_eq_false c1]
    by_cases c2 : c = 116
    · subst c2
      exact .go (hend _ _ (fun j => by unfold escF; rw [if_neg (by decide), if_pos rfl, Bool.eq_iff_iff, Bool.and_eq_true, Nat.ble_eq, Nat.ble_eq, decide_eq_true_eq]; omega) rfl)
    · rw [decide_eq_false c2]
      by_cases c3 : c = 100
      · subst c3
        exact .go (hend _ _ (fun j => by unfold escF; rw [if_neg (by decide), if_neg (by decide), if_pos rfl, Bool.eq_iff_iff, Bool.and_eq_true, Nat.ble_eq, Nat.ble_eq, decide_eq_true_eq]) rfl)
      · rw [decide_eq_false c3]
        by_cases c4 : c = 119
        · subst c4
          exact .go (hend _ _ (fun j => by
            unfold escF
            rw [if_neg (by decide), if_neg (by decide), if_neg (by decide), if_pos rfl, Bool.eq_iff_iff]
            simp only [Bool.or_eq_true, Bool.and_eq_true, Nat.ble_eq, decide_eq_true_eq]; omega) rfl)
        · rw [decide_eq_false c4, ev_le_t (by omega), ev_lt_t (by omega)]
          refine .go ?_
          refine Runs.by (escape_p4 · _ _ _) ?_
          rw [okB_u8, u8_of, dupN_eq]
          have e5 := beq_nat8 c 45 (by decide)
          rw [show ((45 : Nat) : Int) = 45 from rfl, show UInt8.ofNat 45 = 45 from rfl] at e5
          rw [e5]
          have hf : arrB (fun j => bif Nat.beq j ((c.toNat : Int)).toNat then true else false) 256 = arrB (fun j => escF c j) 256 := arrB_congr fun j _ => by
            unfold escF
            rw [if_neg c1, if_neg c2, if_neg c3, if_neg c4, Int.toNat_natCast]
            by_cases e : j = c.toNat
            · subst e; simp
            · rw [show Nat.beq j c.toNat = false from by rw [← Bool.not_eq_true, Nat.beq_eq]; exact e, decide_eq_false e]; rfl
          have ho : escOk c = (decide (classB c = 1) || decide (c = 45)) := by
            unfold escOk
            rw [decide_eq_false c1, decide_eq_false c2, decide_eq_false c3, decide_eq_false c4]; rfl
          rw [hf, ho]
          by_cases c5 : classB c = 1
          · rw [ev_eq_t c5, decide_eq_true c5]; exact .ret
          · rw [ev_eq_f c5, decide_eq_false c5]; exact .ret
theorem elem_ok : Holds k_elem := elem_holds escape_holds

/-! ### lengths -/
theorem elemR_eq (s : RS) : elemR s = if takesS s 92 then (if escOk (nextS (takeS s 92)) && takesS (takeS s 92) (nextS (takeS s 92)) then takeS (takeS s 92) (nextS (takeS s 92)) else ((takeS s 92).1, true))
    else if classB (nextS s) = 2 ∨ nextS s ∈ ([91, 93, 94, 45] : List UInt8) ∨ takesS s (nextS s) = false then (s.1, true) else takeS s (nextS s) := by
  unfold elemR elemS
  split
  · split <;> rfl
  · split <;> rfl
theorem elemR_len (s : RS) : (elemR s).1.length ≤ s.1.length := by
  rw [elemR_eq]
  have h1 := takeS_len s 92
  have h2 := takeS_len (takeS s 92) (nextS (takeS s 92))
  have h3 := takeS_len s (nextS s)
  split
  · split
    · omega
    · exact h1
  · split
    · exact Nat.le_refl _
    · exact h3
theorem elemR_prog (s : RS) : (elemR s).2 = true ∨ (elemR s).1.length + 1 ≤ s.1.length := by
  rw [elemR_eq]
  have h2 := takeS_len (takeS s 92) (nextS (takeS s 92))
  split
  · rename_i h
    have h1 := takeS_lt h
    split
    · right; omega
    · left; rfl
  · split
    · left; rfl
    · rename_i h
      right
      have : takesS s (nextS s) = true := by
        cases ht : takesS s (nextS s) with
        | true => rfl
        | false => exact absurd (.inr (.inr ht)) h
      have := takeS_lt this
      omega
/-- Fuel enough. -/
def fuelOk (n : Nat) (s : RS) : Prop := (s.2 = true ∧ 1 ≤ n) ∨ s.1.length + 2 ≤ n
noncomputable abbrev seC : List (Nat × Con) := [k_take, k_next, k_elem, k_badd, k_want, k_invert, k_branges]
def setRes (not : Bool) (r : RS × (Nat → Bool)) : List L := [.int .i64 1, .lst 48 (encRs (canR (fun j => if not then !(r.2 j) else r.2 j) 256)), .int .i64 0, .int .i64 0, .lst 25 [], .str (mk (wantS r.1 93).1), .bool (wantS r.1 93).2]
theorem set_end (not : Bool) (l : List UInt8) (b : Bool) (h2 F : Nat → Bool) (e : ∀ j, j < 256 → h2 j = F j) : Runs (cfg seC) (set_q12 not (mk l) b 0 0 0 h2 [] []) (setRes not ((l, b), F)) := by
  refine Runs.by (set_p12 · _ _ _ _ _ _ _ _ _) ?_
  rw [isB_arr, bl_mk, show u8 93 = 93 from rfl]
  unfold setRes
  cases not with
  | true =>
    refine .go ?_
    refine Runs.by (set_p15 · _ _ _ _ _ _ _ _) ?_
    rw [isB_arr, canR_arr (g := fun j => !(F j)) fun j hj => by rw [getB_e e j hj]]
    exact .ret
  | false =>
    refine .go ?_
    refine Runs.by (set_p15 · _ _ _ _ _ _ _ _) ?_
    rw [isB_arr, canR_arr (g := F) e]
    exact .ret
theorem set_loop (not : Bool) : ∀ (n : Nat) (first : Bool) (l : List UInt8) (b : Bool) (h2 F : Nat → Bool), fuelOk n (l, b) → (∀ j, j < 256 → h2 j = F j) →
    Runs (cfg seC) (set_q4 not first (mk l) b 0 0 0 h2 [] []) (setRes not (setL n first (l, b) F))
  | 0, first, l, b, h2, F, hn, e => by unfold fuelOk at hn; omega
  | n + 1, first, l, b, h2, F, hn, e => by
    refine Runs.by (set_p4 · _ _ _ _ _ _ _ _ _ _) ?_
    simp only [bl_mk, isB_arr, elemS_eq, cond_true]
    rw [setL]
    have hend := set_end not l b h2 F e
    cases b with
    | true => exact .go hend
    | false =>
      have hbody : RunsF (cfg seC) (fun G => G (set_q7 not ((elemV (l, false)).1.toNat : Int) (elemV (l, false)).2 (mk (elemR (l, false)).1) (elemR (l, false)).2 0 0 0 (fun j => getB (arrB (fun j => h2 j) 256) j || elemB (l, false) j) [] []))
          (setRes not (if (elemS (l, false) F).1.2 && takesS (elemS (l, false) F).2.1 45 then
            setL n false
              (let e2 := elemS (takeS (elemS (l, false) F).2.1 45) (elemS (l, false) F).2.2
               if e2.1.2 = false ∨ e2.1.1 < (elemS (l, false) F).1.1 then (e2.2.1.1, true) else e2.2.1)
              (let e2 := elemS (takeS (elemS (l, false) F).2.1 45) (elemS (l, false) F).2.2
               fun j => e2.2.2 j || (decide ((elemS (l, false) F).1.1.toNat ≤ j) && decide (j ≤ e2.1.1.toNat)))
          else setL n false (elemS (l, false) F).2.1 (elemS (l, false) F).2.2)) := by
        refine .go ?_
        refine Runs.by (set_p7 · _ _ _ _ _ _ _ _ _ _ _) ?_
        simp only [bl_mk, isB_arr, elemS_eq, cond_true]
        have hp := elemR_prog (l, false)
        have hl := elemR_len (l, false)
        have hfu : l.length + 2 ≤ n + 1 := by
          rcases hn with ⟨h, _⟩ | h
          · cases h
          · exact h
        have hf1 : fuelOk n (elemR (l, false)) := by
          unfold fuelOk
          rcases hp with hp | hp
          · exact .inl ⟨hp, by omega⟩
          · right
            have : (l, false).1.length = l.length := rfl
            omega
        have e1 : ∀ j, j < 256 → (getB (arrB (fun j => h2 j) 256) j || elemB (l, false) j) = (F j || elemB (l, false) j) := fun j hj => by rw [getB_e e j hj]
        generalize hV : elemV (l, false) = V at *
        generalize hR : elemR (l, false) = Rr at *
        generalize hB : elemB (l, false) = Bb at *
        obtain ⟨lo, one⟩ := V
        obtain ⟨l1, b1⟩ := Rr
        rw [show u8 45 = 45 from rfl]
        cases one with
        | false => exact .go (set_loop not n false l1 b1 _ _ hf1 e1)
        | true =>
          simp only [cond_true, Bool.true_and]
          cases h45 : takesS (l1, b1) 45 with
          | false =>
            rw [takeS_no h45]
            exact .go (set_loop not n false l1 b1 _ _ hf1 e1)
          | true =>
            simp only [cond_true, if_true, takeS_pair]
            obtain ⟨l2, hl2⟩ := takes_cases h45
            cases hl2
            rw [takeS_yes]
            have hl' := elemR_len (l2, false)
            have hf2 : ∀ x : Bool, fuelOk n ((elemR (l2, false)).1, x) := fun x => by
              unfold fuelOk
              right
              have h3 : (l2, false).1.length = l2.length := rfl
              have h4 : ((45 :: l2, false) : RS).1.length = l2.length + 1 := rfl
              have h5 : ((l, false) : RS).1.length = l.length := rfl
              show (elemR (l2, false)).1.length + 2 ≤ n
              rcases hp with hp | hp
              · cases hp
              · rw [h3] at hl'; rw [h4, h5] at hp; omega
            have hlo : leI 0 (lo.toNat : Int) = true ∧ leI (lo.toNat : Int) 255 = true := ⟨ev_le_t (u8_lo _), ev_le_t (u8_hi _)⟩
            have hhi : leI 0 ((elemV (l2, false)).1.toNat : Int) = true ∧ leI ((elemV (l2, false)).1.toNat : Int) 255 = true := ⟨ev_le_t (u8_lo _), ev_le_t (u8_hi _)⟩
            have step : ∀ x, RunsF (cfg seC) (fun G => G (set_q11 not (lo.toNat : Int) ((elemV (l2, false)).1.toNat : Int) (mk (elemR (l2, false)).1) x 0 0 0 (fun j => getB (arrB (fun j => getB (arrB (fun j => h2 j) 256) j || Bb j) 256) j || elemB (l2, false) j) [] []))
                (setRes not (setL n false ((elemR (l2, false)).1, x) (fun j => (F j || Bb j || elemB (l2, false) j) || (decide (lo.toNat ≤ j) && decide (j ≤ (elemV (l2, false)).1.toNat))))) := fun x => by
              refine .go ?_
              refine Runs.by (set_p11 · _ _ _ _ _ _ _ _ _ _ _) ?_
              rw [isB_arr, hlo.1, hlo.2, hhi.1, hhi.2]
              refine .go (set_loop not n false _ x _ _ (hf2 x) fun j hj => ?_)
              have i1 : leI (lo.toNat : Int) (j : Int) = decide (lo.toNat ≤ j) := by rw [leI_eq]; congr 1; rw [eq_iff_iff]; omega
              have i2 : leI (j : Int) ((elemV (l2, false)).1.toNat : Int) = decide (j ≤ (elemV (l2, false)).1.toNat) := by rw [leI_eq]; congr 1; rw [eq_iff_iff]; omega
              rw [getB_arr _ hj, getB_arr _ hj, e1 j hj, i1, i2]
            rw [lt_u8]
            cases h6 : (elemV (l2, false)).2 with
            | false =>
              simp only [Bool.not_false, cond_true, true_or, if_true]
              exact step true
            | true =>
              by_cases h7 : (elemV (l2, false)).1 < lo
              · rw [decide_eq_true h7]
                simp only [Bool.not_true, cond_false, cond_true, h7, or_true, if_true]
                exact step true
              · rw [decide_eq_false h7]
                simp only [Bool.not_true, cond_false, h7, or_false, Bool.true_eq_false, if_false]
                exact step _
      cases first with
      | true => exact hbody
      | false =>
        have e93 := beq_nat8 (nextS (l, false)) 93 (by decide)
        rw [show ((93 : Nat) : Int) = 93 from rfl, show UInt8.ofNat 93 = 93 from rfl] at e93
        simp only [Bool.not_false, Bool.true_and, Bool.false_or, cond_true, cond_false]
        rw [bne, e93]
        by_cases h : nextS (l, false) = 93
        · rw [decide_eq_true h, if_neg (by simp [h])]
          exact .go hend
        · rw [decide_eq_false h, if_pos (by simp [h])]
          exact hbody
theorem set_holds : Holds k_set := con_run (xs := seC) (hold1 take_holds (hold1 next_holds (hold1 elem_ok (hold1 badd_holds (hold1 want_holds (hold1 invert_holds (hold1 branges_holds hold0))))))) fun aa hp r h => by
  split at h
  case h_2 => cases h
  rename_i s b
  obtain ⟨g, rfl⟩ := xo h
  obtain ⟨l, rfl⟩ := str_cases s
  refine Runs.by (set_e · _ _) ?_
  rw [bl_mk, show u8 94 = 94 from rfl]
  have ht := takeS_len (l, b) 94
  have := set_loop (takesS (l, b) 94) (l.length + 2) true (takeS (l, b) 94).1 b (fun _ => false) (fun _ => false) (.inr (by show (takeS (l, b) 94).1.length + 2 ≤ l.length + 2; have h5 : ((l, b) : RS).1.length = l.length := rfl; omega)) (fun _ _ => rfl)
  rw [takeS_pair] at this
  exact .go this
end Go.Ab
